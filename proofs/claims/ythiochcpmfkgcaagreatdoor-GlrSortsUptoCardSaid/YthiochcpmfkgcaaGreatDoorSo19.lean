/- Walks and plain laws that the last text stands on: TbMake. -/
import Derived.Test.YthiochcpmfkgcaaGreatDoorSo14
set_option linter.unusedVariables false
set_option linter.unusedSimpArgs false
set_option maxRecDepth 100000
set_option maxHeartbeats 16000000
namespace Go.Proofs.YthiochcpmfkgcaaGreatDoor.Tb
open Go Go.RowKit Go.Proofs Go.Maps Mx
theorem infoInts:(Tryz.prog.info? 57).map (fun i=>(i.zero,i.size,i.bytes))=some (some (.slice none 0 0),1,24):=by kernel_rfl
def MadeM (g:Gr) (sv pv fv lv:Value) (B mb ob bm:Nat) (W:World):Prop :=
 Blk W mb 131 #[sv,pv,.int .i64 g.start,fv,lv,.slice (some ⟨ob,0,none⟩) g.sorts.length g.sorts.length,.map (some bm),.slice none 0 0] /\
 Blk W ob 57 ((List.range g.sorts.length).map (fun _=>Value.slice none 0 0)).toArray /\ MapV Tryz.prog 9 W bm 0 (fun _=>none) /\ B<=mb /\ B<=ob /\ B<=bm /\ bm<mb /\ ob<mb
def madeR (g:Gr) (sv pv fv lv:Value) (B gb:Nat) (i:Nat) (v:Value) (W:World):Prop :=
 match i with
 | 0=>v=.agg #[sv,pv,.int .i64 g.start,fv,lv]
 | 1=>v=.pointer (some ⟨gb,0,none⟩)
 | 2=>v=sv
 | 3=>v=.int .i64 g.sorts.length
 | 4=>∃ ob,v=.slice (some ⟨ob,0,none⟩) g.sorts.length g.sorts.length /\ Blk W ob 57 ((List.range g.sorts.length).map (fun _=>Value.slice none 0 0)).toArray /\ B<=ob
 | 5=>∃ bm,v=.map (some bm) /\ MapV Tryz.prog 9 W bm 0 (fun _=>none) /\ B<=bm
 | 6=>∃ ob bm,v=.agg #[sv,pv,.int .i64 g.start,fv,lv,.slice (some ⟨ob,0,none⟩) g.sorts.length g.sorts.length,.map (some bm),.slice none 0 0] /\
   Blk W ob 57 ((List.range g.sorts.length).map (fun _=>Value.slice none 0 0)).toArray /\ B<=ob /\ MapV Tryz.prog 9 W bm 0 (fun _=>none) /\ B<=bm
 | 7=>∃ mb ob bm,v=.pointer (some ⟨mb,0,none⟩) /\ MadeM g sv pv fv lv B mb ob bm W
 | _=>True
theorem MadeM.low {g:Gr} {sv pv fv lv:Value} {B mb ob bm:Nat} {W W':World} (h:MadeM g sv pv fv lv B mb ob bm W) (hb:Below W.heap.size W W'):MadeM g sv pv fv lv B mb ob bm W' :=
 ⟨h.1.below hb h.1.lt,h.2.1.below hb h.2.1.lt,h.2.2.1.below hb h.2.2.1.lt,h.2.2.2⟩
theorem madeR_stab {g:Gr} {sv pv fv lv:Value} {B gb:Nat} (i:Nat) (v:Value) (w w':World) (h:madeR g sv pv fv lv B gb i v w) (hb:Below w.heap.size w w'):madeR g sv pv fv lv B gb i v w':=by
 unfold madeR at h ⊢
 split at h
 ·exact h
 ·exact h
 ·exact h
 ·exact h
 ·obtain ⟨ob,e,h1,h2⟩:=h;exact ⟨ob,e,h1.below hb h1.lt,h2⟩
 ·obtain ⟨bm,e,h1,h2⟩:=h;exact ⟨bm,e,h1.below hb h1.lt,h2⟩
 ·obtain ⟨ob,bm,e,h1,h2,h3,h4⟩:=h;exact ⟨ob,bm,e,h1.below hb h1.lt,h2,h3.below hb h3.lt,h4⟩
 ·obtain ⟨mb,ob,bm,e,h1⟩:=h;exact ⟨mb,ob,bm,e,h1.low hb⟩
 ·trivial
structure MkFix (g:Gr) (sv pv fv lv:Value) (w:World) (mb ob bm:Nat) (wr:World):Prop where
 gr:Blk wr w.heap.size 27 #[sv,pv,.int .i64 g.start,fv,lv]
 ta:Blk wr (w.heap.size+1) 75 #[.pointer none]
 er:Blk wr (w.heap.size+1+1) 36 #[.int .i64 0]
 mkb:Blk wr mb 131 #[sv,pv,.int .i64 g.start,fv,lv,.slice (some ⟨ob,0,none⟩) g.sorts.length g.sorts.length,.map (some bm),.slice none 0 0]
 met:MapV Tryz.prog 9 wr bm 0 (fun _=>none)
 below:Below w.heap.size w wr
 lo:w.heap.size+1+1<ob
 lb:w.heap.size+1+1<bm
 om:ob<mb
 bm_:bm<mb
 ne:ob≠bm
section
variable {g:Gr} {sv pv fv lv:Value} {w wr w':World} {mb ob bm:Nat}
theorem blk_map_ne {P:Program} {k:TypeId} {W:World} {a b n:Nat} {t:TypeId} {cs:Array Value} {f:Lit->Option Value} (h:Blk W a t cs) (m:MapV P k W b n f):a≠b:=by
 rintro rfl;obtain ⟨D,⟨es,clock,hh,_⟩,_⟩:=m;unfold Blk at h;rw [h] at hh
 cases hh
theorem MkFix.up (h:MkFix g sv pv fv lv w mb ob bm wr) (hb:Below wr.heap.size wr w'):MkFix g sv pv fv lv w mb ob bm w' :=
 ⟨h.gr.below hb h.gr.lt,h.ta.below hb h.ta.lt,h.er.below hb h.er.lt,h.mkb.below hb h.mkb.lt,h.met.below hb h.met.lt,h.below.trans (hb.mono h.below.size),h.lo,h.lb,h.om,h.bm_,h.ne⟩
theorem MkFix.grown (h:MkFix g sv pv fv lv w mb ob bm wr) {row:Option Nat} (hg:wr.grownBy w' row) (hr:∀ b,row=some b->mb<b∨b=ob):MkFix g sv pv fv lv w mb ob bm w':=by
 have hne:∀ b,b<=mb->b≠ob->some b≠row:=fun b hb hn e=>by rcases hr b e.symm with h1 | h1 <;> omega
 have h1:=h.lo;have h2:=h.lb;have h3:=h.om;have h4:=h.bm_;refine ⟨h.gr.grown hg (hne _ (by omega) (by omega)),h.ta.grown hg (hne _ (by omega) (by omega)),h.er.grown hg (hne _ (by omega) (by omega)),h.mkb.grown hg (hne _ (by omega) (by omega)),h.met.grown hg (hne _ (by omega) (Ne.symm h.ne)),?_,h1,h2,h3,h4,h.ne⟩;exact h.below.trans ⟨hg.os,hg.tape,hg.output,hg.size,fun k hk=>hg.block k (by have:=h.gr.lt;omega) (hne k (by omega) (by omega))⟩
end
theorem mkw_start {g:Gr} {sv pv fv lv:Value} {w wr:World} {mb ob bm:Nat} {gv:Nat->Value} {D:Nat->Prop} (h:MkFix g sv pv fv lv w mb ob bm wr) (hO:OfG g (mb+1) ob g.prods.length gv wr) (hl:g.sorts.length<=1000) (hp:ProdsAt D w pv g.prods) :
  MkW g wr.heap.size mb bm [] wr:=by
 have hlo:=h.lo;have hlb:=h.lb;have hom:=h.om;have hbm:=h.bm_;have hmlt:=h.mkb.lt;refine ⟨h.mkb.lt,h.met.lt,by omega,nR _,⟨h.mkb.lt,⟨pv,h.mkb.cell 1,?_⟩,⟨_,h.mkb.cell 5,?_⟩⟩,h.mkb.cell 6,h.mkb.frozen,⟨.slice none 0 0,h.mkb.cell 7,rfl,.inl ⟨rfl,rfl⟩⟩,(fun s hs=>by cases hs),⟨_,h.met,fun l=>rfl⟩,by simp⟩
 ·exact hp.keep (fun b _ hb=>⟨⟨nL hb h.below.size,by omega,by omega⟩,h.below.block b hb⟩)
 ·refine hO.done (by unfold maxLen;omega) (fun b hb=>?_)
  rcases hb with rfl | ⟨h1,c,fz,h2⟩
  ·exact ⟨hO.blk.lt,by omega,h.ne⟩
  ·exact ⟨(Array.getElem?_eq_some_iff.1 h2).1,by omega,by omega⟩
theorem bru_keepM {mb bm:Nat} {w w':World} (h:Bru w) (hk:KeepM mb bm w w') (h1:LB<=mb) (h2:LB<=bm) (h3:LB<=w.heap.size):Bru w':=fun j hj=>by
 have hb:1<LB:=by decide
 have hne:1≠bm:=by have:=nL hb h2;omega
 rw [wB (w:=w) (a:=⟨1,j,none⟩) (hk.low 1 (nL hb h1) (nL hb h3) hne)];exact h j hj
def appR (mb ob pb:Nat) (gs:Value) (n s i B B0 k:Nat) (xs:List Value) (left:Int) (j:Nat) (v:Value) (W:World):Prop :=
 match j with
 | 0=>v=.pointer (some ⟨mb,0,none⟩)
 | 1=>v=.pointer (some ⟨mb,0,none⟩)
 | 2=>v=.pointer (some ⟨mb,5,none⟩)
 | 3=>v=.slice (some ⟨ob,0,none⟩) n n
 | 4=>v=.pointer (some ⟨pb,0,none⟩)
 | 5=>v=.int .i64 left
 | 6=>v=.pointer (some ⟨mb,0,none⟩)
 | 7=>v=.pointer (some ⟨mb,0,none⟩)
 | 8=>v=.pointer (some ⟨mb,5,none⟩)
 | 9=>v=.slice (some ⟨ob,0,none⟩) n n
 | 10=>v=.pointer (some ⟨pb,0,none⟩)
 | 11=>v=.int .i64 left
 | 12=>v=.pointer (some ⟨ob,s,none⟩)
 | 13=>v=gs
 | 14=>v=.int .i64 i
 | 15=>∃ nb,v=.slice (some ⟨nb,0,none⟩) 1 1 /\ W.cell? ⟨nb,0,none⟩=some (.int .i64 i) /\ B0<=nb /\ nb<W.heap.size
 | 16=>W.ownsRow B 3 1 v (k+1) (xs++encN i) /\ ∀ b,v.ownBlock=some b->gs.ownBlock=some b∨B0<=b
 | 17=>v=.pointer (some ⟨ob,s,none⟩)
 | _=>True
theorem appR_low {mb ob pb:Nat} {gs:Value} {n s i B B0 k:Nat} {xs:List Value} {left:Int} (j:Nat) (v:Value) {W W':World} (h:appR mb ob pb gs n s i B B0 k xs left j v W) (hb:Below W.heap.size W W'):appR mb ob pb gs n s i B B0 k xs left j v W':=by
 unfold appR at h ⊢
 split at h <;> first | exact h | skip
 ·obtain ⟨nb,e,h1,h2,h3⟩:=h;exact ⟨nb,e,(hb.cell (p:=⟨nb,0,none⟩) h3).trans h1,h2,nL h3 hb.size⟩
 ·exact ⟨row_below h.1 hb,h.2⟩
theorem appR_grown {mb ob pb:Nat} {gs:Value} {n s i B B0 k:Nat} {xs:List Value} {left:Int} (j:Nat) (v:Value) {W W':World} (h:appR mb ob pb gs n s i B B0 k xs left j v W) (hj:j≠16) (hb:W.grownBy W' gs.ownBlock) (hlt:∀ b,gs.ownBlock=some b->b<B0) :
  appR mb ob pb gs n s i B B0 k xs left j v W':=by
 unfold appR at h ⊢
 split at h <;> first | exact h | exact absurd rfl hj | skip
 obtain ⟨nb,e,h1,h2,h3⟩:=h;exact ⟨nb,e,(wB (w:=W) (a:=⟨nb,0,none⟩) (hb.block nb h3 (by intro e;have:=hlt nb e.symm;omega))).trans h1,h2,nL h3 hb.size⟩
theorem flag_set {L:Array Bool} {i j:Nat} (h:i≠j) {P:Prop} (hJ:L.getD j false=false->P):(L.setIfInBounds i true).getD j false=false->P:=fun e=>hJ (by rwa [getD_set_ne false h] at e)
def MadeT (g:Gr) (w:World) (e:Ending) (w':World):Prop :=
 (∃ tb B sm,makeF g=some (sm.map toSt) /\ e=.returned (.tuple #[.pointer (some ⟨tb,0,none⟩),.int .i64 0]) /\ TabW g B tb sm w' /\ (∀ s∈sm,s.next=nextF s.edges) /\ Below w.heap.size w w') ∨
 (makeF g=none /\ e=.returned (.tuple #[.pointer none,.int .i64 3]) /\ Below w.heap.size w w')
theorem res2 (tmps:Array Value) (w:World) (a b:Nat) (x:Option Addr) (y:Int) (hp:tmps.getD 2 undef=.pointer (some ⟨a,0,none⟩)) (hq:tmps.getD 3 undef=.pointer (some ⟨b,0,none⟩)) (ha:Blk w a 75 #[.pointer x]) (hb:Blk w b 36 #[.int .i64 y]) :
  (results Tryz.f38 tmps).run Tryz.prog w=.ok (.tuple #[.pointer x,.int .i64 y]) w:=by
 have a0:=ha.cell 0;have b0:=hb.cell 0;simp at a0 b0 hp hq;simp [results,Tryz.results38,go_sem,hp,hq,a0,b0]
theorem make_any (D:Nat->Prop) (g:Gr) (hg:Good g) (w:World) (sv pv:Value) (fa la:Option Addr) (fn fc ln lc:Nat) (hs:SliceK D Tb.encS 1 w sv g.sorts) (hp:ProdsAt D w pv g.prods)
    (hchk:∀ W,Below w.heap.size w W->Calls Tryz.prog 61 #[.agg #[sv,pv,.int .i64 g.start,.slice fa fn fc,.slice la ln lc]] W fun e w'=>e=.returned (.int .i64 0) /\ Below W.heap.size W w')
    (hbru:Bru w) (hLB:LB<=w.heap.size) :
    Calls Tryz.prog 38 #[.agg #[sv,pv,.int .i64 g.start,.slice fa fn fc,.slice la ln lc]] w (MadeT g w):=by
  obtain ⟨sa,sc,rfl,_⟩:=id hs;obtain ⟨pa,pc,rfl⟩:∃ pa pc,pv=.slice pa g.prods.length pc:=by
    obtain ⟨l,hl,e⟩:=id hp;obtain ⟨pa,pc,e1,_⟩:=hl.row;exact ⟨pa,pc,by rw [e1,<- e,List.length_map]⟩
  have hmf:∀ (fn:Fn) (first cap:Array Value) (w:World),(Instr.makeFunc fn first cap).run Tryz.prog w=.ok (.func fn first cap) w:=fun _ _ _ _=>rfl;have hmm:=@run_makeMap Tryz.prog;have hsl:=hg.sorts;have hpl:=hg.prods;have H:=Z6.mk hs hp hchk hbru hLB hg;clear hs hp hchk hbru hLB hg
  go_enter_defers Tryz.func38,Tryz.ntmps38
  go_wp2_with fail
  have hB0:Blk (((w.alloc (.cells #[.slice sa g.sorts.length sc,.slice pa g.prods.length pc,.int .i64 g.start,.slice fa fn fc,.slice la ln lc] 27)).alloc (.cells #[.pointer none] 75)).alloc (.cells #[.int .i64 0] 36)) w.heap.size 27 #[.slice sa g.sorts.length sc,.slice pa g.prods.length pc,.int .i64 g.start,.slice fa fn fc,.slice la ln lc]:=((Blk.new_ rfl _ _).alloc _).alloc _;have hB1:Blk (((w.alloc (.cells #[.slice sa g.sorts.length sc,.slice pa g.prods.length pc,.int .i64 g.start,.slice fa fn fc,.slice la ln lc] 27)).alloc (.cells #[.pointer none] 75)).alloc (.cells #[.int .i64 0] 36)) (w.heap.size+1) 75 #[.pointer none]:=(Blk.new_ (by simp) _ _).alloc _;have hB2:Blk (((w.alloc (.cells #[.slice sa g.sorts.length sc,.slice pa g.prods.length pc,.int .i64 g.start,.slice fa fn fc,.slice la ln lc] 27)).alloc (.cells #[.pointer none] 75)).alloc (.cells #[.int .i64 0] 36)) (w.heap.size+1+1) 36 #[.int .i64 0]:=Blk.new_ (by simp) _ _;have hbl:=(((bR w.heap.size w).alloc (nR _) (.cells #[.slice sa g.sorts.length sc,.slice pa g.prods.length pc,.int .i64 g.start,.slice fa fn fc,.slice la ln lc] 27)).alloc (by simp) (.cells #[.pointer none] 75)).alloc (by simp;omega) (.cells #[.int .i64 0] 36);generalize (((w.alloc (.cells #[.slice sa g.sorts.length sc,.slice pa g.prods.length pc,.int .i64 g.start,.slice fa fn fc,.slice la ln lc] 27)).alloc (.cells #[.pointer none] 75)).alloc (.cells #[.int .i64 0] 36))=W1 at hB0 hB1 hB2 hbl ⊢;refine (H.o3 W1 hbl).mono ?_;rintro e W2 ⟨rfl,hb2⟩;have K2:=Z4.mk (hB0.below hb2 hB0.lt) (hB1.below hb2 hB1.lt) (hB2.below hb2 hB2.lt) (hbl.trans (hb2.mono hbl.size));have f0:=K2.o1.cell 0;clear hB0 hB1 hB2 hbl hb2;go_wp2_with fail
  have hgc:∀ W,Below W2.heap.size W2.drew W->W.cell? ⟨w.heap.size,0,none⟩=some (.slice sa g.sorts.length sc) /\ W.cell? ⟨w.heap.size,1,none⟩=some (.slice pa g.prods.length pc) /\ W.cell? ⟨w.heap.size,2,none⟩=some (.int .i64 g.start) /\ W.cell? ⟨w.heap.size,3,none⟩=some (.slice fa fn fc) /\ W.cell? ⟨w.heap.size,4,none⟩=some (.slice la ln lc):=fun W h=>by
    have h1:=K2.o1.drew.below h K2.o1.lt;exact ⟨h1.cell 0,h1.cell 1,h1.cell 2,h1.cell 3,h1.cell 4⟩
  have HF:=Hd hgc;have hsz0:∀ W,Below W2.heap.size W2.drew W->W2.heap.size<=W.heap.size:=fun W h=>h.size;have HZ:=Hd hsz0;clear hgc hsz0;refine wp_region_concT 8 (madeR g (.slice sa g.sorts.length sc) (.slice pa g.prods.length pc) (.slice fa fn fc) (.slice la ln lc) W2.heap.size w.heap.size) (fun A W=>Below A.heap.size A W) (fun _ _=>True) (by kernel_rfl) (by kernel_rfl) (by kernel_rfl) (by kernel_rfl) (bR _ _) trivial (fun h k=>h.trans (k.mono h.size)) ?_ ?_
  · simp only [List.take_succ_cons,List.take_zero]
    refine ⟨?_,?_,?_,?_,?_,?_,?_,?_,trivial⟩
    · intro L T W hG hJ hLs hLi dq fq vq K hK
      have h1:=fq 1 (by decide);simp at h1;obtain ⟨f0,f1,f2,f3,f4⟩:=HF.out W hG;go_simp;exact hK _ _ (bR _ W) (fun j u _ _ _ h=>h) trivial rfl
    · intro L T W hG hJ hLs hLi dq fq vq K hK
      have h1:=fq 1 (by decide);simp at h1;go_simp;exact hK _ _ (bR _ W) (fun j u _ _ _ h=>h) trivial rfl
    · intro L T W hG hJ hLs hLi dq fq vq K hK
      have h1:=vq ⟨1,.data⟩ (by simp) rfl 17 rfl;simp only [madeR] at h1;simp at h1;obtain ⟨f0,f1,f2,f3,f4⟩:=HF.out W hG;go_simp;exact hK _ _ (bR _ W) (fun j u _ _ _ h=>h) trivial rfl
    · intro L T W hG hJ hLs hLi dq fq vq K hK
      have h1:=vq ⟨2,.data⟩ (by simp) rfl 18 rfl;simp only [madeR] at h1;simp at h1;go_simp;exact hK _ _ (bR _ W) (fun j u _ _ _ h=>h) trivial rfl
    · intro L T W hG hJ hLs hLi dq fq vq K hK
      have h1:=vq ⟨3,.data⟩ (by simp) rfl 19 rfl;simp only [madeR] at h1;simp at h1;obtain ⟨i0,hi,hz0,hz1,hz2⟩:=info_parts infoInts;obtain ⟨W',hrun,hown,hgr⟩:=run_make_full (P:=Tryz.prog) W W.heap.size 107 57 i0 (.slice none 0 0) 1 Tryz.underlying107 hi hz0 hz1 .i64 .i64 g.sorts.length (by rw [hz2];omega) (by unfold maxLen;omega) (nR _);have HO:=Z2.mk hown hgr;clear hown hgr hi hz0 hz1 hz2;go_simp;have hbn:Below W.heap.size W W':=⟨HO.o2.os,HO.o2.tape,HO.o2.output,HO.o2.size,fun k hk=>HO.o2.block k hk (by simp)⟩;refine hK _ _ hbn (fun j u _ _ _ h=>madeR_stab j u _ _ h hbn) trivial ⟨_,rfl,?_,HZ.out W hG⟩
      rcases HO.o1.2 with ⟨e,_⟩ | ⟨q,cap,cur,e,_,hh,_,_,hcs,htk⟩
      · cases e
      · injection e with e1 e2 e3
        injection e1 with e1;injection e1 with e1;subst e1;subst e3;rw [Nat.mul_one] at hcs htk;rw [List.take_of_length_le (by simp [hcs])] at htk
        unfold Blk;rw [hh];congr 2;apply Array.ext';rw [htk];show (madeCells #[.slice none 0 0] _).toList=_;rw [toList_madeCells_one,List.map_const',List.length_range]
    · intro L T W hG hJ hLs hLi dq fq vq K hK
      go_simp;have hbn:=(bR W.heap.size W).alloc (nR _) (.map #[] 0);exact hK _ _ hbn (fun j u _ _ _ h=>madeR_stab j u _ _ h hbn) trivial ⟨_,rfl,MapV.made W _ _,HZ.out W hG⟩
    · intro L T W hG hJ hLs hLi dq fq vq K hK
      have h0:=vq ⟨0,.data⟩ (by simp) rfl 16 rfl;obtain ⟨ob,h1,k1⟩:=vq ⟨4,.data⟩ (by simp) rfl 20 rfl;obtain ⟨bm,h2,k2⟩:=vq ⟨5,.data⟩ (by simp) rfl 21 rfl;have HH:=Z2.mk k1 k2;simp only [madeR] at h0;simp at h0 h1 h2;clear k1 k2;go_simp;exact hK _ _ (bR _ W) (fun j u _ _ _ h=>h) trivial ⟨ob,bm,rfl,HH.o1.1,HH.o1.2,HH.o2.1,HH.o2.2⟩
    · intro L T W hG hJ hLs hLi dq fq vq K hK
      obtain ⟨ob,bm,h1,k1,k2,k3,k4⟩:=vq ⟨6,.data⟩ (by simp) rfl 22 rfl;have HH:=Z4.mk k1 k2 k3 k4;simp at h1;clear k1 k2 k3 k4;go_simp;have hbn:=(bR W.heap.size W).alloc (nR _) (.cells #[.slice sa g.sorts.length sc,.slice pa g.prods.length pc,.int .i64 g.start,.slice fa fn fc,.slice la ln lc,.slice (some ⟨ob,0,none⟩) g.sorts.length g.sorts.length,.map (some bm),.slice none 0 0] 131);refine hK _ _ hbn (fun j u _ _ _ h=>madeR_stab j u _ _ h hbn) trivial ⟨_,ob,bm,rfl,Blk.new W _ _,HH.o1.alloc _,HH.o3.alloc _,HZ.out W hG,HH.o2,HH.o4,?_,?_⟩
      · exact HH.o3.lt
      · exact HH.o1.lt
  intro f W3 hG _ hR;obtain ⟨mb,ob,bm,e7,hM⟩:=hR 7 23 (by decide) rfl
  have HM:=Z2.mk hG hM;clear hG hM hR;simp only [concDsts,qZ];rw [e7];clear e7;generalize f 16=v16;generalize f 17=v17;generalize f 18=v18;generalize f 19=v19;generalize f 20=v20;generalize f 21=v21;generalize f 22=v22;clear f;have hFix:MkFix g (.slice sa g.sorts.length sc) (.slice pa g.prods.length pc) (.slice fa fn fc) (.slice la ln lc) w mb ob bm W3:=by
    have hb23:Below W2.heap.size W2 W3:=(show Below W2.heap.size W2 W2.drew from (bR _ _).drew).trans HM.o1;obtain ⟨m1,m2,m3,m4,m5,m6,m7,m8⟩:=HM.o2;have h2:=K2.o3.lt;exact ⟨K2.o1.below hb23 K2.o1.lt,K2.o2.below hb23 K2.o2.lt,K2.o3.below hb23 K2.o3.lt,m1,m3,K2.o4.trans (hb23.mono K2.o4.size),by omega,by omega,m8,m7,blk_map_ne m2 m3⟩
  have hOf:OfG g (mb+1) ob 0 (fun _=>.slice none 0 0) W3:=OfG.start HM.o2.2.1 (by have:=hFix.om;omega);have f1:=hFix.gr.cell 1;simp at f1;have HS:=Z2.mk hFix hOf;clear hFix hOf HM K2 HF HZ f0;go_wp2_with fail
  go_loopg [27,6] g.prods.length (fun m v27 v6 wr=>∃ (i:Nat) (gv:Nat->Value),i<=g.prods.length /\ m=g.prods.length - i /\ v27=.int .i64 i /\ MkFix g (.slice sa g.sorts.length sc) (.slice pa g.prods.length pc) (.slice fa fn fc) (.slice la ln lc) w mb ob bm wr /\ OfG g (mb+1) ob i gv wr /\
    wr.ownsRow (mb+1) 134 2 v6 (ofT g i g.start).length (flatK encIt ((ofT g i g.start).map (·,0))))
  case atStart=>exact ⟨0,_,Nat.zero_le _,rfl,rfl,HS.o1,HS.o2,rfl,.inl ⟨rfl,rfl⟩⟩
  case round =>
    obtain ⟨i,gv,hi,hm,rfl,hF,hO,hf⟩:=hrel;have q0:=hF.gr.cell 0;have q1:=hF.gr.cell 1;have q2:=hF.gr.cell 2;simp at q0 q1 q2
    by_cases hlt:i<g.prods.length
    · obtain ⟨p,hp⟩:∃ p,g.prods[i]?=some p:=⟨_,gE hlt⟩
      obtain ⟨cap,b,o,vr,epv,hbl,hvr,hpc⟩:=H.o2.at_ hp;injection epv with e1 e2 e3;subst e1;subst e3;obtain ⟨ra,rc,rfl,_,_,_⟩:=hvr;have up:∀ {i:Nat} {u:Value},w.cell? ⟨b,i,none⟩=some u->wr.cell? ⟨b,i,none⟩=some u:=fun h=>(wB (hF.below.block b hbl)).trans h
      have f0:=up (hpc 0 _ rfl);have f1:=up (hpc 1 _ rfl);have f2:=up (hpc 2 _ rfl);have f3:=up (hpc 3 _ rfl);have f4:=up (hpc 4 _ rfl);have f5:=up (hpc 5 _ rfl);have f6:=up (hpc 6 _ rfl);simp only [Nat.add_zero] at f0;have hi0:(0:Int)<=i:=by omega
      have hi1:(i:Int)<g.prods.length:=by omega
      have HR:=Z5.mk hm hF hO hf hp;clear hm hF hO hf hp hpc up
      by_cases hrole:p.role=11
      · rw [hrole] at f3
        have HE:=Hd hrole;clear hrole;go_wp2_with fail
        go_roundg (g.prods.length - (i+1))
        case measure=>have:=HR.o1;omega
        case rel =>
          have hbn:=(bR wr.heap.size wr).alloc (nR _) (.cells #[.int .i64 p.left,.slice ra p.right.length rc,.string ⟨p.cons.toArray⟩,.int .i64 11,.bool p.prefer,.bool p.avoid,.int .i64 p.made] 53);refine ⟨i+1,gv,by omega,rfl,rfl,HR.o2.up hbn,(HR.o3.below hbn).skip HR.o5 HE.out,?_⟩;rw [ofT_succ g i g.start p HR.o5,if_neg (by simp [HE.out]),List.append_nil];exact Mx.row_below HR.o4 hbn
      · have HE:=Hd hrole
        have hg:=H.o6;have hleft:=hg.left p (gM HR.o5);clear hg;obtain ⟨s,hs⟩:∃ s:Nat,p.left=(s:Int):=⟨p.left.toNat,by omega⟩;have hsl2:s<g.sorts.length:=by omega
        have hs0:(0:Int)<=s:=by omega
        have hs1:(s:Int)<g.sorts.length:=by omega
        rw [hs] at f0;have HS2:=Hd hs;clear hs hleft;go_wp2_with fail
        have hbn:=(bR wr.heap.size wr).alloc (nR _) (.cells #[.int .i64 s,.slice ra p.right.length rc,.string ⟨p.cons.toArray⟩,.int .i64 p.role,.bool p.prefer,.bool p.avoid,.int .i64 p.made] 53);have hP:Blk (wr.alloc (.cells #[.int .i64 s,.slice ra p.right.length rc,.string ⟨p.cons.toArray⟩,.int .i64 p.role,.bool p.prefer,.bool p.avoid,.int .i64 p.made] 53)) wr.heap.size 53 #[.int .i64 s,.slice ra p.right.length rc,.string ⟨p.cons.toArray⟩,.int .i64 p.role,.bool p.prefer,.bool p.avoid,.int .i64 p.made]:=Blk.new _ _ _;have hF3:=HR.o2.up hbn;have hO3:=HR.o3.below hbn;have hf3:=Mx.row_below HR.o4 hbn;have hpm:=HR.o2.mkb.lt;obtain ⟨pb,hpb⟩:=eX wr.heap.size;rw [hpb] at hP hpm ⊢;generalize (wr.alloc (.cells #[.int .i64 s,.slice ra p.right.length rc,.string ⟨p.cons.toArray⟩,.int .i64 p.role,.bool p.prefer,.bool p.avoid,.int .i64 p.made] 53))=W4 at hP hF3 hO3 hf3 ⊢;have hrow:=hO3.row s hsl2;obtain ⟨ga,gc,hgs⟩:=own_shape hrow;have hgl:∀ bq,(gv s).ownBlock=some bq->mb+1<=bq /\ bq<W4.heap.size:=fun bq hb=>⟨(own_ty hrow bq hb).1,(hrow.lt bq hb).2⟩
        have hcells:∀ W,W4.drew.grownBy W (gv s).ownBlock->W.cell? ⟨mb,5,none⟩=some (.slice (some ⟨ob,0,none⟩) g.sorts.length g.sorts.length) /\ W.cell? ⟨pb,0,none⟩=some (.int .i64 s) /\ W.cell? ⟨ob,s,none⟩=some (gv s):=fun W hG=>by
          have e1:=(hF3.mkb.drew.grown hG (by intro e;have:=(hgl mb e.symm).1;omega)).cell 5;have e2:=(hP.drew.grown hG (fun e=>blk_ne_row hP hrow (by decide) e)).cell 0;have e3:=(hO3.blk.drew.grown hG (by intro e;have:=(hgl ob e.symm).1;have:=hO3.low;omega)).cell s;refine ⟨e1,e2,?_⟩;rw [e3];simp [hsl2]
        have HC:=Hd hcells;have HZ:=Hd (show ∀ W,W4.drew.grownBy W (gv s).ownBlock->W4.heap.size<=W.heap.size from fun W hG=>hG.size);have HP:=Z4.mk hrow (show (ofT g i (s:Int)).length<=100 from Nat.le_trans (ofT_len g i _) (by omega)) (show mb+1<=W4.heap.size from hF3.mkb.lt) (show ∀ bq,(gv s).ownBlock=some bq->bq<W4.heap.size from fun bq hb=>(hgl bq hb).2);have H4:=Z5.mk hP hF3 hO3 hf3 hgl;clear hP hF3 hO3 hf3 hrow hgl hcells hbn hpb q0 q1 q2 f0 f1 f2 f3 f4 f5 f6;refine wp_region_concT 18 (appR mb ob pb (gv s) g.sorts.length s i (mb+1) W4.heap.size (ofT g i (s:Int)).length (flatK encN (ofT g i (s:Int))) (s:Int)) (fun A W=>A.grownBy W (gv s).ownBlock) (fun L W=>L.getD 16 false=false->Below W4.drew.heap.size W4.drew W) (by kernel_rfl) (by kernel_rfl) (by kernel_rfl) (by kernel_rfl) (grown_refl _ _) (fun _=>bR _ _) (fun h k=>grown_trans_opt h k) ?_ ?_
        · simp only [List.take_succ_cons,List.take_zero]
          refine ⟨?_,?_,?_,?_,?_,?_,?_,?_,?_,?_,?_,?_,?_,?_,?_,?_,?_,?_,trivial⟩
          · intro L T W hG hJ hLs hLi dq fq vq K hK
            have h1:=fq 5 (by decide);simp at h1;go_simp;exact hK _ _ (grown_refl W _) (fun j u _ _ _ h=>h) (flag_set (by decide) hJ) rfl
          · intro L T W hG hJ hLs hLi dq fq vq K hK
            have h1:=vq ⟨0,.data⟩ (by simp) rfl 35 rfl;simp only [appR] at h1;simp at h1;go_simp;exact hK _ _ (grown_refl W _) (fun j u _ _ _ h=>h) (flag_set (by decide) hJ) rfl
          · intro L T W hG hJ hLs hLi dq fq vq K hK
            have h1:=vq ⟨1,.data⟩ (by simp) rfl 36 rfl;simp only [appR] at h1;simp at h1;go_simp;exact hK _ _ (grown_refl W _) (fun j u _ _ _ h=>h) (flag_set (by decide) hJ) rfl
          · intro L T W hG hJ hLs hLi dq fq vq K hK
            have h1:=vq ⟨2,.data⟩ (by simp) rfl 37 rfl;simp only [appR] at h1;simp at h1;obtain ⟨c0,c1,c2⟩:=HC.out W hG;go_simp;exact hK _ _ (grown_refl W _) (fun j u _ _ _ h=>h) (flag_set (by decide) hJ) rfl
          · intro L T W hG hJ hLs hLi dq fq vq K hK
            have h1:=fq 8 (by decide);simp at h1;go_simp;exact hK _ _ (grown_refl W _) (fun j u _ _ _ h=>h) (flag_set (by decide) hJ) rfl
          · intro L T W hG hJ hLs hLi dq fq vq K hK
            have h1:=vq ⟨4,.data⟩ (by simp) rfl 39 rfl;simp only [appR] at h1;simp at h1;obtain ⟨c0,c1,c2⟩:=HC.out W hG;go_simp;exact hK _ _ (grown_refl W _) (fun j u _ _ _ h=>h) (flag_set (by decide) hJ) rfl
          · intro L T W hG hJ hLs hLi dq fq vq K hK
            have h1:=fq 5 (by decide);simp at h1;go_simp;exact hK _ _ (grown_refl W _) (fun j u _ _ _ h=>h) (flag_set (by decide) hJ) rfl
          · intro L T W hG hJ hLs hLi dq fq vq K hK
            have h1:=vq ⟨6,.data⟩ (by simp) rfl 41 rfl;simp only [appR] at h1;simp at h1;go_simp;exact hK _ _ (grown_refl W _) (fun j u _ _ _ h=>h) (flag_set (by decide) hJ) rfl
          · intro L T W hG hJ hLs hLi dq fq vq K hK
            have h1:=vq ⟨7,.data⟩ (by simp) rfl 42 rfl;simp only [appR] at h1;simp at h1;go_simp;exact hK _ _ (grown_refl W _) (fun j u _ _ _ h=>h) (flag_set (by decide) hJ) rfl
          · intro L T W hG hJ hLs hLi dq fq vq K hK
            have h1:=vq ⟨8,.data⟩ (by simp) rfl 43 rfl;simp only [appR] at h1;simp at h1;obtain ⟨c0,c1,c2⟩:=HC.out W hG;go_simp;exact hK _ _ (grown_refl W _) (fun j u _ _ _ h=>h) (flag_set (by decide) hJ) rfl
          · intro L T W hG hJ hLs hLi dq fq vq K hK
            have h1:=fq 8 (by decide);simp at h1;go_simp;exact hK _ _ (grown_refl W _) (fun j u _ _ _ h=>h) (flag_set (by decide) hJ) rfl
          · intro L T W hG hJ hLs hLi dq fq vq K hK
            have h1:=vq ⟨10,.data⟩ (by simp) rfl 45 rfl;simp only [appR] at h1;simp at h1;obtain ⟨c0,c1,c2⟩:=HC.out W hG;go_simp;exact hK _ _ (grown_refl W _) (fun j u _ _ _ h=>h) (flag_set (by decide) hJ) rfl
          · intro L T W hG hJ hLs hLi dq fq vq K hK
            have h1:=vq ⟨9,.data⟩ (by simp) rfl 44 rfl;simp only [appR] at h1;simp at h1;have h2:=vq ⟨11,.data⟩ (by simp) rfl 46 rfl;simp only [appR] at h2;simp at h2;go_simp;exact hK _ _ (grown_refl W _) (fun j u _ _ _ h=>h) (flag_set (by decide) hJ) rfl
          · intro L T W hG hJ hLs hLi dq fq vq K hK
            have h1:=vq ⟨12,.data⟩ (by simp) rfl 47 rfl;simp only [appR] at h1;simp at h1;obtain ⟨c0,c1,c2⟩:=HC.out W hG;go_simp;exact hK _ _ (grown_refl W _) (fun j u _ _ _ h=>h) (flag_set (by decide) hJ) hgs.symm
          · intro L T W hG hJ hLs hLi dq fq vq K hK
            have h1:=fq 7 (by decide);simp at h1;go_simp;exact hK _ _ (grown_refl W _) (fun j u _ _ _ h=>h) (flag_set (by decide) hJ) rfl
          · intro L T W hG hJ hLs hLi dq fq vq K hK
            have h1:=vq ⟨14,.data⟩ (by simp) rfl 49 rfl;simp only [appR] at h1;simp at h1;go_simp;have hbn:=(bR W.heap.size W).alloc (nR _) (.cells #[.int .i64 i] 3);exact hK _ _ (grown_alloc (grown_refl W _) _) (fun j u _ _ _ h=>appR_low j u h hbn) (fun e=>(hJ (by rwa [getD_set_ne false (by decide)] at e)).trans (hbn.mono (hJ (by rwa [getD_set_ne false (by decide)] at e)).size)) ⟨_,rfl,(Blk.new W _ _).cell 0,HZ.out W hG,by simp⟩
          · intro L T W hG hJ hLs hLi dq fq vq K hK
            have h1:=vq ⟨13,.data⟩ (by simp) rfl 48 rfl;obtain ⟨nb,h2,k1,k2,k3⟩:=vq ⟨15,.data⟩ (by simp) rfl 50 rfl;have hJ':=hJ (by rw [<- getD_flip (by rw [hLs];decide)];exact hLi);have hown:=Mx.row_below (show W4.drew.ownsRow (mb+1) 3 1 (gv s) (ofT g i (s:Int)).length (flatK encN (ofT g i (s:Int))) from HP.o1) hJ';obtain ⟨i0,hi,hz0,hz1,hz2⟩:=info_parts infoInt;refine wp_append_ownF W _ _ 57 rfl (mb+1) 3 i0 (.int .i64 0) 1 8 Tryz.underlying57 hi hz0 hz1 hz2 rfl (by decide) _ _ _ h1 hown ⟨nb,0,none⟩ 1 1 (encN i) h2 rfl ?_ ?_ ?_ ?_ ?_ ?_
            · intro j u hj
              match j,hj with
              | 0,hj=>obtain rfl:Value.int .i64 i=u:=by simpa [encN] using hj
                      exact k1
            · intro u hu;simp [encN] at hu;subst hu;rfl
            · have:=HP.o2;unfold maxLen;omega
            · have:=HP.o2;omega
            · have:=HZ.out W hG;have:=HP.o3;omega
            intro v' W' hown' hg' hfr;refine hK _ _ hg' (fun j u _ hj _ h=>appR_grown j u h hj hg' HP.o4) (fun e=>?_) ⟨hown',fun b hb=>(hfr b hb).imp id (fun h=>Nat.le_trans (HZ.out W hG) h)⟩;rw [getD_set_self (by rw [hLs];decide)] at e
            cases e
          · intro L T W hG hJ hLs hLi dq fq vq K hK
            have h1:=vq ⟨3,.data⟩ (by simp) rfl 38 rfl;simp only [appR] at h1;simp at h1;have h2:=vq ⟨5,.data⟩ (by simp) rfl 40 rfl;simp only [appR] at h2;simp at h2;go_simp;exact hK _ _ (grown_refl W _) (fun j u _ _ _ h=>h) (flag_set (by decide) hJ) rfl
        intro f W5 hG _ hR;have hr16:=hR 16 51 (by decide) rfl;have hr17:=hR 17 52 (by decide) rfl;simp only [concDsts,qZ];simp only [appR] at hr16 hr17;rw [hr17];clear hR hr17;obtain ⟨xa,xc,hx⟩:=own_shape hr16.1;rw [hx] at hr16 ⊢;clear hx;generalize f 35=v35;generalize f 36=v36;generalize f 37=v37;generalize f 38=v38;generalize f 39=v39;generalize f 40=v40;generalize f 41=v41;generalize f 42=v42;generalize f 43=v43;generalize f 44=v44;generalize f 45=v45;generalize f 46=v46;generalize f 47=v47;generalize f 48=v48;generalize f 49=v49;generalize f 50=v50;clear f;have hg5:W4.grownBy W5 (gv s).ownBlock:=⟨hG.os,hG.tape,hG.output,hG.size,hG.block⟩;have hF5:=H4.o2.grown hg5 (fun bq hb=>.inl (by have:=(H4.o5 bq hb).1;omega));have hP5:=H4.o1.grown hg5 (fun e=>blk_ne_row H4.o1 HP.o1 (by decide) e);have hf5:=H4.o4.kept hg5 (row_ne_row H4.o4 HP.o1 (by decide));have hO5:=H4.o3.push HR.o5 HE.out hsl2 HS2.out hg5 hr16.1 hr16.2;have hob5:=H4.o3.blk.grown hg5 (by intro e;have:=(H4.o5 ob e.symm).1;have:=H4.o3.low;omega);have ho5:W5.cell? ⟨ob,s,none⟩=some (gv s):=by rw [hob5.cell s];simp [hsl2]
        have hfo5:=hob5.frozen s;have hne:pb≠ob:=by have:=H4.o3.low;omega
        have hgr:=grown_set (grown_refl W5 (some ob)) (p:=⟨ob,s,none⟩) rfl (.slice xa ((ofT g i (s:Int)).length+1) xc);have hF6:=hF5.grown hgr (fun bq hb=>.inr (by injection hb with hb;exact hb.symm));have hP6:=hP5.grown hgr (by intro e;injection e with e;exact hne e);have hf6:=hf5.kept hgr (row_ne_low hf5 H4.o3.low);rw [hgs] at ho5;have p0:=hP5.cell 0;have g2:=hF5.gr.cell 2;simp at p0 g2;have hne1:ob≠pb:=Ne.symm hne;have hne2:ob≠w.heap.size:=by have:=hF5.lo;omega
        have hne3:=Ne.symm hne2;have H6:=Z4.mk hF6 hP6 hf6 hO5
        by_cases hst:(s:Int)=g.start
        all_goals clear hr16 hg5 hF5 hP5 hf5 hO5 hob5 hgr hF6 hP6 hf6 hgs hG H4 HP HC HZ
        · have hst2:((s:Int)==g.start)=true:=by simpa using hst
          have HST:=Hd hst;clear hst;obtain ⟨i0,hi2,hz0,hz1,hz2⟩:=info_parts infoItem;have hol:=HR.o4;have hfl:(ofT g i g.start).length<=100:=Nat.le_trans (ofT_len g i _) (by omega);have hmw5:mb+1<=W5.heap.size:=by have:=H6.o1.mkb.lt;simp at this;omega
          clear hol;go_wp2_with (at_builtin;refine wpList_append_own _ rfl _ _ 132 rfl (mb+1) 134 i0 (.agg #[.int .i64 0,.int .i64 0]) 2 16 Tryz.underlying132 hi2 hz0 hz1 hz2 rfl (by decide) _ _ _ rfl (H6.o3.alloc _) ⟨_,0,none⟩ 1 1 (encIt (i,0)) rfl rfl ?c1 ?c2 ?c3 ?c4 ?c5 ?_)
          case c1=>have:=it_two (W5.setCell ⟨ob,s,none⟩ (.slice xa ((ofT g i (s:Int)).length+1) xc)) i 0;simpa using this
          case c2=>exact encIt_one (i,0)
          case c3=>unfold maxLen;omega
          case c4=>omega
          case c5=>first | omega | (simp;omega)
          intro v' W7 hown7 hg7 _;have hgb:=grown_trans_opt (grown_alloc (grown_refl (W5.setCell ⟨ob,s,none⟩ (.slice xa ((ofT g i (s:Int)).length+1) xc)) _) (.cells #[.int .i64 i,.int .i64 0] 134)) hg7;have hlow:=fun bq (hb:u6.ownBlock=some bq)=>(own_ty H6.o3 bq hb).1;have hF7:=H6.o1.grown hgb (fun bq hb=>.inl (by have:=hlow bq hb;omega));have hO7:=H6.o4.grown H6.o3 (by decide) hgb;rw [show (flatK encIt ((ofT g i g.start).map (·,0))++encIt (i,0))=flatK encIt ((ofT g (i+1) g.start).map (·,0)) by rw [ofT_succ g i g.start p HR.o5,if_pos ⟨HS2.out.trans HST.out,HE.out⟩,List.map_append,flatK_append];rfl] at hown7;have H7:=Z3.mk hF7 hO7 hown7;clear hF7 hO7 hown7 hg7 hgb hlow;go_wp2_with fail
          go_roundg (g.prods.length - (i+1))
          case measure=>have:=HR.o1;omega
          case rel =>
            refine ⟨i+1,_,by omega,rfl,rfl,H7.o1,H7.o2,?_⟩;have e1:(ofT g (i+1) g.start).length=(ofT g i g.start).length+1:=by rw [ofT_succ g i g.start p HR.o5,if_pos ⟨HS2.out.trans HST.out,HE.out⟩];simp
            rw [e1];exact H7.o3
        · go_wp2_with fail
          go_roundg (g.prods.length - (i+1))
          case measure=>have:=HR.o1;omega
          case rel =>
            refine ⟨i+1,_,by omega,rfl,rfl,H6.o1,H6.o4,?_⟩;rw [ofT_succ g i g.start p HR.o5,if_neg (by rw [HS2.out];exact fun h=>hst h.1),List.append_nil];exact H6.o3
    · obtain rfl:i=g.prods.length:=by omega
      have hgd:=H.o6;have hmk:=mkw_start hF hO hsl H.o2;rw [ofT_all] at hf;have hnum:=number_any g hgd wr.heap.size mb bm [] _ ((ofS g g.start).map (·,0)) (fun x hx=>by
        obtain ⟨n,hn,rfl⟩:=List.mem_map.1 hx;exact itemOk_new hn) (by rw [List.length_map];have:=ofT_len g g.prods.length g.start;rw [ofT_all] at this;omega) u6 wr hmk (own_sliceK encIt_len (by rw [List.length_map];exact hf))
      have HR:=Z2.mk hF hmk;clear hgd hmk hF hO hf hm;go_wp2_with fail
      refine hnum.mono ?_;clear hnum q0 q1 q2 f1;rintro e w7 hcase;obtain ⟨v',rfl,hmk7,hk7⟩:∃ v',e=.returned (.int .i64 0) /\ MkW g wr.heap.size mb bm [freshSM v' (closedF g ((ofS g g.start).map (·,0)))] w7 /\ KeepM mb bm wr w7:=by
        rcases hcase with ⟨n,h1,_⟩ | ⟨_,_,h2,v',h3,h4⟩ | ⟨_,h2,_⟩
        · simp at h1
        · exact ⟨v',by simpa using h2,by simpa using h3,h4⟩
        · simp at h2
      have HI:=MakeI.start g (freshSM v' (closedF g ((ofS g g.start).map (·,0)))) rfl ⟨rfl,rfl,rfl,rfl,rfl⟩;have H7:=Z3.mk hmk7 hk7 HI;clear hcase hmk7 hk7 HI;go_wp2_with fail
      obtain ⟨wo,rfl⟩:∃ wo:World,wo=wr:=⟨_,rfl⟩
      go_loopg [9] 16385 (fun m v9 wx=>∃ (n:Nat) (sm:List SM),n<=16384 /\ m=16385 - n /\ v9=.int .i64 n /\ MakeI g sm n /\ MkW g wo.heap.size mb bm sm wx /\ KeepM mb bm wo wx)
      case atStart=>exact ⟨0,_,by omega,rfl,rfl,H7.o3,H7.o1,H7.o2⟩
      case round =>
        obtain ⟨n,sm,hn,hm,rfl,hI,hM,hK⟩:=hrel;obtain ⟨va,a1,a2⟩:=hM.all;obtain ⟨aa,ac,rfl⟩:=own_shape a2;have hml:=hI.many;have hnl:=hI.le;have h1:=HR.o1.lo;have h2:=HR.o1.lb;have h3:=HR.o1.om;have h4:=HR.o1.mkb.lt;have hfr:∀ b,b<=w.heap.size+1+1->wr.heap[b]?=wo.heap[b]?:=fun b hb=>hK.low b (by omega) (by omega) (by omega);have hta:Blk wr (w.heap.size+1) 75 #[.pointer none]:=(hfr _ (by omega)).trans HR.o1.ta;have her:Blk wr (w.heap.size+1+1) 36 #[.int .i64 0]:=(hfr _ (by omega)).trans HR.o1.er;have hbru:Bru wo:=H.o4.below HR.o1.below H.o5;have hHB:=H.o5
        by_cases hlt:n<sm.length
        · obtain ⟨s,hs⟩:∃ s,sm[n]?=some s:=⟨_,gE hlt⟩
          have hlead:=lead_all g H.o6 wo.heap.size mb bm sm n s hs (hI.bare n s (nR _) hs) wr hM (fun W' hW'=>bru_keepM hbru (hK.trans hW') (by omega) (by omega) (by omega)) (by omega);have hd1:(n:Int)<sm.length:=by omega
          have HL:=Z8.mk hm hI hM hK hs a2 hbru hfr;clear hm hI hM hK hs a2 hbru hfr H7;go_wp2_with fail
          refine hlead.mono ?_;clear hlead;rintro e w8 hcase
          rcases hcase with ⟨es,all',sm',s',c1,rfl,c3,c4,c5,c6,c7,c8,c9,c10,c11⟩ | ⟨c1,rfl,c3⟩
          · have HC:=Hd (HL.o2.step HL.o5 c1 c5 c6 c7 c8 c9 c10 c11 c3.many)
            have HD:=Z2.mk c3 (HL.o4.trans c4);clear c1 c3 c4 c5 c6 c7 c8 c9 c10 c11;go_wp2_with fail
            go_roundg (16385 - (n+1))
            case measure=>have:=HL.o1;omega
            case rel=>exact ⟨n+1,sm',by omega,rfl,rfl,HC.out,HD.o1,HD.o2⟩
          · have HC:=Hd (HL.o2.none HL.o5 c1)
            have HD:=Hd (HL.o4.trans c3);clear c1 c3;have hta8:Blk w8 (w.heap.size+1) 75 #[.pointer none]:=(HD.out.low _ (by omega) (by omega) (by omega)).trans HR.o1.ta;have her8:Blk w8 (w.heap.size+1+1) 36 #[.int .i64 0]:=(HD.out.low _ (by omega) (by omega) (by omega)).trans HR.o1.er;have hb8:Below w.heap.size w w8:=HR.o1.below.trans ⟨HD.out.os,HD.out.tape,HD.out.output,HD.out.size,fun k hk=>HD.out.low k (by omega) (by omega) (by omega)⟩;refine leaves_cons (f:=62) (args:=#[.pointer (some ⟨w.heap.size+1,0,none⟩),.pointer (some ⟨w.heap.size+1+1,0,none⟩)]) (by simp) (by simp [go_sem]) ?_;refine (catch_full (w.heap.size+1) (w.heap.size+1+1) [] w8 hta8 her8 (by omega)).mono ?_;rintro e u' w'' ⟨rfl,rfl,rfl⟩;refine ⟨.tuple #[.pointer none,.int .i64 3],res2 _ _ _ _ _ _ (by rfl) (by rfl) (((hta8.set_ 0 _).far (p:=⟨w.heap.size+1+1,0,none⟩) (by simp) _).alloc _) (((her8.far (p:=⟨w.heap.size+1,0,none⟩) (by simp) _).set_ 0 _).alloc _),?_⟩;refine .inr ⟨HC.out,rfl,?_⟩;exact ((hb8.setCell (p:=⟨w.heap.size+1,0,none⟩) (by simp) _).setCell (p:=⟨w.heap.size+1+1,0,none⟩) (by simp;omega) _).alloc (by have:=hb8.size;simpa using this) _
        · obtain rfl:n=sm.length:=by omega
          have hd1:¬ (sm.length:Int)<sm.length:=by omega
          have hwl:w.heap.size+1+1<wr.heap.size:=by have:=hK.size;omega
          have hmr:mb<wr.heap.size:=by have:=hK.size;omega
          have hwl1:w.heap.size+1<wr.heap.size:=by omega
          have hwn1:¬ w.heap.size+1=wr.heap.size:=by omega
          have hwn2:¬ w.heap.size+1+1=wr.heap.size:=by omega
          have HL:=Z6.mk hI hM hK a2 hta her;obtain ⟨ta0,taf⟩:=hta.facts1;obtain ⟨er0,erf⟩:=her.facts1;clear hm hI hM hK a2 hbru H7 hfr hta her;go_wp2_with fail
          refine leaves_cons (f:=62) (args:=#[.pointer (some ⟨w.heap.size+1,0,none⟩),.pointer (some ⟨w.heap.size+1+1,0,none⟩)]) (by simp) (by simp [go_sem]) ?_;refine (catch_idle ⟨w.heap.size+1,0,none⟩ ⟨w.heap.size+1+1,0,none⟩ _).mono ?_;rintro e u' w'' ⟨rfl,rfl,rfl⟩;have hta9:=((HL.o5.set_ 0 (.pointer (some ⟨wr.heap.size,0,none⟩))).far (p:=⟨w.heap.size+1+1,0,none⟩) (by simp) (.int .i64 0)).alloc (.cells #[.slice aa sm.length ac] 138);have her9:=((HL.o6.far (p:=⟨w.heap.size+1,0,none⟩) (by simp) (.pointer (some ⟨wr.heap.size,0,none⟩))).set_ 0 (.int .i64 0)).alloc (.cells #[.slice aa sm.length ac] 138)
          have hsame:∀ b,b≠w.heap.size+1->b≠w.heap.size+1+1->b<wr.heap.size->(((wr.setCell ⟨w.heap.size+1,0,none⟩ (.pointer (some ⟨wr.heap.size,0,none⟩))).setCell ⟨w.heap.size+1+1,0,none⟩ (.int .i64 0)).alloc (.cells #[.slice aa sm.length ac] 138)).heap[b]?=wr.heap[b]?:=fun b hb1 hb2 hb3=>by
            rw [Below.heap_alloc _ _ b (by simpa using hb3),Below.heap_setCell _ _ _ b (by simpa using hb2),Below.heap_setCell _ _ _ b (by simpa using hb1)]
          have htb9:Blk (((wr.setCell ⟨w.heap.size+1,0,none⟩ (.pointer (some ⟨wr.heap.size,0,none⟩))).setCell ⟨w.heap.size+1+1,0,none⟩ (.int .i64 0)).alloc (.cells #[.slice aa sm.length ac] 138)) wr.heap.size 138 #[.slice aa sm.length ac]:=Blk.new_ (by simp) _ _;have hsz9:wr.heap.size<=(((wr.setCell ⟨w.heap.size+1,0,none⟩ (.pointer (some ⟨wr.heap.size,0,none⟩))).setCell ⟨w.heap.size+1+1,0,none⟩ (.int .i64 0)).alloc (.cells #[.slice aa sm.length ac] 138)).heap.size:=by simp
          have hbel9:Below w.heap.size w (((wr.setCell ⟨w.heap.size+1,0,none⟩ (.pointer (some ⟨wr.heap.size,0,none⟩))).setCell ⟨w.heap.size+1+1,0,none⟩ (.int .i64 0)).alloc (.cells #[.slice aa sm.length ac] 138)):=by
            have hK:=HL.o3;have hb8:Below w.heap.size w wr:=HR.o1.below.trans ⟨hK.os,hK.tape,hK.output,hK.size,fun k hk=>hK.low k (by omega) (by omega) (by omega)⟩;exact ((hb8.setCell (p:=⟨w.heap.size+1,0,none⟩) (by simp) _).setCell (p:=⟨w.heap.size+1+1,0,none⟩) (by simp;omega) _).alloc (by simp;omega) _
          generalize (((wr.setCell ⟨w.heap.size+1,0,none⟩ (.pointer (some ⟨wr.heap.size,0,none⟩))).setCell ⟨w.heap.size+1+1,0,none⟩ (.int .i64 0)).alloc (.cells #[.slice aa sm.length ac] 138))=W9 at hta9 her9 hsame htb9 hsz9 hbel9 ⊢;refine ⟨.tuple #[.pointer (some ⟨wr.heap.size,0,none⟩),.int .i64 0],res2 _ _ _ _ _ _ (by rfl) (by rfl) hta9 her9,?_⟩;have hty:∀ (t:TypeId) (g:Nat) (c:Array Value) (fz:Nat × Nat),wr.heap[g]?=some (.cells c t fz)->wo.heap.size<=g->W9.heap[g]?=wr.heap[g]?:=fun t g c fz h hB=>hsame g (by omega) (by omega) (Array.getElem?_eq_some_iff.1 h).1;refine .inl ⟨wr.heap.size,wo.heap.size,sm,HL.o1.done,rfl,⟨⟨_,htb9,?_⟩,fun s hs=>?_,hml⟩,fun s hs=>?_,hbel9⟩
          · have h1:=HL.o4
            refine ⟨h1.1,?_⟩
            rcases h1.2 with h2 | ⟨g',cap,cur,e1,hB,hh,h3⟩
            · exact .inl h2
            · exact .inr ⟨g',cap,cur,e1,hB,(hty _ g' _ _ hh hB).trans hh,h3⟩
          · have hk:=HL.o2.each s hs
            exact ⟨hk.items.ty (hty _),hk.edges.ty (hty _),hk.done.ty (hty _),hk.ok,hk.len⟩
          · obtain ⟨k,hk,rfl⟩:=List.getElem_of_mem hs
            exact HL.o1.next k _ hk (gE hk)
end Go.Proofs.YthiochcpmfkgcaaGreatDoor.Tb
