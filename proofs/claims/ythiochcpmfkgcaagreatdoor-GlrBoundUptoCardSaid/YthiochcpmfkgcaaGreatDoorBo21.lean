/- Walks and plain laws that the last text stands on: GlRun, GlLim, GlSmp, GlKnG, ConcG. -/
import Derived.Test.YthiochcpmfkgcaaGreatDoorBo20
import Derived.Test.YthiochcpmfkgcaaGreatDoorBo14
set_option linter.unusedVariables false
set_option linter.unusedSimpArgs false
set_option maxRecDepth 100000
set_option maxHeartbeats 16000000
namespace Go.Proofs.YthiochcpmfkgcaaGreatDoor.Gl
open Go Go.RowKit Go.Proofs Go.Maps Go.WideMaps Mx Tb
def ruR (rb be ba E A far M B0:Nat) (j:Nat) (v:Value) (W:World):Prop :=
 match j with
 | 0=>v=.pointer (some ⟨rb,0,none⟩)
 | 1=>v=.pointer (some ⟨rb,0,none⟩)
 | 2=>v=.pointer (some ⟨rb,9,none⟩)
 | 3=>v=.map (some be)
 | 4=>v=.int .i64 (E:Int)
 | 5=>v=.pointer (some ⟨rb,0,none⟩)
 | 6=>v=.pointer (some ⟨rb,0,none⟩)
 | 7=>v=.pointer (some ⟨rb,10,none⟩)
 | 8=>v=.map (some ba)
 | 9=>v=.int .i64 (A:Int)
 | 10=>v=.int .i64 ((E:Int)+(A:Int))
 | 11=>v=.int .i64 (far:Int)
 | 12=>v=.pointer (some ⟨rb,0,none⟩)
 | 13=>v=.int .i64 (far:Int)
 | 14=>v=.agg #[.int .u64 (wd M 0),.int .u64 (wd M 1),.int .u64 (wd M 2),.int .u64 (wd M 3)]
 | 15=>v=.agg #[.slice none 0 0,.int .i64 ((E:Int)+(A:Int)),.int .i64 (far:Int),.int .u64 (wd M 0),.int .u64 (wd M 1),.int .u64 (wd M 2),.int .u64 (wd M 3)]
 | 16=>∃ q,v=.pointer (some ⟨q,0,none⟩) /\ Blk W q 35 #[.slice none 0 0,.int .i64 0,.int .i64 0,.int .u64 0,.int .u64 0,.int .u64 0,.int .u64 0] /\ B0<=q
 | _=>True
theorem ruR_low {rb be ba E A far M B0:Nat} (j:Nat) (v:Value) {W W':World} (h:ruR rb be ba E A far M B0 j v W) (hb:Below W.heap.size W W'):ruR rb be ba E A far M B0 j v W':=by
 unfold ruR at h ⊢
 split at h <;> first | exact h | skip
 obtain ⟨q,e,h1,h2⟩:=h;exact ⟨q,e,h1.below hb h1.lt,h2⟩
theorem gfacts7 {w:World} {g:Nat} {t:TypeId} {v0 v1 v2 v3 v4 v5 v6:Value} (h:Blk w g t #[v0,v1,v2,v3,v4,v5,v6]):w.cell? ⟨g,0,none⟩=some v0 /\ w.cell? ⟨g,1,none⟩=some v1 /\ w.cell? ⟨g,2,none⟩=some v2 /\ w.cell? ⟨g,3,none⟩=some v3 /\ w.cell? ⟨g,4,none⟩=some v4 /\ w.cell? ⟨g,5,none⟩=some v5 /\ w.cell? ⟨g,6,none⟩=some v6 /\ (∀ i,w.frozen? ⟨g,i,none⟩=false) :=
 ⟨h.cell 0,h.cell 1,h.cell 2,h.cell 3,h.cell 4,h.cell 5,h.cell 6,h.frozen⟩
def waysC (v:Value) (steps far:Int) (M:Nat):Array Value:=#[v,.int .i64 steps,.int .i64 far,.int .u64 (wd M 0),.int .u64 (wd M 1),.int .u64 (wd M 2),.int .u64 (wd M 3)]
def farF (r:Rn):Nat:=maxN (r.nodes.map (·.2))
def RunT (p:RP) (left:Nat->Int) (w:World) (e:Ending) (w':World):Int × Option (List St × Rn)->Prop
 | (n,none)=>e=.returned (.tuple #[.agg (waysC (.slice none 0 0) 0 0 0),.int .i64 n]) /\ Below w.heap.size w w'
 | (n,some (l,r))=>∃ v va,e=.returned (.tuple #[.agg (waysC v ((r.edges.length:Int)+(r.alts.length:Int)) (farF r:Int) (nextL l (rowF r (farF r)))),.int .i64 n]) /\
   w'.ownsRow w.heap.size 59 5 v (sortAl left r.alts).length (flatK (encAl left va) (sortAl left r.alts)) /\ (∀ a∈r.alts,SliceK (IntB w') encN 1 w' (va a) a.cuts) /\ Below w.heap.size w w'
theorem rres (tmps:Array Value) (w:World) (a:Nat) (v0 v1 v2 v3 v4 v5 v6:Value) (n:Int) (h6:tmps.getD 6 undef=.pointer (some ⟨a,0,none⟩)) (h7:tmps.getD 7 undef=.int .i64 n) (hb:Blk w a 35 #[v0,v1,v2,v3,v4,v5,v6]) :
  (results Tryz.f11 tmps).run Tryz.prog w=.ok (.tuple #[.agg #[v0,v1,v2,v3,v4,v5,v6],.int .i64 n]) w:=by
 obtain ⟨s0,s1,s2,s3,s4,s5,s6,sf⟩:=gfacts7 hb;simp at h6 h7;simp [results,Tryz.results11,asAddr,h6,h7,s0,s1,s2,s3,s4,s5,s6,go_sem]
theorem gset7 {w:World} {g:Nat} {t:TypeId} {v0 v1 v2 v3 v4 v5 v6:Value} (h:Blk w g t #[v0,v1,v2,v3,v4,v5,v6]) (u0 u1 u2 u3 u4 u5 u6:Value) :
  Blk (((((((w.setCell ⟨g,0,none⟩ u0).setCell ⟨g,1,none⟩ u1).setCell ⟨g,2,none⟩ u2).setCell ⟨g,3,none⟩ u3).setCell ⟨g,4,none⟩ u4).setCell ⟨g,5,none⟩ u5).setCell ⟨g,6,none⟩ u6) g t #[u0,u1,u2,u3,u4,u5,u6]:=by
 have h0:Blk _ g t #[u0,v1,v2,v3,v4,v5,v6]:=h.set_ 0 u0;have h1:Blk _ g t #[u0,u1,v2,v3,v4,v5,v6]:=h0.set_ 1 u1;have h2:Blk _ g t #[u0,u1,u2,v3,v4,v5,v6]:=h1.set_ 2 u2;have h3:Blk _ g t #[u0,u1,u2,u3,v4,v5,v6]:=h2.set_ 3 u3;have h4:Blk _ g t #[u0,u1,u2,u3,u4,v5,v6]:=h3.set_ 4 u4;have h5:Blk _ g t #[u0,u1,u2,u3,u4,u5,v6]:=h4.set_ 5 u5;have h6:Blk _ g t #[u0,u1,u2,u3,u4,u5,u6]:=h5.set_ 6 u6;exact h6
theorem below_set7 {w w':World} {n g:Nat} (h:Below n w w') (hg:n<=g) (u0 u1 u2 u3 u4 u5 u6:Value) :
  Below n w (((((((w'.setCell ⟨g,0,none⟩ u0).setCell ⟨g,1,none⟩ u1).setCell ⟨g,2,none⟩ u2).setCell ⟨g,3,none⟩ u3).setCell ⟨g,4,none⟩ u4).setCell ⟨g,5,none⟩ u5).setCell ⟨g,6,none⟩ u6) :=
 ((((((h.setCell (p:=⟨g,0,none⟩) hg u0).setCell (p:=⟨g,1,none⟩) hg u1).setCell (p:=⟨g,2,none⟩) hg u2).setCell (p:=⟨g,3,none⟩) hg u3).setCell (p:=⟨g,4,none⟩) hg u4).setCell (p:=⟨g,5,none⟩) hg u5).setCell (p:=⟨g,6,none⟩) hg u6
theorem run_any (g:Gr) (p:RP) (bud:Int) (w:World) (h:GrW g p w) (hL:Lim g p.txt bud) (left:Nat->Int) (hleft:∀ l,(tabF g l).left=left) :
  Calls Tryz.prog 11 #[.agg #[p.sv,p.pv,.int .i64 p.st,p.fv,p.lv],.string ⟨p.txt.toArray⟩,.int .i64 bud] w fun e w'=>RunT p left w e w' (wholeF g p.txt bud):=by
 have HH:=Hd (An h (An hL hleft));clear h hL hleft;obtain ⟨tb,htb⟩:∃ tb:ByteArray,(⟨p.txt.toArray⟩:ByteArray)=tb:=⟨_,rfl⟩;have HTB:=Hd htb;rw [htb];clear htb
 go_enter Tryz.func11,Tryz.ntmps11
 go_upto_region 1 with fail
 have hGB:Blk ((w.alloc (.cells #[p.sv,p.pv,.int .i64 p.st,p.fv,p.lv] 27)).alloc (.cells #[.slice none 0 0,.int .i64 0,.int .i64 0,.int .u64 0,.int .u64 0,.int .u64 0,.int .u64 0] 35)) w.heap.size 27 #[p.sv,p.pv,.int .i64 p.st,p.fv,p.lv]:=(Blk.new_ rfl _ _).alloc _;have hRB:Blk ((w.alloc (.cells #[p.sv,p.pv,.int .i64 p.st,p.fv,p.lv] 27)).alloc (.cells #[.slice none 0 0,.int .i64 0,.int .i64 0,.int .u64 0,.int .u64 0,.int .u64 0,.int .u64 0] 35)) (w.heap.size+1) 35 #[.slice none 0 0,.int .i64 0,.int .i64 0,.int .u64 0,.int .u64 0,.int .u64 0,.int .u64 0]:=Blk.new_ (by simp) _ _
 have hb0:Below w.heap.size w ((w.alloc (.cells #[p.sv,p.pv,.int .i64 p.st,p.fv,p.lv] 27)).alloc (.cells #[.slice none 0 0,.int .i64 0,.int .i64 0,.int .u64 0,.int .u64 0,.int .u64 0,.int .u64 0] 35)):=((Below.refl _ _).alloc (Nat.le_refl _) _).alloc (by simp) _
 generalize ((w.alloc (.cells #[p.sv,p.pv,.int .i64 p.st,p.fv,p.lv] 27)).alloc (.cells #[.slice none 0 0,.int .i64 0,.int .i64 0,.int .u64 0,.int .u64 0,.int .u64 0,.int .u64 0] 35))=w1 at hGB hRB hb0 ⊢;obtain ⟨nb,hnb⟩:∃ nb,w.heap.size=nb:=⟨_,rfl⟩;rw [hnb] at hGB hRB ⊢;obtain ⟨g0,g1,g2,g3,g4,gf⟩:=gfacts5 hGB;have hwh:=whole_any g p bud w1 (HH.out.1.below hb0) HH.out.2.1;rw [HTB.out] at hwh;have H1:=Hd (An hRB (An hb0 (An hnb hwh)));clear hGB hRB hb0 hwh hnb;go_wp2_with fail
 refine H1.out.2.2.2.mono ?_;rintro e w2 hW;obtain ⟨qa,hqa⟩:∃ qa,wholeF g p.txt bud=qa:=⟨_,rfl⟩;obtain ⟨n,o⟩:=qa;rw [hqa] at hW
 cases o with
 | none =>
  obtain ⟨rfl,hb2⟩:=hW;have hn:=whole_err hqa;have hS:=H1.out.1.below hb2 H1.out.1.lt;obtain ⟨s0,s1,s2,s3,s4,s5,s6,sf⟩:=gfacts7 hS;have hsl:=hS.lt;have H2:=Hd (An hb2 (An hqa hS));clear hb2 hqa hS
  rcases hn with rfl | rfl | rfl | rfl
  all_goals
   go_wp2_with fail
   refine bodyPost_ret (rres _ _ (nb+1) _ _ _ _ _ _ _ _ (by rfl) (by rfl) (gset7 H2.out.2.2 _ _ _ _ _ _ _)) rfl ?_
   have hnb:=H1.out.2.2.1;rw [H2.out.2.1];exact ⟨rfl,below_set7 (H1.out.2.1.trans (H2.out.1.mono H1.out.2.1.size)) (by omega) _ _ _ _ _ _ _⟩
 | some v =>
  obtain ⟨l,r⟩:=v;obtain ⟨B,sm,tv,C,w0,ρ,hl,hc,hb2,hnx,rfl,hR⟩:=hW;obtain ⟨rfl,hc0,hlen,hmk,hbud,hgo⟩:=whole_ok hqa;have hb3:Below w1.heap.size w1 w2:=hb2.trans (hR.mem.low.mono hb2.size);have hCr:w1.heap.size<=C.rb:=by
   rcases Nat.lt_or_ge C.rb w0.heap.size with h | h
   ·have h1:=hR.mem.above _ h
    rw [hR.mem.roles.rb] at h1
    cases h1
   ·exact Nat.le_trans hb2.size h
  have HCR:=Hd hCr;clear hCr;have hlaw:=goneF_law (tabF g l) p.txt bud.toNat;rw [hgo] at hlaw;obtain ⟨_,_,hnda,_,_,_,_,hpl,_⟩:=hlaw;rw [HH.out.2.2 l] at hR;have b11:w2.cell? ⟨C.rb,11,none⟩=some (.map (some C.br)):=hR.mem.box.cell 11;obtain ⟨rb,hrb⟩:∃ rb,C.rb=rb:=⟨_,rfl⟩;have h0n:((0,0):Nd)∈r.nodes:=by
   have hlaw:=goneF_law (tabF g l) p.txt bud.toNat;rw [hgo] at hlaw;exact (hlaw.2.2.2.2.1 (0,0)).2 (least_closed _ _).start
  have H2:=Hd (An hb3 (An hqa (An hR (An hnda (An hpl (An h0n (An hlen (An hc (An hnx (An hl hrb))))))))));rw [hrb] at b11 ⊢;clear hb3 hqa hR hnda hpl h0n hlen hc hnx hl hrb hmk hbud hgo hc0 hb2;go_wp2_with fail
  refine (keys_any _ _).mono ?_;rintro e w3 ⟨rfl,hw3⟩;have hR2:=H2.out.2.2.1;have hcol:=collect_any hR2.mem.rows hR2.mem.nok hR2.mem.mn;rw [<- hw3] at hcol;have hbw3:Below w2.heap.size w2 w3:=by rw [hw3];exact (Below.refl _ _).alloc (Nat.le_refl _) _
  have H3:=Hd (An hcol hbw3);clear hcol hbw3 hw3 hR2;go_wp2_with fail
  refine H3.out.1.mono ?_;rintro e w4 ⟨vk,L,rfl,hLl,hLm,hLr,hb4⟩;have hLne:L≠[]:=fun e0=>by
   have h1:=(hLm 0).2 (List.mem_map.2 ⟨(0,0),H2.out.2.2.2.2.2.1,rfl⟩);rw [e0] at h1
   cases h1
  have hfar:maxN L=farF r:=maxN_ext hLm;have hmx:=max_any L hLne hLl w2.heap.size vk w4 hLr;rw [hfar] at hmx;have H4:=Hd (An hmx hb4);clear hmx hb4 hLl hLm hLr hLne hfar;go_wp2_with fail
  refine H4.out.1.mono ?_;rintro e w5 ⟨rfl,hb5⟩;have hbA:Below w2.heap.size w2 w5:=H4.out.2.trans (hb5.mono H4.out.2.size);have hR5:=H2.out.2.2.1.below hbA;have hnn:r.nodes.map (·.2)≠[]:=by
   intro e0;have h1:=List.map_eq_nil_iff.1 e0;have h2:=H2.out.2.2.2.2.2.1;rw [h1] at h2
   cases h2
  have hfp:farF r<=p.txt.length:=by
   obtain ⟨x,hx,hxe⟩:=List.mem_map.1 (maxN_mem (L:=r.nodes.map (·.2)) hnn);have h1:=H2.out.2.2.2.2.1 x hx;unfold farF;rw [<- hxe];exact h1
  have hnx5:=fun W (hG:Below w5.drew.heap.size w5.drew W)=>gnext_any g B sm C (p.withT tv) left w0 H2.out.2.2.2.2.2.2.2.1 ρ (rmOf r) W (hR5.mem.below (((Below.refl _ _).drew).trans hG)) (farF r) (by have h1:=H2.out.2.2.2.2.2.2.1;omega)
  have hM:nextAt sm (rowN (rmOf r).nodes (farF r))=nextL l (rowF r (farF r)):=by rw [H2.out.2.2.2.2.2.2.2.2.2.1];exact nextAt_same H2.out.2.2.2.2.2.2.2.2.1 _
  rw [hM,H2.out.2.2.2.2.2.2.2.2.2.2] at hnx5;obtain ⟨M,hMd⟩:∃ M,nextL l (rowF r (farF r))=M:=⟨_,rfl⟩;rw [hMd] at hnx5;obtain ⟨far,hfd⟩:∃ far,farF r=far:=⟨_,rfl⟩;rw [hfd] at hnx5 ⊢;obtain ⟨E,hE⟩:∃ E,r.edges.length=E:=⟨_,rfl⟩;obtain ⟨A,hA⟩:∃ A,r.alts.length=A:=⟨_,rfl⟩;obtain ⟨be,hbe⟩:∃ be,C.be=be:=⟨_,rfl⟩;obtain ⟨ba,hba⟩:∃ ba,C.ba=ba:=⟨_,rfl⟩;have hrbe:=H2.out.2.2.2.2.2.2.2.2.2.2;have HNX:=Hd hnx5;have hcel:Blk w5 rb 81 (boxC C (p.withT tv) r.left):=by rw [<- hrbe];exact hR5.mem.box
  have HC:=Hd (show ∀ W,Below w5.drew.heap.size w5.drew W->W.cell? ⟨rb,9,none⟩=some (.map (some be)) /\ W.cell? ⟨rb,10,none⟩=some (.map (some ba)) from fun W hG=>by
   have h1:=hcel.drew.below hG hcel.lt;refine ⟨?_,?_⟩
   ·rw [<- hbe];exact h1.cell 9
   ·rw [<- hba];exact h1.cell 10)
  have HLE:=Hd (show ∀ W,Below w5.drew.heap.size w5.drew W->∀ ty,(Builtin.len_ #[77] ty #[.map (some be)]).run Tryz.prog W=.ok (.int .i64 (E:Int)) W from fun W hG ty=>by
   obtain ⟨f,h1,_⟩:=(hR5.mem.below (((Below.refl _ _).drew).trans hG)).edges;rw [<- hbe,<- hE];exact h1.len Tryz.underlying77 ty)
  have HLA:=Hd (show ∀ W,Below w5.drew.heap.size w5.drew W->∀ ty,(Builtin.len_ #[78] ty #[.map (some ba)]).run Tryz.prog W=.ok (.int .i64 (A:Int)) W from fun W hG ty=>by
   obtain ⟨f,va,h1,_⟩:=(hR5.mem.below (((Below.refl _ _).drew).trans hG)).alts;rw [<- hba,<- hA];exact h1.len Tryz.underlying78 ty)
  have HB1:=Hd (show E+A<=2199023255552 by have h1:=H2.out.2.2.1.tot;unfold sumF at h1;omega)
  have HZ:=Hd (show ∀ W,Below w5.drew.heap.size w5.drew W->w5.heap.size<=W.heap.size from fun W hG=>hG.size)
  have H5:=Hd (An hR5 (An hbA (An hMd (An hfd (An hE (An hA (An hbe hba)))))));clear hnn hR5 hbA hMd hfd hE hA hbe hba hnx5 hcel hfp hM hb5 b11 hrbe
  go_upto_region 5 with fail
  refine wp_region_conc 17 (ruR rb be ba E A far M w5.heap.size) (fun A W=>Below A.heap.size A W) (fun _ _=>True) (by kernel_rfl) (by kernel_rfl) (by kernel_rfl) (by kernel_rfl) (Below.refl _ _) trivial (fun h k=>h.trans (k.mono h.size)) ?_ ?_
  ·simp only [List.take_succ_cons,List.take_zero]
   refine ⟨?_,?_,?_,?_,?_,?_,?_,?_,?_,?_,?_,?_,?_,?_,?_,?_,?_,trivial⟩
   ·intro L T W hG hJ hLs hLi dq fq vq K hK
    have h1:=fq 8 (by decide)
    simp at h1;go_simp;exact hK _ _ (Below.refl _ W) (fun j u _ _ _ h=>h) trivial rfl
   ·intro L T W hG hJ hLs hLi dq fq vq K hK
    have h1:=vq ⟨0,.data⟩ (by simp) rfl 30 rfl
    simp only [ruR] at h1;simp at h1;go_simp;exact hK _ _ (Below.refl _ W) (fun j u _ _ _ h=>h) trivial rfl
   ·intro L T W hG hJ hLs hLi dq fq vq K hK
    have h1:=vq ⟨1,.data⟩ (by simp) rfl 31 rfl
    simp only [ruR] at h1;simp at h1;go_simp;exact hK _ _ (Below.refl _ W) (fun j u _ _ _ h=>h) trivial rfl
   ·intro L T W hG hJ hLs hLi dq fq vq K hK
    have h1:=vq ⟨2,.data⟩ (by simp) rfl 32 rfl
    simp only [ruR] at h1;simp at h1;obtain ⟨c9,c10⟩:=HC.out W hG;go_simp;exact hK _ _ (Below.refl _ W) (fun j u _ _ _ h=>h) trivial rfl
   ·intro L T W hG hJ hLs hLi dq fq vq K hK
    have h1:=vq ⟨3,.data⟩ (by simp) rfl 33 rfl
    simp only [ruR] at h1;simp at h1;have hcl:=HLE.out W hG;go_simp;exact hK _ _ (Below.refl _ W) (fun j u _ _ _ h=>h) trivial rfl
   ·intro L T W hG hJ hLs hLi dq fq vq K hK
    have h1:=fq 8 (by decide)
    simp at h1;go_simp;exact hK _ _ (Below.refl _ W) (fun j u _ _ _ h=>h) trivial rfl
   ·intro L T W hG hJ hLs hLi dq fq vq K hK
    have h1:=vq ⟨5,.data⟩ (by simp) rfl 35 rfl
    simp only [ruR] at h1;simp at h1;go_simp;exact hK _ _ (Below.refl _ W) (fun j u _ _ _ h=>h) trivial rfl
   ·intro L T W hG hJ hLs hLi dq fq vq K hK
    have h1:=vq ⟨6,.data⟩ (by simp) rfl 36 rfl
    simp only [ruR] at h1;simp at h1;go_simp;exact hK _ _ (Below.refl _ W) (fun j u _ _ _ h=>h) trivial rfl
   ·intro L T W hG hJ hLs hLi dq fq vq K hK
    have h1:=vq ⟨7,.data⟩ (by simp) rfl 37 rfl
    simp only [ruR] at h1;simp at h1;obtain ⟨c9,c10⟩:=HC.out W hG;go_simp;exact hK _ _ (Below.refl _ W) (fun j u _ _ _ h=>h) trivial rfl
   ·intro L T W hG hJ hLs hLi dq fq vq K hK
    have h1:=vq ⟨8,.data⟩ (by simp) rfl 38 rfl
    simp only [ruR] at h1;simp at h1;have hcl:=HLA.out W hG;go_simp;exact hK _ _ (Below.refl _ W) (fun j u _ _ _ h=>h) trivial rfl
   ·intro L T W hG hJ hLs hLi dq fq vq K hK
    have h1:=vq ⟨4,.data⟩ (by simp) rfl 34 rfl
    simp only [ruR] at h1;have h2:=vq ⟨9,.data⟩ (by simp) rfl 39 rfl
    simp only [ruR] at h2;simp at h1 h2;have hb1:=HB1.out;go_simp
    try go_bits
    exact hK _ _ (Below.refl _ W) (fun j u _ _ _ h=>h) trivial rfl
   ·intro L T W hG hJ hLs hLi dq fq vq K hK
    have h1:=fq 10 (by decide)
    simp at h1;go_simp;exact hK _ _ (Below.refl _ W) (fun j u _ _ _ h=>h) trivial rfl
   ·intro L T W hG hJ hLs hLi dq fq vq K hK
    have h1:=fq 8 (by decide)
    simp at h1;go_simp;exact hK _ _ (Below.refl _ W) (fun j u _ _ _ h=>h) trivial rfl
   ·intro L T W hG hJ hLs hLi dq fq vq K hK
    have h1:=fq 10 (by decide)
    simp at h1;go_simp;exact hK _ _ (Below.refl _ W) (fun j u _ _ _ h=>h) trivial rfl
   ·intro L T W hG hJ hLs hLi dq fq vq K hK
    have h1:=vq ⟨12,.data⟩ (by simp) rfl 42 rfl
    simp only [ruR] at h1;have h2:=vq ⟨13,.data⟩ (by simp) rfl 43 rfl
    simp only [ruR] at h2;simp at h1 h2;have hcl:=HNX.out W hG;go_simp;refine hcl.mono ?_;rintro e W2 ⟨rfl,hb2⟩;exact hK _ _ hb2 (fun j u _ _ _ h=>ruR_low j u h hb2) trivial rfl
   ·intro L T W hG hJ hLs hLi dq fq vq K hK
    have h1:=vq ⟨10,.data⟩ (by simp) rfl 40 rfl
    simp only [ruR] at h1;have h2:=vq ⟨11,.data⟩ (by simp) rfl 41 rfl
    simp only [ruR] at h2;have h3:=vq ⟨14,.data⟩ (by simp) rfl 44 rfl
    simp only [ruR] at h3;simp at h1 h2 h3;go_simp;exact hK _ _ (Below.refl _ W) (fun j u _ _ _ h=>h) trivial rfl
   ·intro L T W hG hJ hLs hLi dq fq vq K hK
    go_simp;have hbn:=(Below.refl W.heap.size W).alloc (Nat.le_refl _) (.cells #[.slice none 0 0,.int .i64 0,.int .i64 0,.int .u64 0,.int .u64 0,.int .u64 0,.int .u64 0] 35);exact hK _ _ hbn (fun j u _ _ _ h=>ruR_low j u h hbn) trivial ⟨_,rfl,Blk.new W _ _,HZ.out W hG⟩
  ·intro f9 w6 hG hJe hR
   have e15:=hR 15 45 (by decide) rfl
   obtain ⟨q,e16,k1,k2⟩:=hR 16 11 (by decide) rfl
   simp only [concDsts,List.take_succ_cons,List.take_zero,List.drop_succ_cons,List.drop_zero,List.filterMap_cons,List.filterMap_nil,List.foldl_cons,List.foldl_nil,List.setIfInBounds_toArray,List.set_cons_zero,List.set_cons_succ];simp only [ruR] at e15;rw [e15,e16];clear e15 e16 hR;generalize f9 30=v30;generalize f9 31=v31;generalize f9 32=v32;generalize f9 33=v33;generalize f9 34=v34;generalize f9 35=v35;generalize f9 36=v36;generalize f9 37=v37;generalize f9 38=v38;generalize f9 39=v39;generalize f9 40=v40;generalize f9 41=v41;generalize f9 42=v42;generalize f9 43=v43;generalize f9 44=v44;clear f9;have hG6:Below w5.heap.size w5 w6:=((Below.refl _ _).drew).trans hG;have hQ:=gset7 k1 (.slice none 0 0) (.int .i64 ((E:Int)+(A:Int))) (.int .i64 (far:Int)) (.int .u64 (wd M 0)) (.int .u64 (wd M 1)) (.int .u64 (wd M 2)) (.int .u64 (wd M 3));have hb7:=below_set7 hG6 k2 (.slice none 0 0) (.int .i64 ((E:Int)+(A:Int))) (.int .i64 (far:Int)) (.int .u64 (wd M 0)) (.int .u64 (wd M 1)) (.int .u64 (wd M 2)) (.int .u64 (wd M 3));obtain ⟨z0,z1,z2,z3,z4,z5,z6,zf⟩:=gfacts7 k1;have hql:=k1.lt;have H6:=Hd (An hQ (An hb7 k2));clear hG6 hQ hb7 hG hJe HC HNX HLE HLA HZ k1 k2
   go_upto_region 6 with fail
   have hQ:=H6.out.1;have hb7:=H6.out.2.1;generalize (((((((w6.setCell ⟨q,0,none⟩ (.slice none 0 0)).setCell ⟨q,1,none⟩ (.int .i64 ((E:Int)+(A:Int)))).setCell ⟨q,2,none⟩ (.int .i64 (far:Int))).setCell ⟨q,3,none⟩ (.int .u64 (wd M 0))).setCell ⟨q,4,none⟩ (.int .u64 (wd M 1))).setCell ⟨q,5,none⟩ (.int .u64 (wd M 2))).setCell ⟨q,6,none⟩ (.int .u64 (wd M 3)))=w7 at hQ hb7 ⊢;clear z0 z1 z2 z3 z4 z5 z6 zf hql;have hR7:=H5.out.1.below hb7;have b10:w7.cell? ⟨rb,10,none⟩=some (.map (some ba)):=by rw [<- H2.out.2.2.2.2.2.2.2.2.2.2,<- H5.out.2.2.2.2.2.2.2];exact hR7.mem.box.cell 10
   have hb27:Below w2.heap.size w2 w7:=H5.out.2.1.trans (hb7.mono H5.out.2.1.size);have hal7:AltsW C left (fun b=>if b<w2.heap.size then ρ b else some .box) (rmOf r).alts w7:=by
    obtain ⟨f,va,m1,m2,m3⟩:=H2.out.2.2.1.mem.alts;exact ⟨f,va,m1.of_block (hb27.block _ m1.lt),m2,fun a ha=>(m3 a ha).keep fun b hb hl=>⟨hb.keep_ (by simp only [hl,if_true]) (hb27.block b hl),hb27.block b hl⟩⟩
   have hso:=sorted_any hal7 hR7.mem.aok H2.out.2.2.2.1 (by have h1:=hR7.tot;unfold sumF at h1;simp only [rmOf];omega)
   rw [H5.out.2.2.2.2.2.2.2] at hso;have H7:=Hd (An hQ (An hb7 (An hR7 hso)));clear hQ hb7 hR7 hso hal7 hb27;go_wp2_with fail
   refine (values_any _ _).mono ?_;rintro e w8 ⟨rfl,rfl⟩;go_wp2_with fail
   refine H7.out.2.2.2.mono ?_;rintro e w9 ⟨vs,va,rfl,hST,hb9⟩;obtain ⟨sa,sc,rfl⟩:=own_shape hST.1;have hQ9:=H7.out.1.below hb9 H7.out.1.lt;obtain ⟨z0,z1,z2,z3,z4,z5,z6,zf⟩:=gfacts7 hQ9;have hql:=hQ9.lt;have H8:=Hd (An hST (An hb9 hQ9));clear hST hb9 hQ9
   go_upto_region 7 with fail
   clear z0 z1 z2 z3 z4 z5 z6 zf hql;have hQ10:Blk (w9.setCell ⟨q,0,none⟩ (.slice sa (sortAl left (rmOf r).alts).length sc)) q 35 #[.slice sa (sortAl left (rmOf r).alts).length sc,.int .i64 ((E:Int)+(A:Int)),.int .i64 (far:Int),.int .u64 (wd M 0),.int .u64 (wd M 1),.int .u64 (wd M 2),.int .u64 (wd M 3)]:=H8.out.2.2.set_ 0 _;have s1:=H1.out.1.lt;have s2:=H2.out.1.size;have s5:=H5.out.2.1.size;have s7:=H7.out.2.1.size;have s9:=H8.out.2.1.size;have sq:=H6.out.2.2;have sq7:=H7.out.1.lt;have scr:=HCR.out;have hbw:Below w1.heap.size w1 w9:=((H2.out.1.trans (H5.out.2.1.mono s2)).trans (H7.out.2.1.mono (by omega))).trans (H8.out.2.1.mono (by omega))
   have hR10:Blk (w9.setCell ⟨q,0,none⟩ (.slice sa (sortAl left (rmOf r).alts).length sc)) (nb+1) 35 #[.slice none 0 0,.int .i64 0,.int .i64 0,.int .u64 0,.int .u64 0,.int .u64 0,.int .u64 0]:=(H1.out.1.below hbw s1).far (p:=⟨q,0,none⟩) (by simp only;omega) _
   have hrow10:(w9.setCell ⟨q,0,none⟩ (.slice sa (sortAl left (rmOf r).alts).length sc)).ownsRow (w7.heap.size+1) 59 5 (.slice sa (sortAl left (rmOf r).alts).length sc) (sortAl left (rmOf r).alts).length (flatK (encAl left va) (sortAl left (rmOf r).alts)):=own_of_block H8.out.1.1 fun b hb=>Below.heap_setCell w9 ⟨q,0,none⟩ _ b (by have h1:=(H8.out.1.1.lt b hb).1;simp only;omega)
   have hcut10:∀ a∈(rmOf r).alts,SliceK (fun b=>(b<w2.heap.size /\ C.rb<=b) /\ IntB (w9.setCell ⟨q,0,none⟩ (.slice sa (sortAl left (rmOf r).alts).length sc)) b) encN 1 (w9.setCell ⟨q,0,none⟩ (.slice sa (sortAl left (rmOf r).alts).length sc)) (va a) a.cuts:=fun a ha=>(H8.out.1.2 a ha).keep fun b hb hl=>by
    have h1:b<w2.heap.size:=by
     rcases Nat.lt_or_ge b w2.heap.size with h | h
     ·exact h
     ·have h3:=hb.1.1.1
      simp only [show ¬ b<w2.heap.size from by omega,if_false] at h3
      cases h3
    have h5:=Below.heap_setCell w9 ⟨q,0,none⟩ (.slice sa (sortAl left (rmOf r).alts).length sc) b (by have:=hb.1.1.2;simp only;omega)
    exact ⟨⟨⟨h1,hb.1.1.2⟩,by obtain ⟨c,fz,e⟩:=hb.2;exact ⟨c,fz,h5.trans e⟩⟩,h5⟩
   have hb10:Below w.heap.size w (w9.setCell ⟨q,0,none⟩ (.slice sa (sortAl left (rmOf r).alts).length sc)):=(H1.out.2.1.trans (hbw.mono H1.out.2.1.size)).setCell (p:=⟨q,0,none⟩) (by have:=H1.out.2.2.1;simp only;omega) _
   generalize w9.setCell ⟨q,0,none⟩ (.slice sa (sortAl left (rmOf r).alts).length sc)=w10 at hQ10 hR10 hrow10 hcut10 hb10 ⊢;obtain ⟨z0,z1,z2,z3,z4,z5,z6,zf⟩:=gfacts7 hQ10;obtain ⟨y0,y1,y2,y3,y4,y5,y6,yf⟩:=gfacts7 hR10;have hql:=hQ10.lt;have hrl:=hR10.lt;have H9:=Hd (An hR10 (An hrow10 (An hcut10 hb10)));clear hQ10 hR10 hrow10 hcut10 hb10 hbw s1 s2 s5 s7 s9 sq sq7 scr;go_wp2_with fail
   refine bodyPost_ret (rres _ _ (nb+1) _ _ _ _ _ _ _ _ (by rfl) (by rfl) (gset7 H9.out.1 _ _ _ _ _ _ _)) rfl ?_
   have s1:=H1.out.1.lt;have s2:=H2.out.1.size;have s5:=H5.out.2.1.size;have s7:=H7.out.2.1.size;have scr:=HCR.out;have hnb:=H1.out.2.2.1;have hset:∀ (b:Nat) (u0 u1 u2 u3 u4 u5 u6:Value),b≠nb+1->(((((((w10.setCell ⟨nb+1,0,none⟩ u0).setCell ⟨nb+1,1,none⟩ u1).setCell ⟨nb+1,2,none⟩ u2).setCell ⟨nb+1,3,none⟩ u3).setCell ⟨nb+1,4,none⟩ u4).setCell ⟨nb+1,5,none⟩ u5).setCell ⟨nb+1,6,none⟩ u6).heap[b]?=w10.heap[b]?:=fun b u0 u1 u2 u3 u4 u5 u6 hb=>by
    rw [Below.heap_setCell _ _ _ b hb,Below.heap_setCell _ _ _ b hb,Below.heap_setCell _ _ _ b hb,Below.heap_setCell _ _ _ b hb,Below.heap_setCell _ _ _ b hb,Below.heap_setCell _ _ _ b hb,Below.heap_setCell _ _ _ b hb]
   rw [H2.out.2.1];refine ⟨.slice sa (sortAl left r.alts).length sc,va,?_,?_,fun a ha=>?_,below_set7 H9.out.2.2.2 (by omega) _ _ _ _ _ _ _⟩
   ·rw [H5.out.2.2.2.1,H5.out.2.2.2.2.1,H5.out.2.2.2.2.2.1,<- H5.out.2.2.1,H5.out.2.2.2.1]
    rfl
   ·refine own_low (own_of_block H9.out.2.1 fun b hb=>hset b _ _ _ _ _ _ _ ?_) (by omega)
    have h1:=(H9.out.2.1.lt b hb).1;omega
   ·exact (H9.out.2.2.1 a ha).keep fun b hb hl=>by
     have h0:=hb.1;obtain ⟨c,fz,e⟩:=hb.2;exact ⟨⟨c,fz,(hset b _ _ _ _ _ _ _ (show b≠nb+1 by omega)).trans e⟩,hset b _ _ _ _ _ _ _ (show b≠nb+1 by omega)⟩
end Go.Proofs.YthiochcpmfkgcaaGreatDoor.Gl
namespace Go.Proofs.YthiochcpmfkgcaaGreatDoor.Gl
open Tb (Gr Sy It St MadeLaw makeF Good doneF rightOf)
theorem ways_all {g:Gr} {l:List St} {I:Nat->It->Prop} (hd:Dfa g (tabF g l) I) (hm:MadeLaw g l) {w:List UInt8} {B:Nat} {r:Rn} (hI:Inv (tabF g l) w B r) {x:Nd} (hx:x∈r.nodes) {q:Nat} (hq:q∈(tabF g l).done x.1) (hw:x.2<=w.length) :
  (waysF r.edges ((tabF g l).len q) x).length<=l.length * (w.length+1) * (w.length+1) ^ (tabF g l).len q:=by
 have hE:=fun a b (h:eP r.edges a b)=>(sound hd w).2.1 _ _ (hI.se _ h)
 have hi:I x.1 (q,(tabF g l).len q):=by rw [hd.len];exact (hd.done x.1 q).1 hq
 have hnd:=waysF_nodup hI.ed hE ((tabF g l).len q) x hi;obtain ⟨n,hn⟩:∃ n,(tabF g l).len q=n:=⟨_,rfl⟩;rw [hn] at hnd ⊢;have hall:∀ y∈waysF r.edges n x,y.1.1<l.length /\ y.1.2<w.length+1 /\ y.2.length=n /\ ∀ v∈y.2,v<w.length+1:=fun y hy=>by
  have h3:=waysF_mem.1 hy;obtain ⟨h4,h5⟩:=way_ends hI hx h3;refine ⟨node_below (tab_below hm) w y.1 (hI.sn _ h4),by omega,way_len h3,fun v hv=>?_⟩
  have:=way_le (fun a b (k:eP r.edges a b)=>(hI.ends (a,b) k).2.2) h3 v hv
  omega
 have h2:=nodup_bound (l.length * (w.length+1) * (w.length+1) ^ n) ((waysF r.edges n x).map fun y=>(y.1.1 * (w.length+1)+y.1.2) * (w.length+1) ^ n+codeF (w.length+1) y.2) (by
  rw [List.nodup_iff_pairwise_ne,List.pairwise_map];refine List.Pairwise.imp_of_mem ?_ (List.nodup_iff_pairwise_ne.1 hnd);intro a b ha hb hne he;obtain ⟨a1,a2,a3,a4⟩:=hall a ha;obtain ⟨b1,b2,b3,b4⟩:=hall b hb;have ca:=code_lt (m:=w.length+1) a.2 a4;have cb:=code_lt (m:=w.length+1) b.2 b4;rw [a3] at ca;rw [b3] at cb;have hpos:0<(w.length+1) ^ n:=Nat.lt_of_le_of_lt (Nat.zero_le _) ca;have e1:codeF (w.length+1) a.2=codeF (w.length+1) b.2:=by
   have:=congrArg (· % (w.length+1) ^ n) he;simp only [Nat.mul_add_mod_self_right] at this
   rwa [Nat.mod_eq_of_lt ca,Nat.mod_eq_of_lt cb] at this
  have e2:a.1.1 * (w.length+1)+a.1.2=b.1.1 * (w.length+1)+b.1.2:=by
   rw [e1] at he;exact Nat.eq_of_mul_eq_mul_right hpos (Nat.add_right_cancel he)
  have e3:a.1.2=b.1.2:=by
   have:=congrArg (· % (w.length+1)) e2;simp only [Nat.mul_add_mod_self_right] at this
   rwa [Nat.mod_eq_of_lt a2,Nat.mod_eq_of_lt b2] at this
  have e4:a.1.1=b.1.1:=by
   rw [e3] at e2;exact Nat.eq_of_mul_eq_mul_right (by omega) (Nat.add_right_cancel e2)
  exact hne (Prod.ext (Prod.ext e4 e3) (code_inj _ _ (a3.trans b3.symm) a4 b4 e1))) (fun v hv=>by
  obtain ⟨y,hy,rfl⟩:=List.mem_map.1 hv;obtain ⟨a1,a2,a3,a4⟩:=hall y hy;have ca:=code_lt (m:=w.length+1) y.2 a4;rw [a3] at ca;have h1:y.1.1 * (w.length+1)+y.1.2+1<=l.length * (w.length+1):=by
   have:=Nat.mul_le_mul_right (w.length+1) (show y.1.1+1<=l.length from a1);rw [Nat.add_mul,Nat.one_mul] at this;omega
  have h3:=Nat.mul_le_mul_right ((w.length+1) ^ n) h1;rw [Nat.add_mul,Nat.one_mul] at h3;omega)
 rwa [List.length_map] at h2
theorem statesGo_many (g:Gr):∀ (f n:Nat) (all:List (List It)) (l:List St),Tb.statesGo g f n all=some l->all.Nodup->all.length<=16384->n<=all.length->n+l.length<=16384
 | 0,n,all,l,h,hn,hl,hle=>by
  rw [Tb.statesGo] at h;simp at h;subst h;simp;omega
 | f+1,n,all,l,h,hn,hl,hle=>by
  rw [Tb.statesGo] at h
  cases hx:all[n]? with
  | none =>
   rw [hx] at h;simp at h;subst h;simp;omega
  | some y =>
   rw [hx] at h;dsimp only at h;have hlt:n<all.length:=(List.getElem?_eq_some_iff.1 hx).1
   cases h1:Tb.numbersF all (Tb.leadsF g y) with
   | none=>rw [h1] at h;cases h
   | some r =>
    obtain ⟨e,a1⟩:=r;rw [h1] at h;dsimp only at h;obtain ⟨n1,l1,_,⟨t,ht⟩,_⟩:=Tb.numbersF_some _ _ _ _ h1 hn hl
    cases h2:Tb.statesGo g f (n+1) a1 with
    | none=>rw [h2] at h;cases h
    | some r =>
     rw [h2] at h;simp at h;subst h;have:=statesGo_many g f (n+1) a1 r h2 n1 l1 (by rw [ht];simp;omega)
     simp;omega
theorem made_many {g:Gr} {l:List St} (h:makeF g=some l):l.length<=16384:=by
 unfold makeF at h;have:=statesGo_many g _ _ _ _ h (by simp) (by simp) (Nat.zero_le _)
 omega
theorem items_nodup {g:Gr} {l:List St} (hm:MadeLaw g l) {s:St} (hs:s∈l):s.items.Nodup:=by
 have hc:∀ k,(Tb.closedF g k).Nodup:=fun k=>Tb.compactIt_nodup _ (Tb.sortIt_sorted _)
 obtain ⟨j,hj⟩:=List.getElem?_of_mem hs
 rcases Nat.eq_zero_or_pos j with rfl | hpos
 ·obtain ⟨s0,h0,h1⟩:=hm.start
  rw [hj] at h0
  cases h0
  rw [h1];exact hc _
 ·obtain ⟨i,si,hij,hi,e,he,hej⟩:=hm.led j hpos (List.getElem?_eq_some_iff.1 hj).1
  obtain ⟨K,hK,h6⟩:=(hm.state si (List.mem_of_getElem? hi)).edges he;rw [hej,List.getElem?_map,hj] at h6;simp only [Option.map_some,Option.some.injEq] at h6;rw [h6];unfold Tb.leadsF at hK
  rcases List.mem_append.1 hK with h | h
  ·obtain ⟨c,_,hc2⟩:=List.mem_map.1 h
   injection hc2 with _ h2;rw [<- h2];exact hc _
  ·obtain ⟨c,_,hc2⟩:=List.mem_filterMap.1 h
   split at hc2
   ·cases hc2
   ·injection hc2 with hc2
    injection hc2 with _ h2;rw [<- h2];exact hc _
theorem done_few {g:Gr} {l:List St} (hs:Tb.SetsOk g) (hm:MadeLaw g l) (s:Nat):((tabF g l).done s).length<=g.prods.length:=by
 unfold tabF;dsimp only
 cases hl:l[s]? with
 | none=>simp
 | some st =>
  have hmem:=List.mem_of_getElem? hl;simp only [Option.map_some,Option.getD_some];rw [(hm.state st hmem).done];have hnd:=items_nodup hm hmem;have h2:=nodup_bound g.prods.length (doneF g st.items) (by
   unfold doneF;rw [List.nodup_iff_pairwise_ne,List.pairwise_map];refine List.Pairwise.imp_of_mem ?_ (List.nodup_iff_pairwise_ne.1 (hnd.filter _));intro a b ha hb hne he;have h3:=(List.mem_filter.1 ha).2;have h4:=(List.mem_filter.1 hb).2;simp only [beq_iff_eq] at h3 h4;exact hne (Prod.ext he (by rw [h3,h4,he]))) (fun v hv=>by
   unfold doneF at hv;obtain ⟨x,hx,rfl⟩:=List.mem_map.1 hv;have hx2:=(List.mem_filter.1 hx).1;have h5:=(tab_dfa hs hm).ok s x (by unfold itemsAt;rw [hl];exact hx2)
   unfold Tb.itemOk at h5;simp at h5;exact h5.1)
  exact h2
theorem lim_of {g:Gr} {txt:List UInt8} {bud:Int} (P L K:Nat) (hP:g.prods.length<=P) (hL:∀ q∈g.prods,q.right.length<=L) (hK:∀ l,makeF g=some l->l.length<=K) (hb:bud<=2199023255552)
  (h1:K * (txt.length+1) * (txt.length+1) ^ L<2199023255552) (h2:(bud.toNat+(txt.length+1)) * (K * (txt.length+1) * (P * (txt.length+1) ^ L))+(txt.length+1) * (K * (txt.length+1))<4611686018427387904):Lim g txt bud:=by
 have hsm:∀ l,makeF g=some l->Tb.Good g->Small (tabF g l) txt P L (K * (txt.length+1)):=fun l hl hg=>by
  have hm:=Tb.makeF_law hl;refine ⟨fun s=>?_,fun s p hp=>?_,fun n hn hx=>Nat.le_trans (nodes_few (tab_below hm) txt n hn hx) (Nat.mul_le_mul_right _ (hK l hl))⟩
  ·exact Nat.le_trans (done_few (gsets hg).1 hm s) hP
  ·rw [(tab_dfa (gsets hg).1 hm).len]
   unfold rightOf
   cases hq:g.prods[p]? with
   | none=>simp
   | some q=>exact hL q (List.mem_of_getElem? hq)
 refine ⟨hb,fun l hl hg h0 r hI x hx q hq=>?_,fun l hl hg h0 e=>?_⟩
 ·have hm:=Tb.makeF_law hl
  have hd:=tab_dfa (gsets hg).1 hm;have hs:=hsm l hl hg;have hxw:x.2<=txt.length:=(least_place _ txt).1 x (hI.sn x hx);refine Nat.lt_of_le_of_lt (ways_all hd hm hI hx hq hxw) (Nat.lt_of_le_of_lt ?_ h1);exact Nat.mul_le_mul (Nat.mul_le_mul_right _ (hK l hl)) (Nat.pow_le_pow_right (by omega) (hs.syms _ _ hq))
 ·have hm:=Tb.makeF_law hl
  have hd:=tab_dfa (gsets hg).1 hm;refine Nat.lt_of_le_of_lt (goneF_tried hd bud.toNat (hsm l hl hg) e) (Nat.lt_of_le_of_lt ?_ h2);refine Nat.add_le_add_right (Nat.mul_le_mul_right _ (Nat.add_le_add_right (Nat.sub_le _ _) _)) _
theorem lim_few {g:Gr} {txt:List UInt8} {bud:Int} (hP:g.prods.length<=25) (hL:∀ q∈g.prods,q.right.length<=5) (ht:txt.length<=20) (hb:bud<=20000):Lim g txt bud:=by
 have hm:txt.length+1<=21:=by omega
 have hp:(txt.length+1) ^ 5<=4084101:=Nat.le_trans (Nat.pow_le_pow_left hm 5) (by decide)
 have hB:bud.toNat<=20000:=by omega
 refine lim_of 25 5 16384 hP hL (fun l h=>made_many h) (by omega) ?_ ?_
 ·refine Nat.lt_of_le_of_lt (Nat.mul_le_mul (Nat.mul_le_mul_left 16384 hm) hp) (by decide)
 ·refine Nat.lt_of_le_of_lt (Nat.add_le_add (Nat.mul_le_mul (Nat.add_le_add hB hm) (Nat.mul_le_mul (Nat.mul_le_mul_left 16384 hm) (Nat.mul_le_mul_left 25 hp))) (Nat.mul_le_mul hm (Nat.mul_le_mul_left 16384 hm))) (by decide)
end Go.Proofs.YthiochcpmfkgcaaGreatDoor.Gl
namespace Go.Proofs.YthiochcpmfkgcaaGreatDoor.Gl
open Go Go.RowKit Go.Proofs Go.Maps Go.WideMaps Mx Tb
theorem letter_any (w:World):Calls Tryz.prog 18 #[.int .u8 97] w fun e w'=>e=.returned (setV (2 ^ 97)) /\ Below w.heap.size w w':=by
 go_enter Tryz.func18,Tryz.ntmps18
 go_wp2_with fail
 have hbk:Blk ((w.alloc (.cells #[.int .u64 0,.int .u64 8589934592,.int .u64 0,.int .u64 0] 33)).alloc (.cells #[.int .u64 0,.int .u64 8589934592,.int .u64 0,.int .u64 0] 33)) w.heap.size 33 #[.int .u64 0,.int .u64 8589934592,.int .u64 0,.int .u64 0]:=(Blk.new_ rfl _ _).alloc _;refine bodyPost_ret (results_cell_row (by rfl) _ _ w.heap.size 33 _ (0,0) _ (by rfl) hbk Tryz.underlying33 (by rfl) (by kernel_rfl)) rfl ?_
 refine ⟨?_,((Below.refl _ _).alloc (Nat.le_refl _) _).alloc (by simp) _⟩
 rw [show setV (2 ^ 97)=.agg #[.int .u64 0,.int .u64 8589934592,.int .u64 0,.int .u64 0] from by kernel_rfl]
def knG:Gr:=⟨[[83]],[⟨0,[⟨1,0,0⟩,⟨1,0,0⟩],[],0,false,false,-1⟩,⟨0,[⟨0,2 ^ 97,0⟩],[],0,false,false,-1⟩],0,[],[]⟩
def runS (g:Gr) (txt:List UInt8) (bud:Int):Int × Nat × Nat × Nat :=
 match wholeF g txt bud with
 | (n,none)=>(n,0,0,0)
 | (n,some (l,r))=>(n,r.alts.length,farF r,nextL l (rowF r (farF r)))
theorem kn_chk:chkN knG=0:=by kernel_rfl
theorem kn_aa:runS knG [97,97] 100=(0,3,2,2 ^ 97):=by kernel_rfl
theorem kn_ab:(runS knG [97,98] 100).1=0 /\ (runS knG [97,98] 100).2.2.1=1:=by
 refine ⟨by kernel_rfl,by kernel_rfl⟩
theorem kn_1:(runS knG [97,97] 1).1=200:=by kernel_rfl
theorem kn_a:preF knG [97] 100=(2 ^ 97,true,0):=by kernel_rfl
theorem kn_b:preF knG [98] 100=(0,false,0):=by kernel_rfl
theorem runS_some {g:Gr} {txt:List UInt8} {bud:Int} {a f M:Nat} (h:runS g txt bud=(0,a,f,M)) (h0:f≠0):∃ l r,wholeF g txt bud=(0,some (l,r)) /\ r.alts.length=a /\ farF r=f /\ nextL l (rowF r (farF r))=M:=by
 unfold runS at h
 split at h
 ·simp only [Prod.mk.injEq] at h;exact absurd h.2.2.1.symm h0
 ·next n l r hw =>
  simp only [Prod.mk.injEq] at h;exact ⟨l,r,by rw [hw,h.1],h.2.1,h.2.2.1,h.2.2.2⟩
theorem runS_none {g:Gr} {txt:List UInt8} {bud n:Int} (h:(runS g txt bud).1=n) (hn:n≠0):wholeF g txt bud=(n,none):=by
 unfold runS at h
 split at h
 ·next m hw=>rw [hw];exact congrArg (·,none) h
 ·next m l r hw=>exact absurd (h.symm.trans (whole_ok hw).1) hn
theorem kn_good:Tb.Good knG:=by
 refine ⟨by decide,by decide,by decide,?_,?_,?_⟩
 ·intro p hp
  simp only [knG,List.mem_cons,List.not_mem_nil,or_false] at hp
  rcases hp with rfl | rfl <;> exact ⟨by decide,by decide⟩
 ·intro p hp
  simp only [knG,List.mem_cons,List.not_mem_nil,or_false] at hp
  rcases hp with rfl | rfl <;> decide
 ·intro p hp s hs
  simp only [knG,List.mem_cons,List.not_mem_nil,or_false] at hp
  rcases hp with rfl | rfl
  ·simp only [List.mem_cons,List.not_mem_nil,or_false,or_self] at hs
   subst hs;exact .inr ⟨rfl,rfl,by decide,by decide⟩
  ·simp only [List.mem_cons,List.not_mem_nil,or_false] at hs
   subst hs;exact .inl ⟨rfl,rfl,by decide +kernel,by decide +kernel⟩
theorem kn_ok:GrOk knG:=by
 have hg:=kn_good;refine ⟨⟨by decide,by decide,by decide,by decide,by decide⟩,by decide,?_⟩
 intro p hp;refine ⟨hg.left p hp,hg.right p hp,?_,?_,?_,?_,?_,?_⟩
 all_goals (first | (intro s hs;rcases hg.sym p hp s hs with h | ⟨h1,h2,h3,h4⟩) | skip)
 all_goals (simp only [knG,List.mem_cons,List.not_mem_nil,or_false] at hp)
 ·rcases hp with rfl | rfl <;> decide
 ·rcases hp with rfl | rfl <;> decide
 ·rcases hp with rfl | rfl <;> decide
 ·rcases hp with rfl | rfl <;> exact .inl rfl
 ·rcases hp with rfl | rfl <;> exact .inl rfl
 ·exact .inl h
 ·refine .inr ⟨h1,h2,h3,h4,?_⟩
  rcases hp with rfl | rfl <;> decide
theorem kn_grw {D:Nat->Prop} {w:World} {sv pv:Value} {txt:List UInt8} (hs:SliceK D Tb.encS 1 w sv knG.sorts) (hp:ProdsAt D w pv knG.prods) (he:EnvG w) (ht:txt.length<=100000) :
  GrW knG ⟨sv,pv,0,.slice none 0 0,.slice none 0 0,.pointer none,txt⟩ w:=by
 have hs2:SliceK (fun _=>True) Tb.encS 1 w sv knG.sorts:=hs.imp fun _ _ _=>trivial
 have hp2:ProdsAt (fun _=>True) w pv knG.prods:=hp.keep fun _ _ _=>⟨trivial,rfl⟩
 refine ⟨rfl,hs2,hp2,⟨_,_,_,rfl⟩,⟨_,_,_,rfl⟩,fun _=>kn_good,he,fun W hW=>?_,ht⟩
 rw [kn_chk];exact check_none _ knG kn_ok W sv pv none none 0 0 (hs2.all hW) (hp2.keep fun b _ hl=>⟨trivial,hW.block b hl⟩)
theorem kn_lim {txt:List UInt8} {bud:Int} (ht:txt.length<=20) (hb:bud<=20000):Lim knG txt bud :=
 lim_few (by decide) (fun q hq=>by
  simp only [knG,List.mem_cons,List.not_mem_nil,or_false] at hq
  rcases hq with rfl | rfl <;> decide) ht hb
theorem kn_left (l:List St):(tabF knG l).left=(tabF knG []).left:=rfl
end Go.Proofs.YthiochcpmfkgcaaGreatDoor.Gl
namespace Go.Proofs.YthiochcpmfkgcaaGreatDoor.Mx
open Go.RowKit
section
variable {P:Program} {md:Region.Mode}
def liveB (gd:Nat->Bool) (o:Oper):Bool:=match o.guard with | none=>true | some (j,b)=>gd j==b
def GuardsOk (R:Nat->Value->World->Prop) (gd:Nat->Bool):List Nat->Prop
 | []=>True
 | j::r=>(∀ v w,R j v w->v=.bool (gd j)) /\ GuardsOk R gd r
theorem guardsOk_at {R:Nat->Value->World->Prop} {gd:Nat->Bool}:∀ {js:List Nat} {j:Nat},GuardsOk R gd js->j∈js->∀ v w,R j v w->v=.bool (gd j)
 | [],_,_,h=>absurd h (by simp)
 | x::r,j,hg,h=>by
  rcases List.mem_cons.1 h with h | h
  ·subst h;exact hg.1
  ·exact guardsOk_at hg.2 h
def concGB (md:Region.Mode) (l:List Oper) (n:Nat) (js:List Nat):Bool :=
 decide (n<=l.length)&&(l.take n).all (fun o=>o.dst.isSome)&&decide (concDsts l n).Nodup &&
 ((List.range n).all fun i=>((l[i]?).map fun o=>(o.after.all fun e=>!Region.binds md e || decide (e.on<i))&&(match o.guard with | none=>true | some (j,_)=>decide (j<n)&&decide (j∈js)&&o.after.any fun e=>Region.binds md e&&e.on==j)).getD false) &&
 ((List.range l.length).all fun j=>decide (j<n) || ((List.range n).all fun i=>((l[j]?).map fun o=>o.after.any fun e=>Region.binds md e&&reachB md l n 12 e.on i).getD false))
structure ConcGOk (md:Region.Mode) (l:List Oper) (n:Nat) (js:List Nat):Prop where
 le:n<=l.length
 guard:∀ (i:Nat) (o:Oper),i<n->l[i]?=some o->∀ j b,o.guard=some (j,b)->j<n /\ j∈js /\ ∃ e∈o.after,Region.binds md e=true /\ e.on=j
 dst:∀ (i:Nat) (o:Oper),i<n->l[i]?=some o->∃ s,o.dst=some s
 apart:∀ (i j:Nat) (oi oj:Oper) (s:Nat),i<n->j<n->l[i]?=some oi->l[j]?=some oj->oi.dst=some s->oj.dst=some s->i=j
 back:∀ (i:Nat) (o:Oper),i<n->l[i]?=some o->∀ e∈o.after,Region.binds md e=true->e.on<i
 waits:∀ (j:Nat) (o:Oper),n<=j->l[j]?=some o->∀ i,i<n->∃ e∈o.after,Region.binds md e=true /\ reachB md l n 12 e.on i=true
theorem concGB_ok {l:List Oper} {n:Nat} {js:List Nat} (h:concGB md l n js=true):ConcGOk md l n js:=by
 unfold concGB at h;simp only [Bool.and_eq_true,decide_eq_true_eq,List.all_eq_true,Bool.or_eq_true] at h;obtain ⟨⟨⟨⟨h1,h2⟩,h3⟩,h4⟩,h5⟩:=h;have tk:∀ (i:Nat) (o:Oper),i<n->l[i]?=some o->(l.take n)[i]?=some o:=fun i o hi ho=>by rw [List.getElem?_take_of_lt hi];exact ho
 refine ⟨h1,?_,?_,?_,?_,?_⟩
 ·intro i o hi ho
  intro j b hgu;have:=h4 i (List.mem_range.2 hi);rw [ho] at this;simp only [Option.map_some,Option.getD_some,Bool.and_eq_true,hgu,decide_eq_true_eq] at this;obtain ⟨_,⟨h6,h7⟩,h8⟩:=this;rw [Array.any_eq_true] at h8;obtain ⟨k,hk,h8⟩:=h8;simp only [Bool.and_eq_true,beq_iff_eq] at h8;exact ⟨h6,h7,_,Array.getElem_mem hk,h8.1,h8.2⟩
 ·intro i o hi ho
  have:=h2 o (List.mem_of_getElem? (tk i o hi ho));exact Option.isSome_iff_exists.1 this
 ·intro i j oi oj s hi hj hoi hoj hsi hsj
  exact nodup_filterMap h3 (tk i oi hi hoi) (tk j oj hj hoj) hsi hsj
 ·intro i o hi ho e he hbe
  have:=h4 i (List.mem_range.2 hi);rw [ho] at this;simp only [Option.map_some,Option.getD_some,Bool.and_eq_true,Array.all_eq_true_iff_forall_mem,Bool.or_eq_true,Bool.not_eq_true',decide_eq_true_eq] at this
  rcases this.1 e he with h6 | h6
  ·rw [hbe] at h6;cases h6
  ·exact h6
 ·intro j o hj ho i hi
  have hjl:=(List.getElem?_eq_some_iff.1 ho).1;have:=(h5 j (List.mem_range.2 hjl)).resolve_left (by omega) i (List.mem_range.2 hi)
  rw [ho] at this;simp only [Option.map_some,Option.getD_some] at this;rw [Array.any_eq_true] at this;obtain ⟨k,hk,h⟩:=this;simp only [Bool.and_eq_true] at h;exact ⟨_,Array.getElem_mem hk,h.1,h.2⟩
def ConcObsG (P:Program) (md:Region.Mode) (l:List Oper) (n:Nat) (R:Nat->Value->World->Prop) (G:World->World->Prop) (J:Array Bool->World->Prop) (Q:Exit->Act->World->Prop) (a0:Act) (w0:World) (gd:Nat->Bool):List Oper->Nat->Prop
 | [],_=>True
 | o::r,i=>((liveB gd o=true->ConcOb P md l n R G J Q a0 w0 i o) /\ (liveB gd o=false->∀ (L:Array Bool) (w:World),G w0 w->J L w->G w w /\ J (L.setIfInBounds i true) w /\ R i undef w)) /\ ConcObsG P md l n R G J Q a0 w0 gd r (i+1)
theorem concObsG_at {l:List Oper} {n:Nat} {R:Nat->Value->World->Prop} {G:World->World->Prop} {J:Array Bool->World->Prop} {Q:Exit->Act->World->Prop} {a0:Act} {w0:World} {gd:Nat->Bool} :
  ∀ (r:List Oper) (k:Nat),ConcObsG P md l n R G J Q a0 w0 gd r k->∀ (i:Nat) (o:Oper),r[i]?=some o->(liveB gd o=true->ConcOb P md l n R G J Q a0 w0 (k+i) o) /\ (liveB gd o=false->∀ (L:Array Bool) (w:World),G w0 w->J L w->G w w /\ J (L.setIfInBounds (k+i) true) w /\ R (k+i) undef w)
 | [],k,_,i,o,h=>by simp at h
 | x::r,k,hobs,0,o,h=>by
  simp at h;subst h;exact hobs.1
 | x::r,k,hobs,i+1,o,h=>by
  have:=concObsG_at r (k+1) hobs.2 i o (by simpa using h)
  rw [show k+(i+1)=k+1+i by omega];exact this
theorem wpAny_concG {l:List Oper} {n:Nat} {R:Nat->Value->World->Prop} {G:World->World->Prop} {J:Array Bool->World->Prop} {Q:Exit->Act->World->Prop} {a0:Act} {w0:World}
  {js:List Nat} {gd:Nat->Bool} (hgd:GuardsOk R gd js) (hB:concGB md l n js=true) (hsz:∀ s∈concDsts l n,s<a0.tmps.size) (htrans:∀ {w1 w2:World},G w0 w1->G w1 w2->G w0 w2)
  (hop:ConcObsG P md l n R G J Q a0 w0 gd (l.take n) 0)
  (hend:∀ (f:Nat->Value) (w:World),G w0 w->J ((Array.replicate n true)++(Array.replicate (l.length - n) false)) w->(∀ i s,i<n->(l[i]?).bind (·.dst)=some s->R i (f s) w) ->
   wpAny P md l.toArray Q (l.length - n) ((Array.replicate n true)++(Array.replicate (l.length - n) false)) { tmps:=(concDsts l n).foldl (fun x s=>x.setIfInBounds s (f s)) a0.tmps,defers:=a0.defers } w) :
  ∀ (m:Nat) (L:Array Bool) (a:Act) (w:World),ConcInv md l n R G J a0 w0 L a w->(∀ (i:Nat) (o:Oper),i<n->l[i]?=some o->L.getD i false=true->∀ e∈o.after,Region.binds md e=true->L.getD e.on false=true)->(List.range n).countP (fun i=>!L.getD i true)=m->wpAny P md l.toArray Q (m+(l.length - n)) L a w:=by
 have ok:=concGB_ok hB;have hle:=ok.le;intro m
 induction m with
 | zero =>
  intro L a w inv hcl hc;have hall:∀ i,i<n->L.getD i false=true:=fun i hi=>by
   rw [List.countP_eq_zero] at hc;have:=hc i (List.mem_range.2 hi);rw [getD_flip (by rw [inv.size];omega)] at this
   simpa using this
  have hL:L=(Array.replicate n true)++(Array.replicate (l.length - n) false):=by
   apply Array.ext (by simp [inv.size];omega)
   intro i h1 h2
   by_cases hi:i<n
   ·have:=hall i hi
    simp [h1] at this;rw [this,Array.getElem_append_left (by simpa using hi)];simp
   ·have:=inv.tail i (by omega)
    simp [h1] at this;rw [this,Array.getElem_append_right (by simp;omega)];simp
  rw [Nat.zero_add];have h1:=hend (fun s=>a.tmps.getD s undef) w inv.grow (hL ▸ inv.inv) (fun i s hi hs=>inv.vals i (hall i hi) s hs)
  rw [hL];have ha:a={ tmps:=(concDsts l n).foldl (fun x s=>x.setIfInBounds s (a.tmps.getD s undef)) a0.tmps,defers:=a0.defers }:=by
   obtain ⟨t,d⟩:=a;have e1:d=a0.defers:=inv.defers;subst e1
   congr 1
   exact conc_rebuild _ _ _ inv.tmps inv.frame
  rw [ha];exact h1
 | succ m ih =>
  intro L a w inv hcl hc;obtain ⟨k,hk,hkL⟩:∃ k,k<n /\ L.getD k true=false:=by
   have:0<(List.range n).countP (fun i=>!L.getD i true):=by omega
   rw [List.countP_pos_iff] at this;obtain ⟨k,h1,h2⟩:=this;exact ⟨k,List.mem_range.1 h1,by simpa using h2⟩
  rw [show m+1+(l.length - n)=(m+(l.length - n))+1 by omega,wpAny]
  constructor
  ·intro hr
   exfalso
   obtain ⟨i,hin,hiL,hmin⟩:∃ i,i<n /\ L.getD i true=false /\ ∀ j,j<i->L.getD j true=true:=by
    have h:∃ i,i<n /\ L.getD i true=false:=⟨k,hk,hkL⟩;have:∀ b i,i<=b->i<n->L.getD i true=false->∃ i,i<n /\ L.getD i true=false /\ ∀ j,j<i->L.getD j true=true:=by
     intro b
     induction b with
     | zero=>intro i hi h1 h2;exact ⟨i,h1,h2,fun j hj=>by omega⟩
     | succ b ihb =>
      intro i hi h1 h2
      by_cases hx:∃ j,j<i /\ L.getD j true=false
      ·obtain ⟨j,hj,h3⟩:=hx
       exact ihb j (by omega) (by omega) h3
      ·refine ⟨i,h1,h2,fun j hj=>?_⟩
       cases h4:L.getD j true with
       | true=>rfl
       | false=>exact absurd ⟨j,hj,h4⟩ hx
    exact this k k (Nat.le_refl _) hk hkL
   have hil:i<l.length:=by omega
   have ho:l[i]?=some l[i]:=List.getElem?_eq_getElem hil;have hmem:i∈Region.ready md l.toArray L:=by
    rw [mem_ready];refine ⟨hiL,l[i],by simp,fun e he hbe=>?_⟩
    have hb:=ok.back i _ hin ho e he hbe;rw [<- getD_flip (by rw [inv.size];omega)]
    exact hmin e.on hb
   rw [hr] at hmem
   cases hmem
  ·intro i hi
   obtain ⟨hiL,o,ho,hdep⟩:=mem_ready.1 hi;have ho':l[i]?=some o:=by simpa using ho
   have hin:i<n:=by
    rcases Nat.lt_or_ge i n with h | h
    ·exact h
    ·exfalso
     obtain ⟨e,he,hb,hon⟩:=ok.waits i o h ho' k hk;have h1:=hdep e he hb;have h2:L.getD k false=true:=reach_done hcl 12 _ k hon h1;rw [<- getD_flip (by rw [inv.size];omega)] at h2
     rw [hkL] at h2
     cases h2
   have hob:=concObsG_at _ 0 hop i o (by rw [List.getElem?_take_of_lt hin];exact ho')
   rw [Nat.zero_add] at hob;obtain ⟨d,hd⟩:=ok.dst i o hin ho';have hdm:d∈concDsts l n:=List.mem_filterMap.2 ⟨o,List.mem_of_getElem? (show (l.take n)[i]?=some o by rw [List.getElem?_take_of_lt hin];exact ho'),hd⟩
   unfold wpOp;rw [ho];have hw:Region.wanted o (yielded l.toArray a.tmps)=liveB gd o:=by
    unfold Region.wanted liveB
    cases hgu:o.guard with
    | none=>rfl
    | some q =>
     obtain ⟨j,b⟩:=q;obtain ⟨hjn,hjs,e,he,hbe,hon⟩:=ok.guard i o hin ho' j b hgu;have hjL:=hdep e he hbe;rw [hon] at hjL;obtain ⟨oj,hoj⟩:∃ oj,l[j]?=some oj:=⟨_,List.getElem?_eq_getElem (show j<l.length by omega)⟩
     obtain ⟨s,hs⟩:=ok.dst j oj hjn hoj;have hbind:(l[j]?).bind (·.dst)=some s:=by rw [hoj];exact hs
     have hv:=guardsOk_at hgd hjs _ _ (inv.vals j hjL s hbind);have hsm:s∈concDsts l n:=List.mem_filterMap.2 ⟨oj,List.mem_of_getElem? (show (l.take n)[j]?=some oj by rw [List.getElem?_take_of_lt hjn];exact hoj),hs⟩
     have hlt:s<a.tmps.size:=by rw [inv.tmps];exact hsz s hsm
     have hget:a.tmps[s]?=some (.bool (gd j)):=by
      rw [Array.getElem?_eq_getElem hlt];simp [hlt] at hv;rw [hv]
     have hy:yielded l.toArray a.tmps j=some (gd j):=by
      unfold yielded;have e1:(l.toArray[j]?).bind (·.dst)=some s:=by simpa using hbind
      rw [e1]
      show (match a.tmps[s]? with | some (.bool b)=>some b | _=>none)=_
      rw [hget]
     dsimp only;rw [hy]
     cases gd j <;> cases b <;> rfl
   have ea:a={ tmps:=a.tmps,defers:=a0.defers }:=by
    have:=inv.defers;obtain ⟨t,d⟩:=a;have e1:d=a0.defers:=this;subst e1
    rfl
   have fin:∀ (v:Value) (w':World),G w w'->(∀ j u,j<n->j≠i->L.getD j false=true->R j u w->R j u w')->J (L.setIfInBounds i true) w'->R i v w'->wpAny P md l.toArray Q (m+(l.length - n)) (L.setIfInBounds i true) (Act.put a o.dst v) w':=by
    intro v w' hG hst hJ hR;refine ih _ _ _ ⟨by simp [inv.size],?_,htrans inv.grow hG,hJ,by rw [hd];exact inv.defers,?_,?_,?_⟩ ?_ ?_
    ·intro j hj
     rw [getD_set_ne false (by omega)];exact inv.tail j hj
    ·rw [hd];simp [Act.put,inv.tmps]
    ·intro s hs
     have hne:d≠s:=by rintro rfl;exact hs hdm
     rw [hd]
     show (a.tmps.setIfInBounds d v).getD s undef=_
     rw [<- inv.frame s hs];simp [Array.getElem?_setIfInBounds_ne hne]
    ·intro j hj s hs
     rw [hd]
     show R j ((a.tmps.setIfInBounds d v).getD s undef) w'
     by_cases hji:j=i
     ·subst hji
      rw [ho'] at hs;simp at hs;rw [hd] at hs;injection hs with hs;subst hs;have hlt:d<a.tmps.size:=by rw [inv.tmps];exact hsz d hdm
      rw [show (a.tmps.setIfInBounds d v).getD d undef=v by simp [hlt]]
      exact hR
     ·have hj':L.getD j false=true:=by rwa [getD_set_ne false (Ne.symm hji)] at hj
      have hjn:j<n:=by
       rcases Nat.lt_or_ge j n with h | h
       ·exact h
       ·rw [inv.tail j h] at hj';cases hj'
      obtain ⟨oj,hoj⟩:∃ oj,l[j]?=some oj:=⟨_,List.getElem?_eq_getElem (show j<l.length by omega)⟩
      have hsj:oj.dst=some s:=by rw [hoj] at hs;simpa using hs
      have hne:d≠s:=by
       rintro rfl;exact hji (ok.apart j i oj o d hjn hin hoj ho' hsj hd)
      have hv:=inv.vals j hj' s hs;have e:(a.tmps.setIfInBounds d v).getD s undef=a.tmps.getD s undef:=by simp [Array.getElem?_setIfInBounds_ne hne]
      rw [e];exact hst j _ hjn hji hj' hv
    ·have hup:∀ x,L.getD x false=true->(L.setIfInBounds i true).getD x false=true:=fun x hx=>by
      by_cases hxi:x=i
      ·subst hxi;exact getD_set_self (by rw [inv.size];omega)
      ·rw [getD_set_ne false (Ne.symm hxi)];exact hx
     intro j oj hj hoj hjL e he hb
     by_cases hji:j=i
     ·subst hji
      rw [ho'] at hoj;injection hoj with hoj;subst hoj;exact hup _ (hdep e he hb)
     ·rw [getD_set_ne false (Ne.symm hji)] at hjL
      exact hup _ (hcl j oj hj hoj hjL e he hb)
    ·have hcnt:∀ (r:List Nat),r.Nodup->i∈r->r.countP (fun x=>!(L.setIfInBounds i true).getD x true)+1=r.countP (fun x=>!L.getD x true):=by
      intro r
      induction r with
      | nil=>intro _ h;cases h
      | cons x r ihr =>
       intro hn hm;rw [List.nodup_cons] at hn;rw [List.countP_cons,List.countP_cons]
       by_cases hx:x=i
       ·subst hx
        have h0:∀ y∈r,(L.setIfInBounds x true).getD y true=L.getD y true:=fun y hy=>getD_set_ne true (by rintro rfl;exact hn.1 hy)
        have h1:r.countP (fun y=>!(L.setIfInBounds x true).getD y true)=r.countP (fun y=>!L.getD y true):=by
         apply List.countP_congr
         intro y hy;rw [h0 y hy]
        rw [h1,hiL];have h2:(L.setIfInBounds x true).getD x true=true:=by rw [getD_flip (by simp [inv.size];omega)];exact getD_set_self (by rw [inv.size];omega)
        rw [h2];simp
       ·have h2:=ihr hn.2 (by rcases List.mem_cons.1 hm with h | h;exact absurd h.symm hx;exact h)
        rw [getD_set_ne true (Ne.symm hx)];omega
     have:=hcnt (List.range n) List.nodup_range (List.mem_range.2 hin);omega
   dsimp only;rw [hw]
   cases hlv:liveB gd o with
   | false =>
    rw [if_neg (by decide)]
    obtain ⟨s1,s2,s3⟩:=hob.2 hlv L w inv.grow inv.inv;exact fin undef w s1 (fun _ _ _ _ _ h=>h) s2 s3
   | true =>
   simp only [if_true];have key:=hob.1 hlv L a.tmps w inv.grow inv.inv inv.size hiL hdep inv.frame (fun e he hb s hs=>inv.vals e.on (hdep e he hb) s hs) (wpAny P md l.toArray Q (m+(l.length - n)) (L.setIfInBounds i true))
   rw [<- ea] at key;exact .inl (key fin)
theorem wp_region_concG {id:Nat} {l:List Oper} (n:Nat) {Q:Exit->Act->World->Prop} {a0:Act} {w:World} (R:Nat->Value->World->Prop) (G:World->World->Prop) (J:Array Bool->World->Prop)
  (js:List Nat) (gd:Nat->Bool) (hm:P.follows .mixedOrders=true) (hB:concGB .any l n js=true) (hS:Region.seqB .any l.toArray (l.length - n) n ((Array.replicate n true)++(Array.replicate (l.length - n) false))=true)
  (hsz:((concDsts l n).all fun s=>decide (s<a0.tmps.size))=true) (h0:G w.drew w.drew) (hJ:J (Array.replicate l.length false) w.drew)
  (htrans:∀ {w1 w2:World},G w.drew w1->G w1 w2->G w.drew w2)
  (hgd:GuardsOk R gd js) (hop:ConcObsG P .any l n R G J Q a0 w.drew gd (l.take n) 0)
  (hend:∀ (f:Nat->Value) (w1:World),G w.drew w1->J ((Array.replicate n true)++(Array.replicate (l.length - n) false)) w1->(∀ i s,i<n->(l[i]?).bind (·.dst)=some s->R i (f s) w1) ->
   wpList P l.toArray Q (l.drop n) { tmps:=(concDsts l n).foldl (fun x s=>x.setIfInBounds s (f s)) a0.tmps,defers:=a0.defers } w1) :
  (Code.region id l.toArray true).wp P Q a0 w:=by
 refine wp_region_any hm ?_;have hle:=(concGB_ok hB).le;have hrep:∀ j,(Array.replicate l.length false).getD j false=false:=fun j=>by
  by_cases h:j<l.length <;> simp [h]
 have hd:(l.drop n).length=l.length - n:=by simp
 have key:=wpAny_concG (P:=P) (md:=.any) (Q:=Q) (a0:=a0) (w0:=w.drew) hgd hB (by simpa using hsz) htrans hop (fun f w1 h1 h2 h3=>by
  have:=wpAny_of_seq (P:=P) (md:=.any) (Q':=Q) (l.drop n) n _ _ w1 (fun j=>by simp [List.getElem?_drop]) (by rw [hd];exact hS) (hend f w1 h1 h2 h3)
  rwa [hd] at this) n (Array.replicate l.length false) a0 w.drew
  ⟨by simp,fun j _=>hrep j,h0,hJ,rfl,rfl,fun _ _=>rfl,fun i hi=>by rw [hrep] at hi;cases hi⟩ (fun i o hi ho h=>by rw [hrep] at h;cases h) (by
   rw [List.countP_eq_length.2 (fun i hi=>by
    have h:=List.mem_range.1 hi;rw [getD_flip (by simp;omega),hrep];rfl)]
   simp)
 have e:n+(l.length - n)=l.toArray.size:=by simp;omega
 rw [e] at key;have e2:l.toArray.size=l.length:=by simp
 rw [<- e2] at key;exact key
end
end Go.Proofs.YthiochcpmfkgcaaGreatDoor.Mx
