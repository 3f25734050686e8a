/- Walks and plain laws that the last text stands on: GlRun, GlLim, GlSmp, GlKnG, ConcG. -/
import Derived.Test.YthiochcpmfkgcaaGreatDoorSo20
set_option linter.unusedVariables false
set_option linter.unusedSimpArgs false
set_option maxRecDepth 100000
set_option maxHeartbeats 16000000
namespace Go.Proofs.YthiochcpmfkgcaaGreatDoor.Gl
open Go Go.RowKit Go.Proofs Go.Maps Go.WideMaps Mx Tb
def ruR (rb be ba E A far M B0:Nat) (j:Nat) (v:Value) (W:World):Prop :=
 match j with
 | 0=>v=.pointer (some ⟨rb,0,none⟩)
 | 1=>v=.pointer (some ⟨rb,0,none⟩)
 | 2=>v=.pointer (some ⟨rb,9,none⟩)
 | 3=>v=.map (some be)
 | 4=>v=.int .i64 E
 | 5=>v=.pointer (some ⟨rb,0,none⟩)
 | 6=>v=.pointer (some ⟨rb,0,none⟩)
 | 7=>v=.pointer (some ⟨rb,10,none⟩)
 | 8=>v=.map (some ba)
 | 9=>v=.int .i64 A
 | 10=>v=.int .i64 ((E:Int)+(A:Int))
 | 11=>v=.int .i64 far
 | 12=>v=.pointer (some ⟨rb,0,none⟩)
 | 13=>v=.int .i64 far
 | 14=>v=.agg #[.int .u64 (wd M 0),.int .u64 (wd M 1),.int .u64 (wd M 2),.int .u64 (wd M 3)]
 | 15=>v=.agg #[.slice none 0 0,.int .i64 ((E:Int)+(A:Int)),.int .i64 far,.int .u64 (wd M 0),.int .u64 (wd M 1),.int .u64 (wd M 2),.int .u64 (wd M 3)]
 | 16=>∃ q,v=.pointer (some ⟨q,0,none⟩) /\ Blk W q 35 #[.slice none 0 0,.int .i64 0,.int .i64 0,.int .u64 0,.int .u64 0,.int .u64 0,.int .u64 0] /\ B0<=q
 | _=>True
theorem ruR_low {rb be ba E A far M B0:Nat} (j:Nat) (v:Value) {W W':World} (h:ruR rb be ba E A far M B0 j v W) (hb:Below W.heap.size W W'):ruR rb be ba E A far M B0 j v W':=by
 unfold ruR at h ⊢
 split at h <;> first | exact h | skip
 obtain ⟨q,e,h1,h2⟩:=h;exact ⟨q,e,h1.below hb h1.lt,h2⟩
theorem gfacts7 {w:World} {g:Nat} {t:TypeId} {v0 v1 v2 v3 v4 v5 v6:Value} (h:Blk w g t #[v0,v1,v2,v3,v4,v5,v6]):w.cell? ⟨g,0,none⟩=some v0 /\ w.cell? ⟨g,1,none⟩=some v1 /\ w.cell? ⟨g,2,none⟩=some v2 /\ w.cell? ⟨g,3,none⟩=some v3 /\ w.cell? ⟨g,4,none⟩=some v4 /\ w.cell? ⟨g,5,none⟩=some v5 /\ w.cell? ⟨g,6,none⟩=some v6 /\ (∀ i,w.frozen? ⟨g,i,none⟩=false) :=
 ⟨h.cell 0,h.cell 1,h.cell 2,h.cell 3,h.cell 4,h.cell 5,h.cell 6,h.frozen⟩
def waysC (v:Value) (steps far:Int) (M:Nat):Array Value:=#[v,.int .i64 steps,.int .i64 far,.int .u64 (wd M 0),.int .u64 (wd M 1),.int .u64 (wd M 2),.int .u64 (wd M 3)]
def farF (r:Rn):Nat:=maxN (r.nodes.map (·.2))
def RunT (p:RP) (left:Nat->Int) (w:World) (e:Ending) (w':World):Int × Option (List St × Rn)->Prop
 | (n,none)=>e=.returned (.tuple #[.agg (waysC (.slice none 0 0) 0 0 0),.int .i64 n]) /\ Below w.heap.size w w'
 | (n,some (l,r))=>∃ v va,e=.returned (.tuple #[.agg (waysC v ((r.edges.length:Int)+(r.alts.length:Int)) (farF r:Int) (nextL l (rowF r (farF r)))),.int .i64 n]) /\
   w'.ownsRow w.heap.size 59 5 v (sortAl left r.alts).length (flatK (encAl left va) (sortAl left r.alts)) /\ (∀ a∈r.alts,SliceK (IntB w') encN 1 w' (va a) a.cuts) /\ Below w.heap.size w w'
theorem rres (tmps:Array Value) (w:World) (a:Nat) (v0 v1 v2 v3 v4 v5 v6:Value) (n:Int) (h6:tmps.getD 6 undef=.pointer (some ⟨a,0,none⟩)) (h7:tmps.getD 7 undef=.int .i64 n) (hb:Blk w a 35 #[v0,v1,v2,v3,v4,v5,v6]) :
  (results Tryz.f11 tmps).run Tryz.prog w=.ok (.tuple #[.agg #[v0,v1,v2,v3,v4,v5,v6],.int .i64 n]) w:=by
 obtain ⟨s0,s1,s2,s3,s4,s5,s6,sf⟩:=gfacts7 hb;simp at h6 h7;simp [results,Tryz.results11,asAddr,h6,h7,s0,s1,s2,s3,s4,s5,s6,go_sem]
theorem gset7 {w:World} {g:Nat} {t:TypeId} {v0 v1 v2 v3 v4 v5 v6:Value} (h:Blk w g t #[v0,v1,v2,v3,v4,v5,v6]) (u0 u1 u2 u3 u4 u5 u6:Value) :
  Blk (((((((w.setCell ⟨g,0,none⟩ u0).setCell ⟨g,1,none⟩ u1).setCell ⟨g,2,none⟩ u2).setCell ⟨g,3,none⟩ u3).setCell ⟨g,4,none⟩ u4).setCell ⟨g,5,none⟩ u5).setCell ⟨g,6,none⟩ u6) g t #[u0,u1,u2,u3,u4,u5,u6]:=by
 have h0:Blk _ g t #[u0,v1,v2,v3,v4,v5,v6]:=h.set_ 0 u0;have h1:Blk _ g t #[u0,u1,v2,v3,v4,v5,v6]:=h0.set_ 1 u1;have h2:Blk _ g t #[u0,u1,u2,v3,v4,v5,v6]:=h1.set_ 2 u2;have h3:Blk _ g t #[u0,u1,u2,u3,v4,v5,v6]:=h2.set_ 3 u3;have h4:Blk _ g t #[u0,u1,u2,u3,u4,v5,v6]:=h3.set_ 4 u4;have h5:Blk _ g t #[u0,u1,u2,u3,u4,u5,v6]:=h4.set_ 5 u5;have h6:Blk _ g t #[u0,u1,u2,u3,u4,u5,u6]:=h5.set_ 6 u6;exact h6
theorem below_set7 {w w':World} {n g:Nat} (h:Below n w w') (hg:n<=g) (u0 u1 u2 u3 u4 u5 u6:Value) :
  Below n w (((((((w'.setCell ⟨g,0,none⟩ u0).setCell ⟨g,1,none⟩ u1).setCell ⟨g,2,none⟩ u2).setCell ⟨g,3,none⟩ u3).setCell ⟨g,4,none⟩ u4).setCell ⟨g,5,none⟩ u5).setCell ⟨g,6,none⟩ u6) :=
 ((((((h.setCell (p:=⟨g,0,none⟩) hg u0).setCell (p:=⟨g,1,none⟩) hg u1).setCell (p:=⟨g,2,none⟩) hg u2).setCell (p:=⟨g,3,none⟩) hg u3).setCell (p:=⟨g,4,none⟩) hg u4).setCell (p:=⟨g,5,none⟩) hg u5).setCell (p:=⟨g,6,none⟩) hg u6
theorem run_any (g:Gr) (p:RP) (bud:Int) (w:World) (h:GrW g p w) (hL:Lim g p.txt bud) (left:Nat->Int) (hleft:∀ l,(tabF g l).left=left) :
  Calls Tryz.prog 11 #[.agg #[p.sv,p.pv,.int .i64 p.st,p.fv,p.lv],.string ⟨p.txt.toArray⟩,.int .i64 bud] w fun e w'=>RunT p left w e w' (wholeF g p.txt bud):=by
 have HH:=Z3.mk h hL hleft;clear h hL hleft;obtain ⟨tb,htb⟩:∃ tb:ByteArray,(⟨p.txt.toArray⟩:ByteArray)=tb:=⟨_,rfl⟩;have HTB:=Hd htb;rw [htb];clear htb;go_enter Tryz.func11,Tryz.ntmps11;go_upto_region 1 with fail
 have hGB:Blk ((w.alloc (.cells #[p.sv,p.pv,.int .i64 p.st,p.fv,p.lv] 27)).alloc (.cells #[.slice none 0 0,.int .i64 0,.int .i64 0,.int .u64 0,.int .u64 0,.int .u64 0,.int .u64 0] 35)) w.heap.size 27 #[p.sv,p.pv,.int .i64 p.st,p.fv,p.lv]:=(Blk.new_ rfl _ _).alloc _;have hRB:Blk ((w.alloc (.cells #[p.sv,p.pv,.int .i64 p.st,p.fv,p.lv] 27)).alloc (.cells #[.slice none 0 0,.int .i64 0,.int .i64 0,.int .u64 0,.int .u64 0,.int .u64 0,.int .u64 0] 35)) (w.heap.size+1) 35 #[.slice none 0 0,.int .i64 0,.int .i64 0,.int .u64 0,.int .u64 0,.int .u64 0,.int .u64 0]:=Blk.new_ (by simp) _ _;have hb0:Below w.heap.size w ((w.alloc (.cells #[p.sv,p.pv,.int .i64 p.st,p.fv,p.lv] 27)).alloc (.cells #[.slice none 0 0,.int .i64 0,.int .i64 0,.int .u64 0,.int .u64 0,.int .u64 0,.int .u64 0] 35)):=((bR _ _).alloc (nR _) _).alloc (by simp) _;generalize ((w.alloc (.cells #[p.sv,p.pv,.int .i64 p.st,p.fv,p.lv] 27)).alloc (.cells #[.slice none 0 0,.int .i64 0,.int .i64 0,.int .u64 0,.int .u64 0,.int .u64 0,.int .u64 0] 35))=w1 at hGB hRB hb0 ⊢;obtain ⟨nb,hnb⟩:=eX w.heap.size;rw [hnb] at hGB hRB ⊢;obtain ⟨g0,g1,g2,g3,g4,gf⟩:=gfacts5 hGB;have hwh:=whole_any g p bud w1 (HH.o1.below hb0) HH.o2;rw [HTB.out] at hwh;have H1:=Z4.mk hRB hb0 hnb hwh;clear hGB hRB hb0 hwh hnb;go_wp2_with fail
 refine H1.o4.mono ?_;rintro e w2 hW;obtain ⟨qa,hqa⟩:=eX (wholeF g p.txt bud);obtain ⟨n,o⟩:=qa;rw [hqa] at hW
 cases o with
 | none =>
  obtain ⟨rfl,hb2⟩:=hW;have hn:=whole_err hqa;have hS:=H1.o1.below hb2 H1.o1.lt;obtain ⟨s0,s1,s2,s3,s4,s5,s6,sf⟩:=gfacts7 hS;have hsl:=hS.lt;have H2:=Z3.mk hb2 hqa hS;clear hb2 hqa hS
  rcases hn with rfl | rfl | rfl | rfl
  all_goals
   go_wp2_with fail
   refine bodyPost_ret (rres _ _ (nb+1) _ _ _ _ _ _ _ _ (by rfl) (by rfl) (gset7 H2.o3 _ _ _ _ _ _ _)) rfl ?_;have hnb:=H1.o3;rw [H2.o2];exact ⟨rfl,below_set7 (H1.o2.trans (H2.o1.mono H1.o2.size)) (by omega) _ _ _ _ _ _ _⟩
 | some v =>
  obtain ⟨l,r⟩:=v;obtain ⟨B,sm,tv,C,w0,ρ,hl,hc,hb2,hnx,rfl,hR⟩:=hW;obtain ⟨rfl,hc0,hlen,hmk,hbud,hgo⟩:=whole_ok hqa;have hb3:Below w1.heap.size w1 w2:=hb2.trans (hR.mem.low.mono hb2.size);have hCr:w1.heap.size<=C.rb:=by
   rcases Nat.lt_or_ge C.rb w0.heap.size with h | h
   ·have h1:=hR.mem.above _ h;rw [hR.mem.roles.rb] at h1
    cases h1
   ·exact Nat.le_trans hb2.size h
  have HCR:=Hd hCr;clear hCr;have hlaw:=goneF_law (tabF g l) p.txt bud.toNat;rw [hgo] at hlaw;obtain ⟨_,_,hnda,_,_,_,_,hpl,_⟩:=hlaw;rw [HH.o3 l] at hR;have b11:w2.cell? ⟨C.rb,11,none⟩=some (.map (some C.br)):=hR.mem.box.cell 11;obtain ⟨rb,hrb⟩:=eX C.rb;have h0n:((0,0):Nd)∈r.nodes:=by
   have hlaw:=goneF_law (tabF g l) p.txt bud.toNat;rw [hgo] at hlaw;exact (hlaw.2.2.2.2.1 (0,0)).2 (least_closed _ _).start
  have H2:=Z11.mk hb3 hqa hR hnda hpl h0n hlen hc hnx hl hrb;rw [hrb] at b11 ⊢;clear hb3 hqa hR hnda hpl h0n hlen hc hnx hl hrb hmk hbud hgo hc0 hb2;go_wp2_with fail
  refine (keys_any _ _).mono ?_;rintro e w3 ⟨rfl,hw3⟩;have hR2:=H2.o3;have hcol:=collect_any hR2.mem.rows hR2.mem.nok hR2.mem.mn;rw [<- hw3] at hcol;have hbw3:Below w2.heap.size w2 w3:=by rw [hw3];exact (bR _ _).alloc (nR _) _
  have H3:=Z2.mk hcol hbw3;clear hcol hbw3 hw3 hR2;go_wp2_with fail
  refine H3.o1.mono ?_;rintro e w4 ⟨vk,L,rfl,hLl,hLm,hLr,hb4⟩;have hLne:L≠[]:=fun e0=>by
   have h1:=(hLm 0).2 (List.mem_map.2 ⟨(0,0),H2.o6,rfl⟩);rw [e0] at h1
   cases h1
  have hfar:maxN L=farF r:=maxN_ext hLm;have hmx:=max_any L hLne hLl w2.heap.size vk w4 hLr;rw [hfar] at hmx;have H4:=Z2.mk hmx hb4;clear hmx hb4 hLl hLm hLr hLne hfar;go_wp2_with fail
  refine H4.o1.mono ?_;rintro e w5 ⟨rfl,hb5⟩;have hbA:Below w2.heap.size w2 w5:=H4.o2.trans (hb5.mono H4.o2.size);have hR5:=H2.o3.below hbA;have hnn:r.nodes.map (·.2)≠[]:=by
   intro e0;have h1:=List.map_eq_nil_iff.1 e0;have h2:=H2.o6;rw [h1] at h2
   cases h2
  have hfp:farF r<=p.txt.length:=by
   obtain ⟨x,hx,hxe⟩:=List.mem_map.1 (maxN_mem (L:=r.nodes.map (·.2)) hnn);have h1:=H2.o5 x hx;unfold farF;rw [<- hxe];exact h1
  have hnx5:=fun W (hG:Below w5.drew.heap.size w5.drew W)=>gnext_any g B sm C (p.withT tv) left w0 H2.o8 ρ (rmOf r) W (hR5.mem.below (((bR _ _).drew).trans hG)) (farF r) (by have h1:=H2.o7;omega);have hM:nextAt sm (rowN (rmOf r).nodes (farF r))=nextL l (rowF r (farF r)):=by rw [H2.o10];exact nextAt_same H2.o9 _
  rw [hM,H2.o11] at hnx5;obtain ⟨M,hMd⟩:=eX (nextL l (rowF r (farF r)));rw [hMd] at hnx5;obtain ⟨far,hfd⟩:=eX (farF r);rw [hfd] at hnx5 ⊢;obtain ⟨E,hE⟩:=eX r.edges.length;obtain ⟨A,hA⟩:=eX r.alts.length;obtain ⟨be,hbe⟩:=eX C.be;obtain ⟨ba,hba⟩:=eX C.ba;have hrbe:=H2.o11;have HNX:=Hd hnx5;have hcel:Blk w5 rb 81 (boxC C (p.withT tv) r.left):=by rw [<- hrbe];exact hR5.mem.box
  have HC:=Hd (show ∀ W,Below w5.drew.heap.size w5.drew W->W.cell? ⟨rb,9,none⟩=some (.map (some be)) /\ W.cell? ⟨rb,10,none⟩=some (.map (some ba)) from fun W hG=>by
   have h1:=hcel.drew.below hG hcel.lt;refine ⟨?_,?_⟩
   ·rw [<- hbe];exact h1.cell 9
   ·rw [<- hba];exact h1.cell 10)
  have HLE:=Hd (show ∀ W,Below w5.drew.heap.size w5.drew W->∀ ty,(Builtin.len_ #[77] ty #[.map (some be)]).run Tryz.prog W=.ok (.int .i64 E) W from fun W hG ty=>by
   obtain ⟨f,h1,_⟩:=(hR5.mem.below (((bR _ _).drew).trans hG)).edges;rw [<- hbe,<- hE];exact h1.len Tryz.underlying77 ty)
  have HLA:=Hd (show ∀ W,Below w5.drew.heap.size w5.drew W->∀ ty,(Builtin.len_ #[78] ty #[.map (some ba)]).run Tryz.prog W=.ok (.int .i64 A) W from fun W hG ty=>by
   obtain ⟨f,va,h1,_⟩:=(hR5.mem.below (((bR _ _).drew).trans hG)).alts;rw [<- hba,<- hA];exact h1.len Tryz.underlying78 ty)
  have HB1:=Hd (show E+A<=2199023255552 by have h1:=H2.o3.tot;unfold sumF at h1;omega);have HZ:=Hd (show ∀ W,Below w5.drew.heap.size w5.drew W->w5.heap.size<=W.heap.size from fun W hG=>hG.size);have H5:=Z8.mk hR5 hbA hMd hfd hE hA hbe hba;clear hnn hR5 hbA hMd hfd hE hA hbe hba hnx5 hcel hfp hM hb5 b11 hrbe;go_upto_region 5 with fail
  refine wp_region_concT 17 (ruR rb be ba E A far M w5.heap.size) (fun A W=>Below A.heap.size A W) (fun _ _=>True) (by kernel_rfl) (by kernel_rfl) (by kernel_rfl) (by kernel_rfl) (bR _ _) trivial (fun h k=>h.trans (k.mono h.size)) ?_ ?_
  ·simp only [List.take_succ_cons,List.take_zero];refine ⟨?_,?_,?_,?_,?_,?_,?_,?_,?_,?_,?_,?_,?_,?_,?_,?_,?_,trivial⟩
   all_goals intro L T W hG hJ hLs hLi dq fq vq K hK
   all_goals try have zk:=fun v=>hK v W (bR _ W) (fun j u _ _ _ h=>h) trivial
   all_goals try have zv:=fun i h=>vq ⟨i,.data⟩ h rfl
   ·have h1:=fq 8 (by decide);simp at h1;go_simp;exact zk _ rfl
   ·have h1:=zv 0 (by simp) 30 rfl;simp [ruR] at h1;go_simp;exact zk _ rfl
   ·have h1:=zv 1 (by simp) 31 rfl;simp [ruR] at h1;go_simp;exact zk _ rfl
   ·have h1:=zv 2 (by simp) 32 rfl;simp [ruR] at h1;obtain ⟨c9,c10⟩:=HC.out W hG;go_simp;exact zk _ rfl
   ·have h1:=zv 3 (by simp) 33 rfl;simp [ruR] at h1;have hcl:=HLE.out W hG;go_simp;exact zk _ rfl
   ·have h1:=fq 8 (by decide);simp at h1;go_simp;exact zk _ rfl
   ·have h1:=zv 5 (by simp) 35 rfl;simp [ruR] at h1;go_simp;exact zk _ rfl
   ·have h1:=zv 6 (by simp) 36 rfl;simp [ruR] at h1;go_simp;exact zk _ rfl
   ·have h1:=zv 7 (by simp) 37 rfl;simp [ruR] at h1;obtain ⟨c9,c10⟩:=HC.out W hG;go_simp;exact zk _ rfl
   ·have h1:=zv 8 (by simp) 38 rfl;simp [ruR] at h1;have hcl:=HLA.out W hG;go_simp;exact zk _ rfl
   ·have h1:=zv 4 (by simp) 34 rfl;have h2:=zv 9 (by simp) 39 rfl;simp [ruR] at h1 h2;have hb1:=HB1.out;go_simp
    try go_bits
    exact zk _ rfl
   ·have h1:=fq 10 (by decide);simp at h1;go_simp;exact zk _ rfl
   ·have h1:=fq 8 (by decide);simp at h1;go_simp;exact zk _ rfl
   ·have h1:=fq 10 (by decide);simp at h1;go_simp;exact zk _ rfl
   ·have h1:=zv 12 (by simp) 42 rfl;have h2:=zv 13 (by simp) 43 rfl;simp [ruR] at h1 h2;have hcl:=HNX.out W hG;go_simp;refine hcl.mono ?_;rintro e W2 ⟨rfl,hb2⟩;exact hK _ _ hb2 (fun j u _ _ _ h=>ruR_low j u h hb2) trivial rfl
   ·have h1:=zv 10 (by simp) 40 rfl;have h2:=zv 11 (by simp) 41 rfl;have h3:=zv 14 (by simp) 44 rfl;simp [ruR] at h1 h2 h3;go_simp;exact zk _ rfl
   ·go_simp;have hbn:=(bR W.heap.size W).alloc (nR _) (.cells #[.slice none 0 0,.int .i64 0,.int .i64 0,.int .u64 0,.int .u64 0,.int .u64 0,.int .u64 0] 35);exact hK _ _ hbn (fun j u _ _ _ h=>ruR_low j u h hbn) trivial ⟨_,rfl,Blk.new W _ _,HZ.out W hG⟩
  ·intro f9 w6 hG hJe hR;have e15:=hR 15 45 (by decide) rfl;obtain ⟨q,e16,k1,k2⟩:=hR 16 11 (by decide) rfl;simp only [concDsts,qZ];simp only [ruR] at e15;rw [e15,e16];clear e15 e16 hR;generalize f9 30=v30;generalize f9 31=v31;generalize f9 32=v32;generalize f9 33=v33;generalize f9 34=v34;generalize f9 35=v35;generalize f9 36=v36;generalize f9 37=v37;generalize f9 38=v38;generalize f9 39=v39;generalize f9 40=v40;generalize f9 41=v41;generalize f9 42=v42;generalize f9 43=v43;generalize f9 44=v44;clear f9;have hG6:Below w5.heap.size w5 w6:=((bR _ _).drew).trans hG;have hQ:=gset7 k1 (.slice none 0 0) (.int .i64 ((E:Int)+(A:Int))) (.int .i64 far) (.int .u64 (wd M 0)) (.int .u64 (wd M 1)) (.int .u64 (wd M 2)) (.int .u64 (wd M 3));have hb7:=below_set7 hG6 k2 (.slice none 0 0) (.int .i64 ((E:Int)+(A:Int))) (.int .i64 far) (.int .u64 (wd M 0)) (.int .u64 (wd M 1)) (.int .u64 (wd M 2)) (.int .u64 (wd M 3));obtain ⟨z0,z1,z2,z3,z4,z5,z6,zf⟩:=gfacts7 k1;have hql:=k1.lt;have H6:=Z3.mk hQ hb7 k2;clear hG6 hQ hb7 hG hJe HC HNX HLE HLA HZ k1 k2;go_upto_region 6 with fail
   have hQ:=H6.o1;have hb7:=H6.o2;generalize (((((((w6.setCell ⟨q,0,none⟩ (.slice none 0 0)).setCell ⟨q,1,none⟩ (.int .i64 ((E:Int)+(A:Int)))).setCell ⟨q,2,none⟩ (.int .i64 far)).setCell ⟨q,3,none⟩ (.int .u64 (wd M 0))).setCell ⟨q,4,none⟩ (.int .u64 (wd M 1))).setCell ⟨q,5,none⟩ (.int .u64 (wd M 2))).setCell ⟨q,6,none⟩ (.int .u64 (wd M 3)))=w7 at hQ hb7 ⊢;clear z0 z1 z2 z3 z4 z5 z6 zf hql;have hR7:=H5.o1.below hb7;have b10:w7.cell? ⟨rb,10,none⟩=some (.map (some ba)):=by rw [<- H2.o11,<- H5.o8];exact hR7.mem.box.cell 10
   have hb27:Below w2.heap.size w2 w7:=H5.o2.trans (hb7.mono H5.o2.size);have hal7:AltsW C left (fun b=>if b<w2.heap.size then ρ b else some .box) (rmOf r).alts w7:=by
    obtain ⟨f,va,m1,m2,m3⟩:=H2.o3.mem.alts;exact ⟨f,va,m1.of_block (hb27.block _ m1.lt),m2,fun a ha=>(m3 a ha).keep fun b hb hl=>⟨hb.keep_ (by simp only [hl,if_true]) (hb27.block b hl),hb27.block b hl⟩⟩
   have hso:=sorted_any hal7 hR7.mem.aok H2.o4 (by have h1:=hR7.tot;unfold sumF at h1;simp only [rmOf];omega);rw [H5.o8] at hso;have H7:=Z4.mk hQ hb7 hR7 hso;clear hQ hb7 hR7 hso hal7 hb27;go_wp2_with fail
   refine (values_any _ _).mono ?_;rintro e w8 ⟨rfl,rfl⟩;go_wp2_with fail
   refine H7.o4.mono ?_;rintro e w9 ⟨vs,va,rfl,hST,hb9⟩;obtain ⟨sa,sc,rfl⟩:=own_shape hST.1;have hQ9:=H7.o1.below hb9 H7.o1.lt;obtain ⟨z0,z1,z2,z3,z4,z5,z6,zf⟩:=gfacts7 hQ9;have hql:=hQ9.lt;have H8:=Z3.mk hST hb9 hQ9;clear hST hb9 hQ9;go_upto_region 7 with fail
   clear z0 z1 z2 z3 z4 z5 z6 zf hql;have hQ10:Blk (w9.setCell ⟨q,0,none⟩ (.slice sa (sortAl left (rmOf r).alts).length sc)) q 35 #[.slice sa (sortAl left (rmOf r).alts).length sc,.int .i64 ((E:Int)+(A:Int)),.int .i64 far,.int .u64 (wd M 0),.int .u64 (wd M 1),.int .u64 (wd M 2),.int .u64 (wd M 3)]:=H8.o3.set_ 0 _;have s1:=H1.o1.lt;have s2:=H2.o1.size;have s5:=H5.o2.size;have s7:=H7.o2.size;have s9:=H8.o2.size;have sq:=H6.o3;have sq7:=H7.o1.lt;have scr:=HCR.out;have hbw:Below w1.heap.size w1 w9:=((H2.o1.trans (H5.o2.mono s2)).trans (H7.o2.mono (by omega))).trans (H8.o2.mono (by omega));have hR10:Blk (w9.setCell ⟨q,0,none⟩ (.slice sa (sortAl left (rmOf r).alts).length sc)) (nb+1) 35 #[.slice none 0 0,.int .i64 0,.int .i64 0,.int .u64 0,.int .u64 0,.int .u64 0,.int .u64 0]:=(H1.o1.below hbw s1).far (p:=⟨q,0,none⟩) (by simp only;omega) _;have hrow10:(w9.setCell ⟨q,0,none⟩ (.slice sa (sortAl left (rmOf r).alts).length sc)).ownsRow (w7.heap.size+1) 59 5 (.slice sa (sortAl left (rmOf r).alts).length sc) (sortAl left (rmOf r).alts).length (flatK (encAl left va) (sortAl left (rmOf r).alts)):=own_of_block H8.o1.1 fun b hb=>Below.heap_setCell w9 ⟨q,0,none⟩ _ b (by have h1:=(H8.o1.1.lt b hb).1;simp only;omega)
   have hcut10:∀ a∈(rmOf r).alts,SliceK (fun b=>(b<w2.heap.size /\ C.rb<=b) /\ IntB (w9.setCell ⟨q,0,none⟩ (.slice sa (sortAl left (rmOf r).alts).length sc)) b) encN 1 (w9.setCell ⟨q,0,none⟩ (.slice sa (sortAl left (rmOf r).alts).length sc)) (va a) a.cuts:=fun a ha=>(H8.o1.2 a ha).keep fun b hb hl=>by
    have h1:b<w2.heap.size:=by
     rcases Nat.lt_or_ge b w2.heap.size with h | h
     ·exact h
     ·have h3:=hb.1.1.1;simp only [show ¬ b<w2.heap.size from by omega,if_false] at h3
      cases h3
    have h5:=Below.heap_setCell w9 ⟨q,0,none⟩ (.slice sa (sortAl left (rmOf r).alts).length sc) b (by have:=hb.1.1.2;simp only;omega);exact ⟨⟨⟨h1,hb.1.1.2⟩,by obtain ⟨c,fz,e⟩:=hb.2;exact ⟨c,fz,h5.trans e⟩⟩,h5⟩
   have hb10:Below w.heap.size w (w9.setCell ⟨q,0,none⟩ (.slice sa (sortAl left (rmOf r).alts).length sc)):=(H1.o2.trans (hbw.mono H1.o2.size)).setCell (p:=⟨q,0,none⟩) (by have:=H1.o3;simp only;omega) _;generalize w9.setCell ⟨q,0,none⟩ (.slice sa (sortAl left (rmOf r).alts).length sc)=w10 at hQ10 hR10 hrow10 hcut10 hb10 ⊢;obtain ⟨z0,z1,z2,z3,z4,z5,z6,zf⟩:=gfacts7 hQ10;obtain ⟨y0,y1,y2,y3,y4,y5,y6,yf⟩:=gfacts7 hR10;have hql:=hQ10.lt;have hrl:=hR10.lt;have H9:=Z4.mk hR10 hrow10 hcut10 hb10;clear hQ10 hR10 hrow10 hcut10 hb10 hbw s1 s2 s5 s7 s9 sq sq7 scr;go_wp2_with fail
   refine bodyPost_ret (rres _ _ (nb+1) _ _ _ _ _ _ _ _ (by rfl) (by rfl) (gset7 H9.o1 _ _ _ _ _ _ _)) rfl ?_
   have s1:=H1.o1.lt;have s2:=H2.o1.size;have s5:=H5.o2.size;have s7:=H7.o2.size;have scr:=HCR.out;have hnb:=H1.o3;have hset:∀ (b:Nat) (u0 u1 u2 u3 u4 u5 u6:Value),b≠nb+1->(((((((w10.setCell ⟨nb+1,0,none⟩ u0).setCell ⟨nb+1,1,none⟩ u1).setCell ⟨nb+1,2,none⟩ u2).setCell ⟨nb+1,3,none⟩ u3).setCell ⟨nb+1,4,none⟩ u4).setCell ⟨nb+1,5,none⟩ u5).setCell ⟨nb+1,6,none⟩ u6).heap[b]?=w10.heap[b]?:=fun b u0 u1 u2 u3 u4 u5 u6 hb=>by
    rw [Below.heap_setCell _ _ _ b hb,Below.heap_setCell _ _ _ b hb,Below.heap_setCell _ _ _ b hb,Below.heap_setCell _ _ _ b hb,Below.heap_setCell _ _ _ b hb,Below.heap_setCell _ _ _ b hb,Below.heap_setCell _ _ _ b hb]
   rw [H2.o2];refine ⟨.slice sa (sortAl left r.alts).length sc,va,?_,?_,fun a ha=>?_,below_set7 H9.o4 (by omega) _ _ _ _ _ _ _⟩
   ·rw [H5.o4,H5.o5,H5.o6,<- H5.o3,H5.o4]
    rfl
   ·refine own_low (own_of_block H9.o2 fun b hb=>hset b _ _ _ _ _ _ _ ?_) (by omega);have h1:=(H9.o2.lt b hb).1;omega
   ·exact (H9.o3 a ha).keep fun b hb hl=>by
     have h0:=hb.1;obtain ⟨c,fz,e⟩:=hb.2;exact ⟨⟨c,fz,(hset b _ _ _ _ _ _ _ (show b≠nb+1 by omega)).trans e⟩,hset b _ _ _ _ _ _ _ (show b≠nb+1 by omega)⟩
open Tb (Gr Sy It St MadeLaw makeF Good doneF rightOf)
theorem ways_all {g:Gr} {l:List St} {I:Nat->It->Prop} (hd:Dfa g (tabF g l) I) (hm:MadeLaw g l) {w:List UInt8} {B:Nat} {r:Rn} (hI:Inv (tabF g l) w B r) {x:Nd} (hx:x∈r.nodes) {q:Nat} (hq:q∈(tabF g l).done x.1) (hw:x.2<=w.length) :
  (waysF r.edges ((tabF g l).len q) x).length<=l.length * (w.length+1) * (w.length+1) ^ (tabF g l).len q:=by
 have hE:=fun a b (h:eP r.edges a b)=>(sound hd w).2.1 _ _ (hI.se _ h);have hi:I x.1 (q,(tabF g l).len q):=by rw [hd.len];exact (hd.done x.1 q).1 hq
 have hnd:=waysF_nodup hI.ed hE ((tabF g l).len q) x hi;obtain ⟨n,hn⟩:=eX ((tabF g l).len q);rw [hn] at hnd ⊢;have hall:∀ y∈waysF r.edges n x,y.1.1<l.length /\ y.1.2<w.length+1 /\ y.2.length=n /\ ∀ v∈y.2,v<w.length+1:=fun y hy=>by
  have h3:=waysF_mem.1 hy;obtain ⟨h4,h5⟩:=way_ends hI hx h3;refine ⟨node_below (tab_below hm) w y.1 (hI.sn _ h4),by omega,way_len h3,fun v hv=>?_⟩;have:=way_le (fun a b (k:eP r.edges a b)=>(hI.ends (a,b) k).2.2) h3 v hv;omega
 have h2:=nodup_bound (l.length * (w.length+1) * (w.length+1) ^ n) ((waysF r.edges n x).map fun y=>(y.1.1 * (w.length+1)+y.1.2) * (w.length+1) ^ n+codeF (w.length+1) y.2) (by
  rw [List.nodup_iff_pairwise_ne,List.pairwise_map];refine List.Pairwise.imp_of_mem ?_ (List.nodup_iff_pairwise_ne.1 hnd);intro a b ha hb hne he;obtain ⟨a1,a2,a3,a4⟩:=hall a ha;obtain ⟨b1,b2,b3,b4⟩:=hall b hb;have ca:=code_lt (m:=w.length+1) a.2 a4;have cb:=code_lt (m:=w.length+1) b.2 b4;rw [a3] at ca;rw [b3] at cb;have hpos:0<(w.length+1) ^ n:=Nat.lt_of_le_of_lt (Nat.zero_le _) ca;have e1:codeF (w.length+1) a.2=codeF (w.length+1) b.2:=by
   have:=congrArg (· % (w.length+1) ^ n) he;simp only [Nat.mul_add_mod_self_right] at this
   rwa [Nat.mod_eq_of_lt ca,Nat.mod_eq_of_lt cb] at this
  have e2:a.1.1 * (w.length+1)+a.1.2=b.1.1 * (w.length+1)+b.1.2:=by
   rw [e1] at he;exact Nat.eq_of_mul_eq_mul_right hpos (Nat.add_right_cancel he)
  have e3:a.1.2=b.1.2:=by
   have:=congrArg (· % (w.length+1)) e2;simp only [Nat.mul_add_mod_self_right] at this
   rwa [Nat.mod_eq_of_lt a2,Nat.mod_eq_of_lt b2] at this
  have e4:a.1.1=b.1.1:=by
   rw [e3] at e2;exact Nat.eq_of_mul_eq_mul_right (by omega) (Nat.add_right_cancel e2)
  exact hne (Prod.ext (Prod.ext e4 e3) (code_inj _ _ (a3.trans b3.symm) a4 b4 e1))) (fun v hv=>by
  obtain ⟨y,hy,rfl⟩:=List.mem_map.1 hv;obtain ⟨a1,a2,a3,a4⟩:=hall y hy;have ca:=code_lt (m:=w.length+1) y.2 a4;rw [a3] at ca;have h1:y.1.1 * (w.length+1)+y.1.2+1<=l.length * (w.length+1):=by
   have:=Nat.mul_le_mul_right (w.length+1) (show y.1.1+1<=l.length from a1);rw [Nat.add_mul,Nat.one_mul] at this;omega
  have h3:=Nat.mul_le_mul_right ((w.length+1) ^ n) h1;rw [Nat.add_mul,Nat.one_mul] at h3;omega)
 rwa [List.length_map] at h2
theorem statesGo_many (g:Gr):∀ (f n:Nat) (all:List (List It)) (l:List St),Tb.statesGo g f n all=some l->all.Nodup->all.length<=16384->n<=all.length->n+l.length<=16384
 | 0,n,all,l,h,hn,hl,hle=>by
  rw [Tb.statesGo] at h;simp at h;subst h;simp;omega
 | f+1,n,all,l,h,hn,hl,hle=>by
  rw [Tb.statesGo] at h
  cases hx:all[n]? with
  | none =>
   rw [hx] at h;simp at h;subst h;simp;omega
  | some y =>
   rw [hx] at h;dsimp only at h;have hlt:n<all.length:=(gS.1 hx).1
   cases h1:Tb.numbersF all (Tb.leadsF g y) with
   | none=>rw [h1] at h;cases h
   | some r =>
    obtain ⟨e,a1⟩:=r;rw [h1] at h;dsimp only at h;obtain ⟨n1,l1,_,⟨t,ht⟩,_⟩:=Tb.numbersF_some _ _ _ _ h1 hn hl
    cases h2:Tb.statesGo g f (n+1) a1 with
    | none=>rw [h2] at h;cases h
    | some r =>
     rw [h2] at h;simp at h;subst h;have:=statesGo_many g f (n+1) a1 r h2 n1 l1 (by rw [ht];simp;omega);simp;omega
theorem made_many {g:Gr} {l:List St} (h:makeF g=some l):l.length<=16384:=by
 unfold makeF at h;have:=statesGo_many g _ _ _ _ h (by simp) (by simp) (Nat.zero_le _);omega
theorem items_nodup {g:Gr} {l:List St} (hm:MadeLaw g l) {s:St} (hs:s∈l):s.items.Nodup:=by
 have hc:∀ k,(Tb.closedF g k).Nodup:=fun k=>Tb.compactIt_nodup _ (Tb.sortIt_sorted _);obtain ⟨j,hj⟩:=List.getElem?_of_mem hs
 rcases Nat.eq_zero_or_pos j with rfl | hpos
 ·obtain ⟨s0,h0,h1⟩:=hm.start;rw [hj] at h0
  cases h0
  rw [h1];exact hc _
 ·obtain ⟨i,si,hij,hi,e,he,hej⟩:=hm.led j hpos (gS.1 hj).1;obtain ⟨K,hK,h6⟩:=(hm.state si (gM hi)).edges he;rw [hej,List.getElem?_map,hj] at h6;simp only [Option.map_some,Option.some.injEq] at h6;rw [h6];unfold Tb.leadsF at hK
  rcases List.mem_append.1 hK with h | h
  ·obtain ⟨c,_,hc2⟩:=List.mem_map.1 h;injection hc2 with _ h2;rw [<- h2];exact hc _
  ·obtain ⟨c,_,hc2⟩:=List.mem_filterMap.1 h
   split at hc2
   ·cases hc2
   ·injection hc2 with hc2
    injection hc2 with _ h2;rw [<- h2];exact hc _
theorem done_few {g:Gr} {l:List St} (hs:Tb.SetsOk g) (hm:MadeLaw g l) (s:Nat):((tabF g l).done s).length<=g.prods.length:=by
 unfold tabF;dsimp only
 cases hl:l[s]? with
 | none=>simp
 | some st =>
  have hmem:=gM hl;simp only [Option.map_some,Option.getD_some];rw [(hm.state st hmem).done];have hnd:=items_nodup hm hmem;have h2:=nodup_bound g.prods.length (doneF g st.items) (by
   unfold doneF;rw [List.nodup_iff_pairwise_ne,List.pairwise_map];refine List.Pairwise.imp_of_mem ?_ (List.nodup_iff_pairwise_ne.1 (hnd.filter _));intro a b ha hb hne he;have h3:=(List.mem_filter.1 ha).2;have h4:=(List.mem_filter.1 hb).2;simp only [beq_iff_eq] at h3 h4;exact hne (Prod.ext he (by rw [h3,h4,he]))) (fun v hv=>by
   unfold doneF at hv;obtain ⟨x,hx,rfl⟩:=List.mem_map.1 hv;have hx2:=(List.mem_filter.1 hx).1;have h5:=(tab_dfa hs hm).ok s x (by unfold itemsAt;rw [hl];exact hx2);unfold Tb.itemOk at h5;simp at h5;exact h5.1)
  exact h2
theorem lim_of {g:Gr} {txt:List UInt8} {bud:Int} (P L K:Nat) (hP:g.prods.length<=P) (hL:∀ q∈g.prods,q.right.length<=L) (hK:∀ l,makeF g=some l->l.length<=K) (hb:bud<=2199023255552)
  (h1:K * (txt.length+1) * (txt.length+1) ^ L<2199023255552) (h2:(bud.toNat+(txt.length+1)) * (K * (txt.length+1) * (P * (txt.length+1) ^ L))+(txt.length+1) * (K * (txt.length+1))<4611686018427387904):Lim g txt bud:=by
 have hsm:∀ l,makeF g=some l->Tb.Good g->Small (tabF g l) txt P L (K * (txt.length+1)):=fun l hl hg=>by
  have hm:=Tb.makeF_law hl;refine ⟨fun s=>?_,fun s p hp=>?_,fun n hn hx=>Nat.le_trans (nodes_few (tab_below hm) txt n hn hx) (Nat.mul_le_mul_right _ (hK l hl))⟩
  ·exact Nat.le_trans (done_few (gsets hg).1 hm s) hP
  ·rw [(tab_dfa (gsets hg).1 hm).len];unfold rightOf
   cases hq:g.prods[p]? with
   | none=>simp
   | some q=>exact hL q (gM hq)
 refine ⟨hb,fun l hl hg h0 r hI x hx q hq=>?_,fun l hl hg h0 e=>?_⟩
 ·have hm:=Tb.makeF_law hl;have hd:=tab_dfa (gsets hg).1 hm;have hs:=hsm l hl hg;have hxw:x.2<=txt.length:=(least_place _ txt).1 x (hI.sn x hx);refine Nat.lt_of_le_of_lt (ways_all hd hm hI hx hq hxw) (Nat.lt_of_le_of_lt ?_ h1);exact Nat.mul_le_mul (Nat.mul_le_mul_right _ (hK l hl)) (Nat.pow_le_pow_right (by omega) (hs.syms _ _ hq))
 ·have hm:=Tb.makeF_law hl;have hd:=tab_dfa (gsets hg).1 hm;refine Nat.lt_of_le_of_lt (goneF_tried hd bud.toNat (hsm l hl hg) e) (Nat.lt_of_le_of_lt ?_ h2);refine Nat.add_le_add_right (Nat.mul_le_mul_right _ (Nat.add_le_add_right (Nat.sub_le _ _) _)) _
theorem lim_few {g:Gr} {txt:List UInt8} {bud:Int} (hP:g.prods.length<=25) (hL:∀ q∈g.prods,q.right.length<=5) (ht:txt.length<=20) (hb:bud<=20000):Lim g txt bud:=by
 have hm:txt.length+1<=21:=by omega
 have hp:(txt.length+1) ^ 5<=4084101:=Nat.le_trans (Nat.pow_le_pow_left hm 5) (by decide);have hB:bud.toNat<=20000:=by omega
 refine lim_of 25 5 16384 hP hL (fun l h=>made_many h) (by omega) ?_ ?_
 ·refine Nat.lt_of_le_of_lt (Nat.mul_le_mul (Nat.mul_le_mul_left 16384 hm) hp) (by decide)
 ·refine Nat.lt_of_le_of_lt (Nat.add_le_add (Nat.mul_le_mul (Nat.add_le_add hB hm) (Nat.mul_le_mul (Nat.mul_le_mul_left 16384 hm) (Nat.mul_le_mul_left 25 hp))) (Nat.mul_le_mul hm (Nat.mul_le_mul_left 16384 hm))) (by decide)
end Go.Proofs.YthiochcpmfkgcaaGreatDoor.Gl
namespace Go.Proofs.YthiochcpmfkgcaaGreatDoor.Gl
open Go Go.RowKit Go.Proofs Go.Maps Go.WideMaps Mx Tb
theorem letter_any (w:World):Calls Tryz.prog 18 #[.int .u8 97] w fun e w'=>e=.returned (setV (2 ^ 97)) /\ Below w.heap.size w w':=by
 go_enter Tryz.func18,Tryz.ntmps18
 go_wp2_with fail
 have hbk:Blk ((w.alloc (.cells #[.int .u64 0,.int .u64 8589934592,.int .u64 0,.int .u64 0] 33)).alloc (.cells #[.int .u64 0,.int .u64 8589934592,.int .u64 0,.int .u64 0] 33)) w.heap.size 33 #[.int .u64 0,.int .u64 8589934592,.int .u64 0,.int .u64 0]:=(Blk.new_ rfl _ _).alloc _;refine bodyPost_ret (results_cell_row (by rfl) _ _ w.heap.size 33 _ (0,0) _ (by rfl) hbk Tryz.underlying33 (by rfl) (by kernel_rfl)) rfl ?_;refine ⟨?_,((bR _ _).alloc (nR _) _).alloc (by simp) _⟩;rw [show setV (2 ^ 97)=.agg #[.int .u64 0,.int .u64 8589934592,.int .u64 0,.int .u64 0] from by kernel_rfl]
def knG:Gr:=⟨[[83]],[⟨0,[⟨1,0,0⟩,⟨1,0,0⟩],[],0,false,false,-1⟩,⟨0,[⟨0,2 ^ 97,0⟩],[],0,false,false,-1⟩],0,[],[]⟩
def runS (g:Gr) (txt:List UInt8) (bud:Int):Int × Nat × Nat × Nat :=
 match wholeF g txt bud with
 | (n,none)=>(n,0,0,0)
 | (n,some (l,r))=>(n,r.alts.length,farF r,nextL l (rowF r (farF r)))
theorem kn_aa:runS knG [97,97] 100=(0,3,2,2 ^ 97):=by kernel_rfl
theorem kn_ab:(runS knG [97,98] 100).1=0 /\ (runS knG [97,98] 100).2.2.1=1:=by
 refine ⟨by kernel_rfl,by kernel_rfl⟩
theorem kn_1:(runS knG [97,97] 1).1=200:=by kernel_rfl
theorem kn_a:preF knG [97] 100=(2 ^ 97,true,0):=by kernel_rfl
theorem kn_b:preF knG [98] 100=(0,false,0):=by kernel_rfl
theorem runS_some {g:Gr} {txt:List UInt8} {bud:Int} {a f M:Nat} (h:runS g txt bud=(0,a,f,M)) (h0:f≠0):∃ l r,wholeF g txt bud=(0,some (l,r)) /\ r.alts.length=a /\ farF r=f /\ nextL l (rowF r (farF r))=M:=by
 unfold runS at h
 split at h
 ·simp only [Prod.mk.injEq] at h;exact absurd h.2.2.1.symm h0
 ·next n l r hw =>
  simp only [Prod.mk.injEq] at h;exact ⟨l,r,by rw [hw,h.1],h.2.1,h.2.2.1,h.2.2.2⟩
theorem runS_none {g:Gr} {txt:List UInt8} {bud n:Int} (h:(runS g txt bud).1=n) (hn:n≠0):wholeF g txt bud=(n,none):=by
 unfold runS at h
 split at h
 ·next m hw=>rw [hw];exact congrArg (·,none) h
 ·next m l r hw=>exact absurd (h.symm.trans (whole_ok hw).1) hn
theorem kn_good:Tb.Good knG:=by
 refine ⟨by decide,by decide,by decide,?_,?_,?_⟩
 ·intro p hp;simp only [knG,List.mem_cons,List.not_mem_nil,or_false] at hp
  rcases hp with rfl | rfl <;> exact ⟨by decide,by decide⟩
 ·intro p hp;simp only [knG,List.mem_cons,List.not_mem_nil,or_false] at hp
  rcases hp with rfl | rfl <;> decide
 ·intro p hp s hs;simp only [knG,List.mem_cons,List.not_mem_nil,or_false] at hp
  rcases hp with rfl | rfl
  ·simp only [List.mem_cons,List.not_mem_nil,or_false,or_self] at hs;subst hs;exact .inr ⟨rfl,rfl,by decide,by decide⟩
  ·simp only [List.mem_cons,List.not_mem_nil,or_false] at hs;subst hs;exact .inl ⟨rfl,rfl,by decide +kernel,by decide +kernel⟩
instance (s:Int):Decidable (I64 s):=by unfold I64;infer_instance
theorem kn_gram {w:World} {sv pv:Value} (hs:SliceK (fun _=>True) Tb.encS 1 w sv knG.sorts) (hp:ProdsAt (fun _=>True) w pv knG.prods):GramAt w 1000 knG sv pv (.slice none 0 0) (.slice none 0 0):=by
 obtain ⟨l,hl,e⟩:=hp;refine ⟨hs,⟨l,hl.row,fun x hx=>?_,e⟩,SliceK.nil,SliceK.nil,by decide,by decide,by decide,by decide,by decide,fun f h=>(by cases h),fun f h=>(by cases h),by decide⟩;have hm:x.2∈knG.prods:=by rw [<- e];exact List.mem_map.2 ⟨x,hx,rfl⟩
 have hr:=hl.right x hx;simp only [knG,List.mem_cons,List.not_mem_nil,or_false] at hm;refine ⟨hr,?_,?_,fun s hs=>?_,?_,?_,?_⟩
 ·rcases hm with h | h <;> (rw [h];decide)
 ·rcases hm with h | h <;> (rw [h];decide)
 ·rcases hm with h | h
  ·rw [h] at hs;simp only [List.mem_cons,List.not_mem_nil,or_false,or_self] at hs;subst hs;exact ⟨by decide +kernel,by decide,by decide⟩
  ·rw [h] at hs;simp only [List.mem_cons,List.not_mem_nil,or_false] at hs;subst hs;exact ⟨by decide +kernel,by decide,by decide⟩
 ·rcases hm with h | h <;> (rw [h];decide)
 ·rcases hm with h | h <;> (rw [h];decide)
 ·rcases hm with h | h <;> (rw [h];decide)
theorem kn_grw {D:Nat->Prop} {w:World} {sv pv:Value} {txt:List UInt8} (hs:SliceK D Tb.encS 1 w sv knG.sorts) (hp:ProdsAt D w pv knG.prods) (he:EnvG w) (ht:txt.length<=100000) :
  GrW knG ⟨sv,pv,0,.slice none 0 0,.slice none 0 0,.pointer none,txt⟩ w:=by
 have hs2:SliceK (fun _=>True) Tb.encS 1 w sv knG.sorts:=hs.imp fun _ _ _=>trivial;have hp2:ProdsAt (fun _=>True) w pv knG.prods:=hp.keep fun _ _ _=>⟨trivial,rfl⟩;refine ⟨rfl,hs2,hp2,⟨_,_,_,rfl⟩,⟨_,_,_,rfl⟩,fun _=>kn_good,he,fun W hW=>?_,ht⟩;exact check_any knG 1000 (by decide) W _ _ _ _ (kn_gram (hs2.all hW) (hp2.keep fun b _ hl=>⟨trivial,hW.block b hl⟩))
theorem kn_lim {txt:List UInt8} {bud:Int} (ht:txt.length<=20) (hb:bud<=20000):Lim knG txt bud :=
 lim_few (by decide) (fun q hq=>by
  simp only [knG,List.mem_cons,List.not_mem_nil,or_false] at hq
  rcases hq with rfl | rfl <;> decide) ht hb
theorem kn_left (l:List St):(tabF knG l).left=(tabF knG []).left:=rfl
end Go.Proofs.YthiochcpmfkgcaaGreatDoor.Gl

