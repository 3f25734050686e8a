/- Walks and plain laws that the last text stands on: TbClosed. -/
import Derived.Test.YthiochcpmfkgcaaGreatDoorSo8
set_option linter.unusedVariables false
set_option linter.unusedSimpArgs false
set_option maxRecDepth 100000
set_option maxHeartbeats 16000000
namespace Go.Proofs.YthiochcpmfkgcaaGreatDoor.Tb
open Go Go.RowKit Go.Proofs Go.Maps Mx
structure SeenV (f:Lit->Option Value) (seen:List Int) (i:Nat):Prop where
 yes:∀ s,s∈seen->∃ c:Int,1<=c /\ c<=i /\ f (.int .i64 s)=some (.int .i64 c)
 no:∀ s,s ∉ seen->f (.int .i64 s)=none
theorem SeenV.mono {f:Lit->Option Value} {seen:List Int} {i j:Nat} (h:SeenV f seen i) (hij:i<=j):SeenV f seen j :=
 ⟨fun s hs=>by obtain ⟨c,h1,h2,h3⟩:=h.yes s hs;exact ⟨c,h1,by omega,h3⟩,h.no⟩
theorem SeenV.again {f:Lit->Option Value} {seen:List Int} {i:Nat} (h:SeenV f seen i) {s c:Int} (hs:s∈seen) (hc:f (.int .i64 s)=some (.int .i64 c)) (h1:1<=c) (h2:c<=i) :
    SeenV (putV f (.int .i64 s) (.int .i64 (c+1))) seen (i+1) :=
  ⟨fun t ht=>by
    rw [putV_int]
    by_cases e:t=s
    · rw [if_pos e];exact ⟨c+1,by omega,by omega,rfl⟩
    · rw [if_neg e];obtain ⟨d,k1,k2,k3⟩:=h.yes t ht;exact ⟨d,k1,by omega,k3⟩,
   fun t ht=>by
    rw [putV_int,if_neg (by rintro rfl;exact ht hs)];exact h.no t ht⟩
theorem SeenV.new {f:Lit->Option Value} {seen:List Int} {i:Nat} (h:SeenV f seen i) {s:Int} (hs:s ∉ seen):SeenV (putV f (.int .i64 s) (.int .i64 1)) (s::seen) (i+1) :=
  ⟨fun t ht=>by
    rw [putV_int]
    by_cases e:t=s
    · rw [if_pos e];exact ⟨1,by omega,by omega,rfl⟩
    · rw [if_neg e]
      rcases List.mem_cons.1 ht with h1 | h1
      · exact absurd h1 e
      · obtain ⟨d,k1,k2,k3⟩:=h.yes t h1;exact ⟨d,k1,by omega,k3⟩,
   fun t ht=>by
    rw [putV_int,if_neg (fun e=>ht (by rw [e];simp))];exact h.no t (fun h1=>ht (List.mem_cons_of_mem _ h1))⟩
structure CloseW (g:Gr) (l:List It) (w:World) (i:Nat) (seen:List Int) (out:List It) (v6:Value) (nm:Nat) (f:Lit->Option Value) (wr:World):Prop where
 at_:CloseAt g l i seen out
 own:wr.ownsRow (w.heap.size+1) 134 2 v6 out.length (flatK encIt out)
 map:MapV Tryz.prog 3 wr w.heap.size nm f
 le:nm<=i
 seen:SeenV f seen i
 below:Below w.heap.size w wr
 size:w.heap.size+1<=wr.heap.size
theorem CloseW.next {g:Gr} {l:List It} {w:World} {i:Nat} {seen:List Int} {out:List It} {v6:Value} {nm:Nat} {f:Lit->Option Value} {wr w3:World} (h:CloseW g l w i seen out v6 nm f wr) {x:It} (hx:out[i]?=some x)
  (h1:closeSeen g seen x=seen) (h2:closeOut g seen out x=out) (hb:Below wr.heap.size wr w3):CloseW g l w (i+1) seen out v6 nm f w3:=by
 have:=h.at_.step hx;rw [h1,h2] at this;exact ⟨this,row_below h.own hb,h.map.below hb h.map.lt,by have:=h.le;omega,h.seen.mono (Nat.le_succ _),h.below.trans (hb.mono h.below.size),Nat.le_trans h.size hb.size⟩
theorem CloseW.again {g:Gr} {l:List It} {w:World} {i:Nat} {seen:List Int} {out:List It} {v6:Value} {nm:Nat} {f:Lit->Option Value} {wr w3 w4:World} (h:CloseW g l w i seen out v6 nm f wr) {x:It} (hx:out[i]?=some x)
  (h1:closeSeen g seen x=seen) (h2:closeOut g seen out x=out) (hb:Below wr.heap.size wr w3) {f':Lit->Option Value} (hg:w3.grownBy w4 (some w.heap.size)) (hm:MapV Tryz.prog 3 w4 w.heap.size (nm+1) f') (hs:SeenV f' seen (i+1)):CloseW g l w (i+1) seen out v6 (nm+1) f' w4:=by
 have h3:=h.next hx h1 h2 hb;refine ⟨h3.at_,h3.own.kept hg ?_,hm,by have:=h.le;omega,hs,h3.below.trans (below_of_grown hg h3.below.size (nR _)),Nat.le_trans h3.size hg.size⟩
 cases e:v6.ownBlock with
 | none=>exact .inl rfl
 | some b=>exact .inr (by have:=(h.own.lt b e).1;intro e2;injection e2 with e2;omega)
theorem CloseW.mid {g:Gr} {l:List It} {w:World} {i:Nat} {seen:List Int} {out:List It} {v6:Value} {nm:Nat} {f:Lit->Option Value} {wr w3 w4:World} (h:CloseW g l w i seen out v6 nm f wr)
  (hb:Below wr.heap.size wr w3) (hg:w3.grownBy w4 (some w.heap.size)):w4.ownsRow (w.heap.size+1) 134 2 v6 out.length (flatK encIt out) /\ Below w.heap.size w w4 /\ w.heap.size+1<=w4.heap.size:=by
 refine ⟨(row_below h.own hb).kept hg ?_,(h.below.trans (hb.mono h.below.size)).trans (below_of_grown hg (Nat.le_trans h.below.size hb.size) (nR _)),Nat.le_trans (Nat.le_trans h.size hb.size) hg.size⟩
 cases e:v6.ownBlock with
 | none=>exact .inl rfl
 | some b=>exact .inr (by have:=(h.own.lt b e).1;intro e2;injection e2 with e2;omega)
theorem it_pair (w:World) (n:Nat) (t:TypeId):∀ j u,(encIt (n,0))[j]?=some u->(w.alloc (.cells #[.int .i64 n,.int .i64 0] t)).cell? ((⟨w.heap.size,0,none⟩:Addr).add j)=some u:=by
 intro j u hj;have hb:Blk (w.alloc (.cells #[.int .i64 n,.int .i64 0] t)) w.heap.size t #[.int .i64 n,.int .i64 0]:=Blk.new w _ _;rw [addr_add,Nat.zero_add,hb.cell j]
 match j,hj with
 | 0,hj=>exact hj
 | 1,hj=>exact hj
theorem closed_any (D D2:Nat->Prop) (g:Gr) (hg:Good g) (mb:Nat) (l:List It) (hl:∀ x∈l,itemOk g x=true) (hln:l.length<=1000000) (v:Value) (w:World) (hm:MkR D w mb g) (hv:SliceK D2 encIt 2 w v l) :
  Calls Tryz.prog 81 #[.pointer (some ⟨mb,0,none⟩),v] w fun e w'=>∃ v',e=.returned v' /\ SliceK (TyD w.heap.size 134 w') encIt 2 w' v' (closedF g l) /\ Below w.heap.size w w':=by
 have hclone:=fun W hV=>clone_any D2 l v W hV (by omega);have hM0:=MapV.made w Tryz.prog 3;have hmw:MkR D (w.alloc (.map #[] 0)) mb g:=hm.below ((bR _ w).alloc (nR _) _);have hvw:SliceK D2 encIt 2 (w.alloc (.map #[] 0)) v l:=hv.all ((bR _ w).alloc (nR _) _);have H0:=Z3.mk hM0 hmw hvw;have HG:=Hd hg;have HL:=Hd hl;have HM:=Hd hm;clear hM0 hmw hvw hg hl hm hv;have hmm:=@run_makeMap Tryz.prog;go_enter Tryz.func81,Tryz.ntmps81;go_wp2_with fail
 go_step3
 go_wp2_with fail
 refine (hclone _ H0.o3).mono ?_;rintro e w1 ⟨vo,rfl,hown,hb⟩;have hown0:w1.ownsRow (w.heap.size+1) 134 2 vo l.length (flatK encIt l):=by simpa using hown
 have H1:=Z4.mk (H0.o1.below hb (by simp)) (H0.o2.below hb) hown0 (((bR w.heap.size w).alloc (nR _) (.map #[] 0)).trans (hb.mono (by simp)));have hs1:w.heap.size+1<=w1.heap.size:=by have:=hb.size;simpa using this
 clear hown hown0 hb hclone H0;go_wp2_with fail
 go_step3
 go_wp2_with fail
 go_loopg [6,7] (l.length+g.prods.length) (fun m v6 v7 wr=>∃ (i:Nat) (seen:List Int) (out:List It) (nm:Nat) (f:Lit->Option Value),v7=.int .i64 i /\ m=l.length+g.prods.length - i /\ CloseW g l w i seen out v6 nm f wr)
 case atStart =>
  exact ⟨0,[],l,0,_,rfl,by omega,CloseAt.start HL.out,H1.o3,H1.o1,nR _,⟨fun s hs=>by simp at hs,fun _ _=>rfl⟩,H1.o4,hs1⟩
 case round =>
  obtain ⟨i,seen,out,nm,f,rfl,hm,hC⟩:=hrel;obtain ⟨sa,sc,rfl⟩:=own_shape hC.own;have hfit:=hC.at_.fits;have hile:=hC.at_.le;have hPn:=HG.out.prods;have A:=Z2.mk hm hC;clear hm hC
  by_cases hlt:i<out.length
  ·obtain ⟨⟨n,d⟩,hx⟩:∃ x,out[i]?=some x:=⟨_,gE hlt⟩
   obtain ⟨go,rfl,hgo⟩:∃ go,sa=some ⟨go,0,none⟩ /\ w.heap.size+1<=go:=by
    obtain ⟨go,cap,e,h1,_⟩:=own_some A.o2.own (by omega);injection e with e1 e2 e3;exact ⟨go,e1,h1⟩
   obtain ⟨cx1,cx2⟩:=it_cells A.o2.own rfl i _ hx;have hok:=(itemOk_iff g (n,d)).1 (A.o2.at_.ok _ (gM hx));obtain ⟨p,hp⟩:∃ p,g.prods[n]?=some p:=⟨_,gE hok.1⟩;have hrt:rightOf g n=p.right:=by unfold rightOf;rw [hp];rfl
   obtain ⟨hnP,hdl⟩:=hok;have hpm:=gM hp;simp only [hrt] at hdl;have hMr:MkR D wr mb g:=HM.out.below A.o2.below;obtain ⟨_,cp,b,o,vr,m1,rfl,hvr,hpc⟩:=hMr.prod hp;obtain ⟨ra,rc,rfl,hrc1,hrc2,hrk⟩:=hvr;have f0:=hpc 0 _ rfl;have f1:=hpc 1 _ rfl;have f2:=hpc 2 _ rfl;have f3:=hpc 3 _ rfl;have f4:=hpc 4 _ rfl;have f5:=hpc 5 _ rfl;have f6:=hpc 6 _ rfl;simp only [Nat.add_zero] at f0;have hrl:=HG.out.right p hpm;have hlt1:(i:Int)<out.length:=by omega
   have hie:((i:Int)==(out.length:Int))=false:=by simp;omega
   have hi0:(0:Int)<=i:=by omega
   have hn0:(0:Int)<=n:=by omega
   have hnP1:(n:Int)<g.prods.length:=by omega
   have HX:=Z5.mk hx hp hrt hpc hMr;clear hx hp hpm hrt hpc hMr;have m1a:=fun o=>cell_alloc_ m1 o;have cx1a:=fun o=>cell_alloc_ cx1 o;have f0a:=fun o=>cell_alloc_ f0 o;have f1a:=fun o=>cell_alloc_ f1 o;have f2a:=fun o=>cell_alloc_ f2 o;have f3a:=fun o=>cell_alloc_ f3 o;have f4a:=fun o=>cell_alloc_ f4 o;have f5a:=fun o=>cell_alloc_ f5 o;have f6a:=fun o=>cell_alloc_ f6 o;go_wp2_with fail
   go_region
   generalize hw2:(wr.alloc (Obj.cells #[Value.int IntKind.i64 p.left,Value.slice ra p.right.length rc,Value.string { data:=p.cons.toArray },Value.int IntKind.i64 p.role,Value.bool p.prefer,Value.bool p.avoid,Value.int IntKind.i64 p.made] 53)).drew=w2;have hb2:Below wr.heap.size wr w2:=by rw [<- hw2];exact ((bR _ wr).alloc (nR _) _).drew
   have hB2:Blk w2 wr.heap.size 53 #[Value.int IntKind.i64 p.left,Value.slice ra p.right.length rc,Value.string { data:=p.cons.toArray },Value.int IntKind.i64 p.role,Value.bool p.prefer,Value.bool p.avoid,Value.int IntKind.i64 p.made]:=by rw [<- hw2];exact (Blk.new wr _ _).drew
   have p1:w2.cell? ⟨wr.heap.size,1,none⟩=some (.slice ra p.right.length rc):=hB2.cell 1;have c2:=(hb2.cell (p:=⟨go,i * 2+1,none⟩) (wL _ _ cx2)).trans cx2;have H2:=Z2.mk hb2 hB2;clear hw2 hb2 hB2 f0 f1 f2 f3 f4 f5 f6 m1a cx1a f0a f1a f2a f3a f4a f5a f6a cx1 cx2 m1
   by_cases hd:d=p.right.length
   ·subst hd;have hde:(((p.right.length:Nat):Int)==((p.right.length:Nat):Int))=true:=by simp
    go_wp2_with fail
    go_quiet (fail)
    go_wp2_with fail
    go_roundg (l.length+g.prods.length - (i+1))
    case measure=>have:=A.o1;omega
    case rel =>
     have hah:aheadF g (n,p.right.length)=none:=by unfold aheadF;rw [HX.o3];simp
     exact ⟨i+1,seen,out,nm,f,rfl,rfl,A.o2.next HX.o1 (by unfold closeSeen;rw [hah]) (by unfold closeOut;rw [hah]) (below_drewN H2.o1 _)⟩
   ·have hdlt:d<p.right.length:=by omega
    obtain ⟨s,hs⟩:∃ s,p.right[d]?=some s:=⟨_,gE hdlt⟩;obtain ⟨rg,ro,rfl,_,hrr⟩:=hrk (by rintro e;rw [e] at hdlt;simp at hdlt);have hde:((d:Int)==((p.right.length:Nat):Int))=false:=by simp;omega
    have hd0:(0:Int)<=d:=by omega
    have hd1:(d:Int)<((p.right.length:Nat):Int):=by omega
    have k0:=hrr.cells d s hs 0 _ rfl;have k5:=hrr.cells d s hs 5 _ rfl;simp only [Nat.add_zero] at k0;have k0:=(H2.o1.cell (p:=⟨rg,ro+d * 6,none⟩) (wL _ _ k0)).trans k0;have k5:=(H2.o1.cell (p:=⟨rg,ro+d * 6+5,none⟩) (wL _ _ k5)).trans k5;have hsy:=HG.out.sym p (gM HX.o2) s (gM hs);have HS:=Z3.mk hs hrr hsy;clear hs hrr hsy hd hdl
    by_cases hk:s.kind=1
    ·have hkn:(s.kind != 1)=false:=by simp [hk]
     have hsy:=HS.o3;rw [hk] at hsy;obtain ⟨_,hs0,hs1'⟩:s.set=0 /\ 0<=s.sort /\ s.sort<g.sorts.length:=by
      rcases hsy with h | h
      ·exact absurd h.1 (by decide)
      ·exact h.2
     obtain ⟨S,hS⟩:∃ S:Nat,s.sort=(S:Int):=⟨s.sort.toNat,by omega⟩;rw [hS] at k5 hs1';have hSn:S<g.sorts.length:=by omega
     have hMv:MapV Tryz.prog 3 w2 w.heap.size nm f:=A.o2.map.below H2.o1 A.o2.map.lt;have hKey:keyOf Tryz.prog 3 (.int .i64 S)=some (.int .i64 S):=keyOf_int_mk Tryz.underlying3 (by have:=HG.out.sorts;simp [Lit.wf,IntKind.min,IntKind.max,IntKind.bits,IntKind.signed];omega);have HMv:=Hd hMv;have hah:aheadF g (n,d)=some s:=by unfold aheadF;rw [HX.o3];exact HS.o1
     have HK:=Z3.mk hk hah hS;clear hk hah hS hMv hsy hs0 hs1';go_wp2_with fail
     go_quiet (fail)
     go_wp2_with fail
     go_quiet (fail)
     have hnm:=A.o2.le
     by_cases hin:(S:Int)∈seen
     ·obtain ⟨c,hc1,hc2,hfc⟩:=A.o2.seen.yes _ hin;have hput:=putV_same f (kl:=.int .i64 S) (.int .i64 (c+1)) (int_keyed (P:=Tryz.prog) Tryz.underlying3 |>.key hKey);have hgt:(1:Int)<c+1:=by omega
      have hmx:nm<maxLen:=by unfold maxLen;omega
      go_wp2_with (first
       | (at_lookup;refine wpList_lookupV _ rfl _ _ 116 rfl 3 3 (int_keyed Tryz.underlying3) Tryz.underlying116 (.int .i64 0) (Tryz.zeroValue3 _) w.heap.size nm f rfl ?_ _ _ rfl hKey ?_;exact HMv.out)
       | (at_mapUpdate;refine wpList_mapUpdateV _ rfl _ _ _ 116 rfl 3 3 (int_keyed Tryz.underlying3) Tryz.underlying116 w.heap.size nm f rfl ?_ hmx _ _ _ rfl rfl hKey ?_;exact HMv.out))
      intro w4 hm4 hg4;go_wp2_with (at_lookup;refine wpList_lookupV _ rfl _ _ 116 rfl 3 3 (int_keyed Tryz.underlying3) Tryz.underlying116 (.int .i64 0) (Tryz.zeroValue3 _) w.heap.size _ _ rfl hm4 _ _ rfl hKey ?_);go_roundg (l.length+g.prods.length - (i+1))
      case measure=>have:=A.o1;omega
      case rel =>
       refine ⟨i+1,seen,out,nm+1,_,rfl,rfl,A.o2.again HX.o1 ?_ ?_ (below_drewN H2.o1 _) hg4 hm4 (A.o2.seen.again hin hfc hc1 hc2)⟩
       ·unfold closeSeen;rw [HK.o2];simp [HK.o1,HK.o3,hin]
       ·unfold closeOut;rw [HK.o2];simp [HK.o1,HK.o3,hin]
     ·have hfn:=A.o2.seen.no _ hin;have hmx:nm<maxLen:=by unfold maxLen;omega
      have hput:=putV_same f (kl:=.int .i64 S) (.int .i64 1) (int_keyed (P:=Tryz.prog) Tryz.underlying3 |>.key hKey);obtain ⟨vo',o1,lo,hlo,hlen,heach⟩:=HM.out.of;obtain ⟨⟨vs,ns⟩,hvs⟩:∃ x,lo[S]?=some x:=⟨_,gE (by omega)⟩;have hns:ns=ofS g S:=heach S _ hvs;obtain ⟨oa,oc,rfl,oc1,oc2,hoK⟩:=hlo.row;obtain ⟨ob,oo,rfl,_,hor⟩:=hoK (by rintro rfl;simp at hvs)
      have k1:=hor.cells S _ hvs 0 vs rfl;simp only [Nat.add_zero,Nat.mul_one] at k1;have hvS:SliceK D encN 1 w vs ns:=hlo.each _ (gM hvs);obtain ⟨va,vc,rfl,v1,v2,hvK⟩:=hvS;rw [hlen] at o1;have hnsl:ns.length<=1000:=by
       have h1:=fresh_step g (S:Int) [] (by simp);have h2:=fresh_le g [];rw [hns];omega
      have HN:=Z2.mk hns hvK;clear hns hvK hor hoK heach hlo hvs hlen;obtain ⟨N,hN⟩:=eX ns.length;rw [hN] at k1 hnsl v1;have HNN:=Hd hN;clear hN;go_wp2_with (first
       | (at_lookup;refine wpList_lookupV _ rfl _ _ 116 rfl 3 3 (int_keyed Tryz.underlying3) Tryz.underlying116 (.int .i64 0) (Tryz.zeroValue3 _) w.heap.size nm f rfl ?_ _ _ rfl hKey ?_;exact HMv.out)
       | (at_mapUpdate;refine wpList_mapUpdateV _ rfl _ _ _ 116 rfl 3 3 (int_keyed Tryz.underlying3) Tryz.underlying116 w.heap.size nm f rfl ?_ hmx _ _ _ rfl rfl hKey ?_;exact HMv.out))
      intro w4 hm4 hg4;obtain ⟨hown4,hb4,hs4⟩:=A.o2.mid (below_drewN H2.o1 _) hg4;have o1':=(hb4.cell (p:=⟨mb,5,none⟩) (wL _ _ o1)).trans o1;have k1':=(hb4.cell (p:=⟨ob,oo+S,none⟩) (wL _ _ k1)).trans k1;have H4:=Z4.mk hm4 hown4 hb4 hs4;clear hown4 hb4 hs4 hg4 o1 k1;go_wp2_with (at_lookup;refine wpList_lookupV _ rfl _ _ 116 rfl 3 3 (int_keyed Tryz.underlying3) Tryz.underlying116 (.int .i64 0) (Tryz.zeroValue3 _) w.heap.size _ _ rfl hm4 _ _ rfl hKey ?_);clear hput hfn hm4
      go_loopg [6,81] N (fun m v6 v81 wq=>∃ (j:Nat),j<=N /\ m=N - j /\ v81=.int .i64 j /\ wq.ownsRow (w.heap.size+1) 134 2 v6 (out++(ns.take j).map (·,0)).length (flatK encIt (out++(ns.take j).map (·,0))) /\
       MapV Tryz.prog 3 wq w.heap.size (nm+1) (putV f (.int .i64 S) (.int .i64 1)) /\ Below w.heap.size w wq /\ w.heap.size+1<=wq.heap.size)
      case atStart=>exact ⟨0,by omega,rfl,rfl,by simpa using H4.o2,H4.o1,H4.o3,H4.o4⟩
      case round =>
       obtain ⟨j,hj,hm,rfl,hown,hM,hb,hsz⟩:=hrel;obtain ⟨sb,sd,ev⟩:=own_shape hown;have hol:(out++(ns.take j).map (·,0)).length=out.length+j:=by
        rw [List.length_append,List.length_map,List.length_take,HNN.out];omega
       rw [hol] at hown ev;obtain ⟨L,hL⟩:=eX (out.length+j);rw [hL] at hown ev;subst ev
       by_cases hjN:j<N
       ·obtain ⟨q,hq⟩:∃ q,ns[j]?=some q:=⟨_,gE (by have:=HNN.out;omega)⟩;obtain ⟨vb,vo2,rfl,_,hvr⟩:=HN.o2 (by rintro e;rw [e] at hq;simp at hq);have c:=hvr.cells j q hq 0 _ rfl;simp only [Nat.add_zero,Nat.mul_one] at c;have c:=(hb.cell (p:=⟨vb,vo2+j,none⟩) (wL _ _ c)).trans c;have hj0:(0:Int)<=j:=by omega
        have hjN1:(j:Int)<N:=by omega
        have hnext:out++(ns.take (j+1)).map (·,0)=(out++(ns.take j).map (·,0))++[(q,0)]:=by
         rw [List.take_add_one,hq];simp
        have hol2:(out++(ns.take (j+1)).map (·,0)).length=out.length+j+1:=by rw [hnext,List.length_append,hol];rfl
        have R:=Z9.mk hm hown hM hb hsz hnext hol hol2 hL;have hLb:L<=1002000:=by omega
        have hq1:q<1000:=by
         have h1:q∈ofS g (S:Int):=by rw [<- HN.o1];exact gM hq
         obtain ⟨pq,h2,_⟩:=ofS_mem h1;have:=(gS.1 h2).1;omega
        have hsz':=hsz;clear hm hown hM hb hsz hq hvr hnext hol hol2 hL;obtain ⟨i0,hi,hz0,hz1,hz2⟩:=info_parts infoItem;go_wp2_with (at_builtin;go_loud (refine wpList_append_own _ rfl _ _ 132 rfl (w.heap.size+1) 134 i0 (.agg #[.int .i64 0,.int .i64 0]) 2 16 Tryz.underlying132 hi hz0 hz1 hz2 rfl (by decide) _ L _ rfl (R.o2.alloc _) ⟨wr.heap.size,0,none⟩ 1 1 (encIt (q,0)) rfl rfl ?c1 ?c2 ?c3 ?c4 ?c5 ?_))
        case c1=>first | exact it_pair wr q _ | exact fun j u h=>h
        case c2=>exact encIt_one (q,0)
        case c3=>unfold maxLen;omega
        case c4=>omega
        case c5=>first | omega | (simp;omega)
        intro v' w5 hown5 hg5 _;have hne:∀ b,(Value.slice sb L sd).ownBlock=some b->w.heap.size+1<=b:=fun b hb=>(R.o2.lt b hb).1;have hb5:=(R.o4.alloc (by have:=R.o5;omega) _).grown hg5 (by have:=R.o5;simp;omega) (fun b hb=>by have:=hne b hb;omega);have hm5:=(R.o3.alloc (.cells #[.int .i64 q,.int .i64 0] 134)).grown hg5 (by intro e;have:=hne _ e.symm;omega);have hs5:w.heap.size+1<=w5.heap.size:=by have:=hg5.size;have:=R.o5;simp at *;omega
        have R5:=Z4.mk hown5 hm5 hb5 hs5;clear hown5 hg5 hne hb5 hm5 hs5;go_wp2_with fail
        go_roundg (N - (j+1))
        case measure=>have:=R.o1;omega
        case rel =>
         refine ⟨j+1,by omega,rfl,rfl,?_,R5.o2,R5.o3,R5.o4⟩;have h1:=R5.o1;rw [<- List.map_take] at h1;rw [R.o8,R.o6,<- flatK_snoc,R.o9];exact h1
       ·obtain rfl:j=N:=by omega
        have R:=Z5.mk hown hM hb hsz hL;clear hm hown hM hb hsz hol hL;go_wp2_with fail
        go_roundg (l.length+g.prods.length - (i+1))
        case measure=>have:=A.o1;omega
        case rel =>
         have hst:=A.o2.at_.step HX.o1;have hse:closeSeen g seen (n,d)=(S:Int)::seen:=by unfold closeSeen;rw [HK.o2];simp [HK.o1,HK.o3,hin]
         have hoe:closeOut g seen out (n,d)=out++(ofS g (S:Int)).map (·,0):=by unfold closeOut;rw [HK.o2];simp [HK.o1,HK.o3,hin]
         rw [hse,hoe] at hst;have hlen:(out++(ofS g (S:Int)).map (·,0)).length=L:=by
          rw [<- HN.o1,List.length_append,List.length_map,HNN.out];exact R.o5
         refine ⟨i+1,(S:Int)::seen,out++(ofS g (S:Int)).map (·,0),nm+1,_,rfl,rfl,hst,?_,R.o2,by omega,A.o2.seen.new hin,R.o3,R.o4⟩;have h1:=R.o1;rw [<- HNN.out,List.take_length,HN.o1] at h1;rw [hlen];exact h1
    ·have hkn:(s.kind != 1)=true:=by simp [hk]
     clear hk;go_wp2_with fail
     go_quiet (fail)
     go_wp2_with fail
     go_roundg (l.length+g.prods.length - (i+1))
     case measure=>have:=A.o1;omega
     case rel =>
      have hk:s.kind≠1:=by simpa using hkn
      have hah:aheadF g (n,d)=some s:=by unfold aheadF;rw [HX.o3];exact HS.o1
      exact ⟨i+1,seen,out,nm,f,rfl,rfl,A.o2.next HX.o1 (by unfold closeSeen;rw [hah];simp [hk]) (by unfold closeOut;rw [hah];simp [hk]) (below_drewN H2.o1 _)⟩
  ·obtain rfl:i=out.length:=by omega
   have hie:((out.length:Int)==(out.length:Int))=true:=by simp
   have hsort:=fun W h=>sort_any out (w.heap.size+1) (.slice sa out.length sc) W h (by omega);have hcl:=A.o2.at_.done rfl;have hlen:(sortIt out).length=out.length:=(sortIt_perm out).length_eq;have hcomp:=fun W h=>compact_any (sortIt out) (w.heap.size+1) (.slice sa out.length sc) W h (by omega);have HE:=Z2.mk hcl hlen;clear hcl hlen;go_wp2_with fail
   refine (hsort _ A.o2.own).mono ?_;rintro e w2 ⟨rfl,ho2,hg2⟩;have HS:=Z2.mk ho2 hg2;clear ho2 hg2 hsort;go_wp2_with fail
   refine (hcomp _ HS.o1).mono ?_;rintro e w3 ⟨v3,rfl,ho3,hg3⟩;have HT:=Z2.mk ho3 hg3;clear ho3 hg3 hcomp;go_wp2_with fail
   rw [Exit.noGoto_ret];go_ret;have hne:∀ b,(Value.slice sa out.length sc).ownBlock=some b->w.heap.size<=b:=fun b hb=>by have:=(A.o2.own.lt b hb).1;omega
   refine ⟨_,rfl,?_,?_⟩
   ·rw [HE.o1];exact HT.o1.tyLow (Nat.le_succ _)
   ·have h1:=A.o2.below.grown HS.o2 A.o2.below.size hne;exact h1.grown HT.o2 h1.size hne
end Go.Proofs.YthiochcpmfkgcaaGreatDoor.Tb
