/- Walks and plain laws that the last text stands on: TbClosed. -/
import Derived.Test.YthiochcpmfkgcaaGreatDoorBo1
import Derived.Test.YthiochcpmfkgcaaGreatDoorBo6
import Derived.Test.YthiochcpmfkgcaaGreatDoorBo8
import Derived.Deep.RegionLaw
import Derived.Carry
import Derived.WalkMore
set_option linter.unusedVariables false
set_option linter.unusedSimpArgs false
set_option maxRecDepth 100000
set_option maxHeartbeats 16000000
namespace Go.Proofs.YthiochcpmfkgcaaGreatDoor.Tb
open Go Go.RowKit Go.Proofs Go.Maps Mx
structure SeenV (f:Lit->Option Value) (seen:List Int) (i:Nat):Prop where
 yes:∀ s,s∈seen->∃ c:Int,1<=c /\ c<=i /\ f (.int .i64 s)=some (.int .i64 c)
 no:∀ s,s ∉ seen->f (.int .i64 s)=none
theorem SeenV.mono {f:Lit->Option Value} {seen:List Int} {i j:Nat} (h:SeenV f seen i) (hij:i<=j):SeenV f seen j :=
 ⟨fun s hs=>by obtain ⟨c,h1,h2,h3⟩:=h.yes s hs;exact ⟨c,h1,by omega,h3⟩,h.no⟩
theorem SeenV.again {f:Lit->Option Value} {seen:List Int} {i:Nat} (h:SeenV f seen i) {s c:Int} (hs:s∈seen) (hc:f (.int .i64 s)=some (.int .i64 c)) (h1:1<=c) (h2:c<=i) :
    SeenV (putV f (.int .i64 s) (.int .i64 (c+1))) seen (i+1) :=
  ⟨fun t ht=>by
    rw [putV_int]
    by_cases e:t=s
    · rw [if_pos e];exact ⟨c+1,by omega,by omega,rfl⟩
    · rw [if_neg e];obtain ⟨d,k1,k2,k3⟩:=h.yes t ht;exact ⟨d,k1,by omega,k3⟩,
   fun t ht=>by
    rw [putV_int,if_neg (by rintro rfl;exact ht hs)]
    exact h.no t ht⟩
theorem SeenV.new {f:Lit->Option Value} {seen:List Int} {i:Nat} (h:SeenV f seen i) {s:Int} (hs:s ∉ seen):SeenV (putV f (.int .i64 s) (.int .i64 1)) (s::seen) (i+1) :=
  ⟨fun t ht=>by
    rw [putV_int]
    by_cases e:t=s
    · rw [if_pos e];exact ⟨1,by omega,by omega,rfl⟩
    · rw [if_neg e]
      rcases List.mem_cons.1 ht with h1 | h1
      · exact absurd h1 e
      · obtain ⟨d,k1,k2,k3⟩:=h.yes t h1;exact ⟨d,k1,by omega,k3⟩,
   fun t ht=>by
    rw [putV_int,if_neg (fun e=>ht (by rw [e];simp))]
    exact h.no t (fun h1=>ht (List.mem_cons_of_mem _ h1))⟩
structure CloseW (g:Gr) (l:List It) (w:World) (i:Nat) (seen:List Int) (out:List It) (v6:Value) (nm:Nat) (f:Lit->Option Value) (wr:World):Prop where
 at_:CloseAt g l i seen out
 own:wr.ownsRow (w.heap.size+1) 134 2 v6 out.length (flatK encIt out)
 map:MapV Tryz.prog 3 wr w.heap.size nm f
 le:nm<=i
 seen:SeenV f seen i
 below:Below w.heap.size w wr
 size:w.heap.size+1<=wr.heap.size
theorem CloseW.next {g:Gr} {l:List It} {w:World} {i:Nat} {seen:List Int} {out:List It} {v6:Value} {nm:Nat} {f:Lit->Option Value} {wr w3:World} (h:CloseW g l w i seen out v6 nm f wr) {x:It} (hx:out[i]?=some x)
  (h1:closeSeen g seen x=seen) (h2:closeOut g seen out x=out) (hb:Below wr.heap.size wr w3):CloseW g l w (i+1) seen out v6 nm f w3:=by
 have:=h.at_.step hx;rw [h1,h2] at this;exact ⟨this,row_below h.own hb,h.map.below hb h.map.lt,by have:=h.le;omega,h.seen.mono (Nat.le_succ _),h.below.trans (hb.mono h.below.size),Nat.le_trans h.size hb.size⟩
theorem CloseW.again {g:Gr} {l:List It} {w:World} {i:Nat} {seen:List Int} {out:List It} {v6:Value} {nm:Nat} {f:Lit->Option Value} {wr w3 w4:World} (h:CloseW g l w i seen out v6 nm f wr) {x:It} (hx:out[i]?=some x)
  (h1:closeSeen g seen x=seen) (h2:closeOut g seen out x=out) (hb:Below wr.heap.size wr w3) {f':Lit->Option Value} (hg:w3.grownBy w4 (some w.heap.size)) (hm:MapV Tryz.prog 3 w4 w.heap.size (nm+1) f') (hs:SeenV f' seen (i+1)):CloseW g l w (i+1) seen out v6 (nm+1) f' w4:=by
 have h3:=h.next hx h1 h2 hb;refine ⟨h3.at_,h3.own.kept hg ?_,hm,by have:=h.le;omega,hs,h3.below.trans (below_of_grown hg h3.below.size (Nat.le_refl _)),Nat.le_trans h3.size hg.size⟩
 cases e:v6.ownBlock with
 | none=>exact .inl rfl
 | some b=>exact .inr (by have:=(h.own.lt b e).1;intro e2;injection e2 with e2;omega)
theorem CloseW.mid {g:Gr} {l:List It} {w:World} {i:Nat} {seen:List Int} {out:List It} {v6:Value} {nm:Nat} {f:Lit->Option Value} {wr w3 w4:World} (h:CloseW g l w i seen out v6 nm f wr)
  (hb:Below wr.heap.size wr w3) (hg:w3.grownBy w4 (some w.heap.size)):w4.ownsRow (w.heap.size+1) 134 2 v6 out.length (flatK encIt out) /\ Below w.heap.size w w4 /\ w.heap.size+1<=w4.heap.size:=by
 refine ⟨(row_below h.own hb).kept hg ?_,(h.below.trans (hb.mono h.below.size)).trans (below_of_grown hg (Nat.le_trans h.below.size hb.size) (Nat.le_refl _)),Nat.le_trans (Nat.le_trans h.size hb.size) hg.size⟩
 cases e:v6.ownBlock with
 | none=>exact .inl rfl
 | some b=>exact .inr (by have:=(h.own.lt b e).1;intro e2;injection e2 with e2;omega)
theorem it_pair (w:World) (n:Nat) (t:TypeId):∀ j u,(encIt (n,0))[j]?=some u->(w.alloc (.cells #[.int .i64 (n:Int),.int .i64 0] t)).cell? ((⟨w.heap.size,0,none⟩:Addr).add j)=some u:=by
 intro j u hj;have hb:Blk (w.alloc (.cells #[.int .i64 (n:Int),.int .i64 0] t)) w.heap.size t #[.int .i64 (n:Int),.int .i64 0]:=Blk.new w _ _;rw [addr_add,Nat.zero_add,hb.cell j]
 match j,hj with
 | 0,hj=>exact hj
 | 1,hj=>exact hj
theorem closed_any (D D2:Nat->Prop) (g:Gr) (hg:Good g) (mb:Nat) (l:List It) (hl:∀ x∈l,itemOk g x=true) (hln:l.length<=1000000) (v:Value) (w:World) (hm:MkR D w mb g) (hv:SliceK D2 encIt 2 w v l) :
  Calls Tryz.prog 81 #[.pointer (some ⟨mb,0,none⟩),v] w fun e w'=>∃ v',e=.returned v' /\ SliceK (TyD w.heap.size 134 w') encIt 2 w' v' (closedF g l) /\ Below w.heap.size w w':=by
 have hclone:=fun W hV=>clone_any D2 l v W hV (by omega)
 have hM0:=MapV.made w Tryz.prog 3;have hmw:MkR D (w.alloc (.map #[] 0)) mb g:=hm.below ((Below.refl _ w).alloc (Nat.le_refl _) _);have hvw:SliceK D2 encIt 2 (w.alloc (.map #[] 0)) v l:=hv.all ((Below.refl _ w).alloc (Nat.le_refl _) _);have H0:=Hd (An hM0 (An hmw hvw));have HG:=Hd hg;have HL:=Hd hl;have HM:=Hd hm;clear hM0 hmw hvw hg hl hm hv;have hmm:=@run_makeMap Tryz.prog
 go_enter Tryz.func81,Tryz.ntmps81
 go_wp2_with fail
 go_step3
 go_wp2_with fail
 refine (hclone _ H0.out.2.2).mono ?_;rintro e w1 ⟨vo,rfl,hown,hb⟩;have hown0:w1.ownsRow (w.heap.size+1) 134 2 vo l.length (flatK encIt l):=by simpa using hown
 have H1:=Hd (An (H0.out.1.below hb (by simp)) (An (H0.out.2.1.below hb) (An hown0 (((Below.refl w.heap.size w).alloc (Nat.le_refl _) (.map #[] 0)).trans (hb.mono (by simp))))))
 have hs1:w.heap.size+1<=w1.heap.size:=by have:=hb.size;simpa using this
 clear hown hown0 hb hclone H0;go_wp2_with fail
 go_step3
 go_wp2_with fail
 go_loopg [6,7] (l.length+g.prods.length) (fun m v6 v7 wr=>∃ (i:Nat) (seen:List Int) (out:List It) (nm:Nat) (f:Lit->Option Value),v7=.int .i64 i /\ m=l.length+g.prods.length - i /\ CloseW g l w i seen out v6 nm f wr)
 case atStart =>
  exact ⟨0,[],l,0,_,rfl,by omega,CloseAt.start HL.out,H1.out.2.2.1,H1.out.1,Nat.le_refl _,⟨fun s hs=>by simp at hs,fun _ _=>rfl⟩,H1.out.2.2.2,hs1⟩
 case round =>
  obtain ⟨i,seen,out,nm,f,rfl,hm,hC⟩:=hrel;obtain ⟨sa,sc,rfl⟩:=own_shape hC.own;have hfit:=hC.at_.fits;have hile:=hC.at_.le;have hPn:=HG.out.prods;have A:=Hd (An hm hC);clear hm hC
  by_cases hlt:i<out.length
  ·obtain ⟨⟨n,d⟩,hx⟩:∃ x,out[i]?=some x:=⟨_,List.getElem?_eq_getElem hlt⟩
   obtain ⟨go,rfl,hgo⟩:∃ go,sa=some ⟨go,0,none⟩ /\ w.heap.size+1<=go:=by
    obtain ⟨go,cap,e,h1,_⟩:=own_some A.out.2.own (by omega)
    injection e with e1 e2 e3;exact ⟨go,e1,h1⟩
   obtain ⟨cx1,cx2⟩:=it_cells A.out.2.own rfl i _ hx;have hok:=(itemOk_iff g (n,d)).1 (A.out.2.at_.ok _ (List.mem_of_getElem? hx));obtain ⟨p,hp⟩:∃ p,g.prods[n]?=some p:=⟨_,List.getElem?_eq_getElem hok.1⟩;have hrt:rightOf g n=p.right:=by unfold rightOf;rw [hp];rfl
   obtain ⟨hnP,hdl⟩:=hok;have hpm:=List.mem_of_getElem? hp;simp only [hrt] at hdl;have hMr:MkR D wr mb g:=HM.out.below A.out.2.below;obtain ⟨_,cp,b,o,vr,m1,rfl,hvr,hpc⟩:=hMr.prod hp;obtain ⟨ra,rc,rfl,hrc1,hrc2,hrk⟩:=hvr;have f0:=hpc 0 _ rfl;have f1:=hpc 1 _ rfl;have f2:=hpc 2 _ rfl;have f3:=hpc 3 _ rfl;have f4:=hpc 4 _ rfl;have f5:=hpc 5 _ rfl;have f6:=hpc 6 _ rfl;simp only [Nat.add_zero] at f0;have hrl:=HG.out.right p hpm;have hlt1:(i:Int)<(out.length:Int):=by omega
   have hie:((i:Int)==(out.length:Int))=false:=by simp;omega
   have hi0:(0:Int)<=(i:Int):=by omega
   have hn0:(0:Int)<=(n:Int):=by omega
   have hnP1:(n:Int)<(g.prods.length:Int):=by omega
   have HX:=Hd (An hx (An hp (An hrt (An hpc hMr))));clear hx hp hpm hrt hpc hMr;have m1a:=fun o=>cell_alloc_ m1 o
   have cx1a:=fun o=>cell_alloc_ cx1 o
   have f0a:=fun o=>cell_alloc_ f0 o
   have f1a:=fun o=>cell_alloc_ f1 o
   have f2a:=fun o=>cell_alloc_ f2 o
   have f3a:=fun o=>cell_alloc_ f3 o
   have f4a:=fun o=>cell_alloc_ f4 o
   have f5a:=fun o=>cell_alloc_ f5 o
   have f6a:=fun o=>cell_alloc_ f6 o
   go_wp2_with fail
   go_region
   generalize hw2:(wr.alloc (Obj.cells #[Value.int IntKind.i64 p.left,Value.slice ra p.right.length rc,Value.string { data:=p.cons.toArray },Value.int IntKind.i64 p.role,Value.bool p.prefer,Value.bool p.avoid,Value.int IntKind.i64 p.made] 53)).drew=w2;have hb2:Below wr.heap.size wr w2:=by rw [<- hw2];exact ((Below.refl _ wr).alloc (Nat.le_refl _) _).drew
   have hB2:Blk w2 wr.heap.size 53 #[Value.int IntKind.i64 p.left,Value.slice ra p.right.length rc,Value.string { data:=p.cons.toArray },Value.int IntKind.i64 p.role,Value.bool p.prefer,Value.bool p.avoid,Value.int IntKind.i64 p.made]:=by rw [<- hw2];exact (Blk.new wr _ _).drew
   have p1:w2.cell? ⟨wr.heap.size,1,none⟩=some (.slice ra p.right.length rc):=hB2.cell 1;have c2:=(hb2.cell (p:=⟨go,i * 2+1,none⟩) (World.block_lt_of_cell? _ _ cx2)).trans cx2;have H2:=Hd (An hb2 hB2);clear hw2 hb2 hB2 f0 f1 f2 f3 f4 f5 f6 m1a cx1a f0a f1a f2a f3a f4a f5a f6a cx1 cx2 m1
   by_cases hd:d=p.right.length
   ·subst hd
    have hde:(((p.right.length:Nat):Int)==((p.right.length:Nat):Int))=true:=by simp
    go_wp2_with fail
    go_quiet (fail)
    go_wp2_with fail
    go_roundg (l.length+g.prods.length - (i+1))
    case measure=>have:=A.out.1;omega
    case rel =>
     have hah:aheadF g (n,p.right.length)=none:=by unfold aheadF;rw [HX.out.2.2.1];simp
     exact ⟨i+1,seen,out,nm,f,rfl,rfl,A.out.2.next HX.out.1 (by unfold closeSeen;rw [hah]) (by unfold closeOut;rw [hah]) (below_drewN H2.out.1 _)⟩
   ·have hdlt:d<p.right.length:=by omega
    obtain ⟨s,hs⟩:∃ s,p.right[d]?=some s:=⟨_,List.getElem?_eq_getElem hdlt⟩;obtain ⟨rg,ro,rfl,_,hrr⟩:=hrk (by rintro e;rw [e] at hdlt;simp at hdlt)
    have hde:((d:Int)==((p.right.length:Nat):Int))=false:=by simp;omega
    have hd0:(0:Int)<=(d:Int):=by omega
    have hd1:(d:Int)<((p.right.length:Nat):Int):=by omega
    have k0:=hrr.cells d s hs 0 _ rfl;have k5:=hrr.cells d s hs 5 _ rfl;simp only [Nat.add_zero] at k0;have k0:=(H2.out.1.cell (p:=⟨rg,ro+d * 6,none⟩) (World.block_lt_of_cell? _ _ k0)).trans k0;have k5:=(H2.out.1.cell (p:=⟨rg,ro+d * 6+5,none⟩) (World.block_lt_of_cell? _ _ k5)).trans k5;have hsy:=HG.out.sym p (List.mem_of_getElem? HX.out.2.1) s (List.mem_of_getElem? hs);have HS:=Hd (An hs (An hrr hsy));clear hs hrr hsy hd hdl
    by_cases hk:s.kind=1
    ·have hkn:(s.kind != 1)=false:=by simp [hk]
     have hsy:=HS.out.2.2;rw [hk] at hsy;obtain ⟨_,hs0,hs1'⟩:s.set=0 /\ 0<=s.sort /\ s.sort<g.sorts.length:=by
      rcases hsy with h | h
      ·exact absurd h.1 (by decide)
      ·exact h.2
     obtain ⟨S,hS⟩:∃ S:Nat,s.sort=(S:Int):=⟨s.sort.toNat,by omega⟩
     rw [hS] at k5 hs1';have hSn:S<g.sorts.length:=by omega
     have hMv:MapV Tryz.prog 3 w2 w.heap.size nm f:=A.out.2.map.below H2.out.1 A.out.2.map.lt;have hKey:keyOf Tryz.prog 3 (.int .i64 (S:Int))=some (.int .i64 (S:Int)):=keyOf_int_mk Tryz.underlying3 (by have:=HG.out.sorts;simp [Lit.wf,IntKind.min,IntKind.max,IntKind.bits,IntKind.signed];omega)
     have HMv:=Hd hMv;have hah:aheadF g (n,d)=some s:=by unfold aheadF;rw [HX.out.2.2.1];exact HS.out.1
     have HK:=Hd (An hk (An hah hS));clear hk hah hS hMv hsy hs0 hs1';go_wp2_with fail
     go_quiet (fail)
     go_wp2_with fail
     go_quiet (fail)
     have hnm:=A.out.2.le
     by_cases hin:(S:Int)∈seen
     ·obtain ⟨c,hc1,hc2,hfc⟩:=A.out.2.seen.yes _ hin
      have hput:=putV_same f (kl:=.int .i64 (S:Int)) (.int .i64 (c+1)) (int_keyed (P:=Tryz.prog) Tryz.underlying3 |>.key hKey);have hgt:(1:Int)<c+1:=by omega
      have hmx:nm<maxLen:=by unfold maxLen;omega
      go_wp2_with (first
       | (at_lookup;refine wpList_lookupV _ rfl _ _ 116 rfl 3 3 (int_keyed Tryz.underlying3) Tryz.underlying116 (.int .i64 0) (Tryz.zeroValue3 _) w.heap.size nm f rfl ?_ _ _ rfl hKey ?_;exact HMv.out)
       | (at_mapUpdate;refine wpList_mapUpdateV _ rfl _ _ _ 116 rfl 3 3 (int_keyed Tryz.underlying3) Tryz.underlying116 w.heap.size nm f rfl ?_ hmx _ _ _ rfl rfl hKey ?_;exact HMv.out))
      intro w4 hm4 hg4;go_wp2_with (at_lookup;refine wpList_lookupV _ rfl _ _ 116 rfl 3 3 (int_keyed Tryz.underlying3) Tryz.underlying116 (.int .i64 0) (Tryz.zeroValue3 _) w.heap.size _ _ rfl hm4 _ _ rfl hKey ?_)
      go_roundg (l.length+g.prods.length - (i+1))
      case measure=>have:=A.out.1;omega
      case rel =>
       refine ⟨i+1,seen,out,nm+1,_,rfl,rfl,A.out.2.again HX.out.1 ?_ ?_ (below_drewN H2.out.1 _) hg4 hm4 (A.out.2.seen.again hin hfc hc1 hc2)⟩
       ·unfold closeSeen;rw [HK.out.2.1];simp [HK.out.1,HK.out.2.2,hin]
       ·unfold closeOut;rw [HK.out.2.1];simp [HK.out.1,HK.out.2.2,hin]
     ·have hfn:=A.out.2.seen.no _ hin
      have hmx:nm<maxLen:=by unfold maxLen;omega
      have hput:=putV_same f (kl:=.int .i64 (S:Int)) (.int .i64 1) (int_keyed (P:=Tryz.prog) Tryz.underlying3 |>.key hKey);obtain ⟨vo',o1,lo,hlo,hlen,heach⟩:=HM.out.of;obtain ⟨⟨vs,ns⟩,hvs⟩:∃ x,lo[S]?=some x:=⟨_,List.getElem?_eq_getElem (by omega)⟩
      have hns:ns=ofS g S:=heach S _ hvs;obtain ⟨oa,oc,rfl,oc1,oc2,hoK⟩:=hlo.row;obtain ⟨ob,oo,rfl,_,hor⟩:=hoK (by rintro rfl;simp at hvs)
      have k1:=hor.cells S _ hvs 0 vs rfl;simp only [Nat.add_zero,Nat.mul_one] at k1;have hvS:SliceK D encN 1 w vs ns:=hlo.each _ (List.mem_of_getElem? hvs);obtain ⟨va,vc,rfl,v1,v2,hvK⟩:=hvS;rw [hlen] at o1;have hnsl:ns.length<=1000:=by
       have h1:=fresh_step g (S:Int) [] (by simp)
       have h2:=fresh_le g [];rw [hns];omega
      have HN:=Hd (An hns hvK);clear hns hvK hor hoK heach hlo hvs hlen;obtain ⟨N,hN⟩:∃ N,ns.length=N:=⟨_,rfl⟩;rw [hN] at k1 hnsl v1;have HNN:=Hd hN;clear hN;go_wp2_with (first
       | (at_lookup;refine wpList_lookupV _ rfl _ _ 116 rfl 3 3 (int_keyed Tryz.underlying3) Tryz.underlying116 (.int .i64 0) (Tryz.zeroValue3 _) w.heap.size nm f rfl ?_ _ _ rfl hKey ?_;exact HMv.out)
       | (at_mapUpdate;refine wpList_mapUpdateV _ rfl _ _ _ 116 rfl 3 3 (int_keyed Tryz.underlying3) Tryz.underlying116 w.heap.size nm f rfl ?_ hmx _ _ _ rfl rfl hKey ?_;exact HMv.out))
      intro w4 hm4 hg4;obtain ⟨hown4,hb4,hs4⟩:=A.out.2.mid (below_drewN H2.out.1 _) hg4;have o1':=(hb4.cell (p:=⟨mb,5,none⟩) (World.block_lt_of_cell? _ _ o1)).trans o1;have k1':=(hb4.cell (p:=⟨ob,oo+S,none⟩) (World.block_lt_of_cell? _ _ k1)).trans k1;have H4:=Hd (An hm4 (An hown4 (An hb4 hs4)));clear hown4 hb4 hs4 hg4 o1 k1;go_wp2_with (at_lookup;refine wpList_lookupV _ rfl _ _ 116 rfl 3 3 (int_keyed Tryz.underlying3) Tryz.underlying116 (.int .i64 0) (Tryz.zeroValue3 _) w.heap.size _ _ rfl hm4 _ _ rfl hKey ?_);clear hput hfn hm4
      go_loopg [6,81] N (fun m v6 v81 wq=>∃ (j:Nat),j<=N /\ m=N - j /\ v81=.int .i64 j /\ wq.ownsRow (w.heap.size+1) 134 2 v6 (out++(ns.take j).map (·,0)).length (flatK encIt (out++(ns.take j).map (·,0))) /\
       MapV Tryz.prog 3 wq w.heap.size (nm+1) (putV f (.int .i64 (S:Int)) (.int .i64 1)) /\ Below w.heap.size w wq /\ w.heap.size+1<=wq.heap.size)
      case atStart=>exact ⟨0,by omega,rfl,rfl,by simpa using H4.out.2.1,H4.out.1,H4.out.2.2.1,H4.out.2.2.2⟩
      case round =>
       obtain ⟨j,hj,hm,rfl,hown,hM,hb,hsz⟩:=hrel;obtain ⟨sb,sd,ev⟩:=own_shape hown;have hol:(out++(ns.take j).map (·,0)).length=out.length+j:=by
        rw [List.length_append,List.length_map,List.length_take,HNN.out];omega
       rw [hol] at hown ev;obtain ⟨L,hL⟩:∃ L,out.length+j=L:=⟨_,rfl⟩;rw [hL] at hown ev;subst ev
       by_cases hjN:j<N
       ·obtain ⟨q,hq⟩:∃ q,ns[j]?=some q:=⟨_,List.getElem?_eq_getElem (by have:=HNN.out;omega)⟩
        obtain ⟨vb,vo2,rfl,_,hvr⟩:=HN.out.2 (by rintro e;rw [e] at hq;simp at hq)
        have c:=hvr.cells j q hq 0 _ rfl;simp only [Nat.add_zero,Nat.mul_one] at c;have c:=(hb.cell (p:=⟨vb,vo2+j,none⟩) (World.block_lt_of_cell? _ _ c)).trans c;have hj0:(0:Int)<=(j:Int):=by omega
        have hjN1:(j:Int)<(N:Int):=by omega
        have hnext:out++(ns.take (j+1)).map (·,0)=(out++(ns.take j).map (·,0))++[(q,0)]:=by
         rw [List.take_add_one,hq];simp
        have hol2:(out++(ns.take (j+1)).map (·,0)).length=out.length+j+1:=by rw [hnext,List.length_append,hol];rfl
        have R:=Hd (An hm (An hown (An hM (An hb (An hsz (An hnext (An hol (An hol2 hL))))))));have hLb:L<=1002000:=by omega
        have hq1:q<1000:=by
         have h1:q∈ofS g (S:Int):=by rw [<- HN.out.1];exact List.mem_of_getElem? hq
         obtain ⟨pq,h2,_⟩:=ofS_mem h1;have:=(List.getElem?_eq_some_iff.1 h2).1;omega
        have hsz':=hsz;clear hm hown hM hb hsz hq hvr hnext hol hol2 hL;obtain ⟨i0,hi,hz0,hz1,hz2⟩:=info_parts infoItem;go_wp2_with (at_builtin;go_loud (refine wpList_append_own _ rfl _ _ 132 rfl (w.heap.size+1) 134 i0 (.agg #[.int .i64 0,.int .i64 0]) 2 16 Tryz.underlying132 hi hz0 hz1 hz2 rfl (by decide) _ L _ rfl (R.out.2.1.alloc _) ⟨wr.heap.size,0,none⟩ 1 1 (encIt (q,0)) rfl rfl ?c1 ?c2 ?c3 ?c4 ?c5 ?_))
        case c1=>first | exact it_pair wr q _ | exact fun j u h=>h
        case c2=>exact encIt_one (q,0)
        case c3=>unfold maxLen;omega
        case c4=>omega
        case c5=>first | omega | (simp;omega)
        intro v' w5 hown5 hg5 _;have hne:∀ b,(Value.slice sb L sd).ownBlock=some b->w.heap.size+1<=b:=fun b hb=>(R.out.2.1.lt b hb).1
        have hb5:=(R.out.2.2.2.1.alloc (by have:=R.out.2.2.2.2.1;omega) _).grown hg5 (by have:=R.out.2.2.2.2.1;simp;omega) (fun b hb=>by have:=hne b hb;omega)
        have hm5:=(R.out.2.2.1.alloc (.cells #[.int .i64 (q:Int),.int .i64 0] 134)).grown hg5 (by intro e;have:=hne _ e.symm;omega)
        have hs5:w.heap.size+1<=w5.heap.size:=by have:=hg5.size;have:=R.out.2.2.2.2.1;simp at *;omega
        have R5:=Hd (An hown5 (An hm5 (An hb5 hs5)));clear hown5 hg5 hne hb5 hm5 hs5;go_wp2_with fail
        go_roundg (N - (j+1))
        case measure=>have:=R.out.1;omega
        case rel =>
         refine ⟨j+1,by omega,rfl,rfl,?_,R5.out.2.1,R5.out.2.2.1,R5.out.2.2.2⟩
         have h1:=R5.out.1;rw [<- List.map_take] at h1;rw [R.out.2.2.2.2.2.2.2.1,R.out.2.2.2.2.2.1,<- flatK_snoc,R.out.2.2.2.2.2.2.2.2];exact h1
       ·obtain rfl:j=N:=by omega
        have R:=Hd (An hown (An hM (An hb (An hsz hL))));clear hm hown hM hb hsz hol hL;go_wp2_with fail
        go_roundg (l.length+g.prods.length - (i+1))
        case measure=>have:=A.out.1;omega
        case rel =>
         have hst:=A.out.2.at_.step HX.out.1;have hse:closeSeen g seen (n,d)=(S:Int)::seen:=by unfold closeSeen;rw [HK.out.2.1];simp [HK.out.1,HK.out.2.2,hin]
         have hoe:closeOut g seen out (n,d)=out++(ofS g (S:Int)).map (·,0):=by unfold closeOut;rw [HK.out.2.1];simp [HK.out.1,HK.out.2.2,hin]
         rw [hse,hoe] at hst;have hlen:(out++(ofS g (S:Int)).map (·,0)).length=L:=by
          rw [<- HN.out.1,List.length_append,List.length_map,HNN.out];exact R.out.2.2.2.2
         refine ⟨i+1,(S:Int)::seen,out++(ofS g (S:Int)).map (·,0),nm+1,_,rfl,rfl,hst,?_,R.out.2.1,by omega,A.out.2.seen.new hin,R.out.2.2.1,R.out.2.2.2.1⟩
         have h1:=R.out.1;rw [<- HNN.out,List.take_length,HN.out.1] at h1;rw [hlen];exact h1
    ·have hkn:(s.kind != 1)=true:=by simp [hk]
     clear hk;go_wp2_with fail
     go_quiet (fail)
     go_wp2_with fail
     go_roundg (l.length+g.prods.length - (i+1))
     case measure=>have:=A.out.1;omega
     case rel =>
      have hk:s.kind≠1:=by simpa using hkn
      have hah:aheadF g (n,d)=some s:=by unfold aheadF;rw [HX.out.2.2.1];exact HS.out.1
      exact ⟨i+1,seen,out,nm,f,rfl,rfl,A.out.2.next HX.out.1 (by unfold closeSeen;rw [hah];simp [hk]) (by unfold closeOut;rw [hah];simp [hk]) (below_drewN H2.out.1 _)⟩
  ·obtain rfl:i=out.length:=by omega
   have hie:((out.length:Int)==(out.length:Int))=true:=by simp
   have hsort:=fun W h=>sort_any out (w.heap.size+1) (.slice sa out.length sc) W h (by omega)
   have hcl:=A.out.2.at_.done rfl;have hlen:(sortIt out).length=out.length:=(sortIt_perm out).length_eq;have hcomp:=fun W h=>compact_any (sortIt out) (w.heap.size+1) (.slice sa out.length sc) W h (by omega)
   have HE:=Hd (An hcl hlen);clear hcl hlen;go_wp2_with fail
   refine (hsort _ A.out.2.own).mono ?_;rintro e w2 ⟨rfl,ho2,hg2⟩;have HS:=Hd (An ho2 hg2);clear ho2 hg2 hsort;go_wp2_with fail
   refine (hcomp _ HS.out.1).mono ?_;rintro e w3 ⟨v3,rfl,ho3,hg3⟩;have HT:=Hd (An ho3 hg3);clear ho3 hg3 hcomp;go_wp2_with fail
   rw [Exit.noGoto_ret]
   go_ret
   have hne:∀ b,(Value.slice sa out.length sc).ownBlock=some b->w.heap.size<=b:=fun b hb=>by have:=(A.out.2.own.lt b hb).1;omega
   refine ⟨_,rfl,?_,?_⟩
   ·rw [HE.out.1]
    exact HT.out.1.tyLow (Nat.le_succ _)
   ·have h1:=A.out.2.below.grown HS.out.2 A.out.2.below.size hne
    exact h1.grown HT.out.2 h1.size hne
end Go.Proofs.YthiochcpmfkgcaaGreatDoor.Tb
