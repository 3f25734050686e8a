/- Walks and plain laws that the last text stands on: GlBound. -/
import Derived.Test.YthiochcpmfkgcaaGreatDoorBo23
import Derived.Test.YthiochcpmfkgcaaGreatDoorBo20
import Derived.Test.YthiochcpmfkgcaaGreatDoorBo14
set_option linter.unusedVariables false
set_option linter.unusedSimpArgs false
set_option maxRecDepth 100000
set_option maxHeartbeats 16000000
namespace Go.Proofs.YthiochcpmfkgcaaGreatDoor.Gl
open Go Go.RowKit Go.Proofs Go.Maps Go.WideMaps Mx Tb
def boundR (g:Gr) (n:Int):Int × Int :=
 match askF g [] with
 | (e,none)=>(0,e)
 | (_,some l)=>if n<0∨4096<n then (0,2) else (boundI g l n.toNat,0)
def leadsU (sm:List SM) (i:Nat):Nat:=((sm.take i).map (·.edges.length)).sum
theorem leadsU_all (sm:List SM):leadsU sm sm.length=leadsN (sm.map toSt):=by
 unfold leadsU leadsN;rw [List.take_length,List.map_map]
 rfl
theorem leadsU_succ {sm:List SM} {i:Nat} {s:SM} (h:sm[i]?=some s):leadsU sm (i+1)=leadsU sm i+s.edges.length:=by
 unfold leadsU;rw [List.take_add_one,h];simp
theorem leadsU_le {sm:List SM} (h:∀ s∈sm,s.edges.length<=2000):∀ i,leadsU sm i<=2000 * i
 | 0=>by simp [leadsU]
 | i+1=>by
  have ih:=leadsU_le h i
  cases hs:sm[i]? with
  | none =>
   unfold leadsU at ih ⊢;rw [List.take_add_one,hs];simp at ih ⊢;omega
  | some s =>
   rw [leadsU_succ hs];have:=h s (List.mem_of_getElem? hs);omega
def sumU (n:Nat) (l:List Pr) (i:Nat) (s:Int):Int:=sumI n (l.take i) s
theorem sumU_succ {n:Nat} {l:List Pr} {i:Nat} {q:Pr} {s:Int} (h:l[i]?=some q):sumU n l (i+1) s=if q.role=11 then sumU n l i s else plusI (sumU n l i s) (rowI (n+q.right.length+1) (q.right.length+1)):=by
 unfold sumU sumI;rw [List.take_add_one,h,List.foldl_append]
 rfl
def KnownF (n:Nat) (f:Lit->Option Value):Prop:=∀ k:Nat,f (.int .i64 (k:Int))=none∨f (.int .i64 (k:Int))=some (.int .i64 (rowI (n+k+1) (k+1)))
theorem bres (tmps:Array Value) (w:World) (x y:Int) (h4:tmps.getD 4 undef=.int .i64 x) (h5:tmps.getD 5 undef=.int .i64 y) :
  (results Tryz.f22 tmps).run Tryz.prog w=.ok (.tuple #[.int .i64 x,.int .i64 y]) w:=by
 simp at h4 h5;simp [results,Tryz.results22,h4,h5,go_sem]
theorem bound_any (g:Gr) (p:RP) (w:World) (h:GrW g p w) (n:Int) :
  Calls Tryz.prog 22 #[.agg #[p.sv,p.pv,.int .i64 p.st,p.fv,p.lv],.int .i64 n] w fun e w'=>e=.returned (.tuple #[.int .i64 (boundR g n).1,.int .i64 (boundR g n).2]) /\ Below w.heap.size w w':=by
 have hmm:=@run_makeMap Tryz.prog;obtain ⟨sa,sc,hsv⟩:=slice_shape h.sorts;obtain ⟨pa,pc,hpv⟩:=prodsAt_shape h.prods;obtain ⟨fa,fn,fc,hf⟩:=h.fv;obtain ⟨la,ln,lc,hl⟩:=h.lv;have hP:GrW g ⟨.slice sa g.sorts.length sc,.slice pa g.prods.length pc,p.st,.slice fa fn fc,.slice la ln lc,p.tv,[]⟩ w:=⟨h.start,hsv ▸ h.sorts,hpv ▸ h.prods,⟨_,_,_,rfl⟩,⟨_,_,_,rfl⟩,h.good,h.env,by have:=h.chk;rw [hsv,hpv,hf,hl] at this;exact this,by simp⟩
 rw [hsv,hpv,hf,hl];obtain ⟨st,hst⟩:∃ st,p.st=st:=⟨_,rfl⟩;obtain ⟨ptv,hptv⟩:∃ t,p.tv=t:=⟨_,rfl⟩;rw [hst,hptv] at hP;rw [hst];have hb0:=(Below.refl w.heap.size w).alloc (Nat.le_refl _) (.cells #[.slice sa g.sorts.length sc,.slice pa g.prods.length pc,.int .i64 st,.slice fa fn fc,.slice la ln lc] 27);have hB0:=Blk.new w 27 #[.slice sa g.sorts.length sc,.slice pa g.prods.length pc,.int .i64 st,.slice fa fn fc,.slice la ln lc];have HH:=Hd (An hP (An hb0 hB0));clear h hsv hpv hf hl hP hb0 hB0 hst hptv;obtain ⟨R,hR⟩:∃ R,boundR g n=R:=⟨_,rfl⟩;rw [hR];obtain ⟨R1,R2⟩:=R;have HRR:=Hd hR;clear hR
 go_enter Tryz.func22,Tryz.ntmps22
 go_wp2_with fail
 have hask:=asked_any g _ _ (HH.out.1.below HH.out.2.1);refine hask.mono ?_;clear hask;intro e w1 hT;simp only at hT;obtain ⟨A,hA⟩:∃ A,askF g []=A:=⟨_,rfl⟩;rw [hA] at hT;obtain ⟨en,o⟩:=A;have hen:o=none->en≠0:=fun ho hz=>by
  subst ho hz;unfold askF at hA
  split at hA
  ·split at hA
   ·cases hA
   ·split at hA <;> cases hA
  ·cases hA
 cases o with
 | none =>
  obtain ⟨rfl,hb1⟩:=hT;have hne:=hen rfl;have HB:=Hd (An (HH.out.2.1.trans (hb1.mono HH.out.2.1.size)) hA);clear hb1 hA hen;go_wp2_with fail
  refine bodyPost_ret (bres _ _ 0 en (by rfl) (by rfl)) rfl ?_
  have h1:=HRR.out;unfold boundR at h1;rw [HB.out.2] at h1
  cases h1
  exact ⟨rfl,HB.out.1⟩
 | some l =>
  obtain ⟨tb,B,sm,rfl,rfl,hTW,hnx,hb1⟩:=hT;have hen0:en=0 /\ chkN g=0 /\ makeF g=some (sm.map toSt):=by
   unfold askF at hA
   split at hA
   ·next hc =>
    split at hA
    ·cases hA
    ·split at hA
     ·cases hA
     ·next hm=>cases hA;exact ⟨rfl,hc,hm⟩
   ·cases hA
  obtain ⟨rfl,hck,hmk⟩:=hen0;have hb1':=HH.out.2.1.trans (hb1.mono HH.out.2.1.size);have hB1:=HH.out.2.2.below hb1 HH.out.2.2.lt;have H1:=Hd (An hTW (An hb1' (An hB1 (An hA (An hck hmk)))));clear hTW hnx hb1 hb1' hB1 hA hen hck hmk;have hbad:(n<0∨4096<n)->R1=0 /\ R2=2:=fun hc=>by
   have h1:=HRR.out;unfold boundR at h1;rw [H1.out.2.2.2.1] at h1;simp only [if_pos hc] at h1
   cases h1
   exact ⟨rfl,rfl⟩
  by_cases c0:n<0
  ·obtain ⟨rfl,rfl⟩:=hbad (.inl c0)
   clear hbad;go_wp2_with fail
   exact bodyPost_ret (bres _ _ 0 2 (by rfl) (by rfl)) rfl ⟨rfl,H1.out.2.1⟩
  by_cases c1:4096<n
  ·obtain ⟨rfl,rfl⟩:=hbad (.inr c1)
   clear hbad;go_wp2_with fail
   exact bodyPost_ret (bres _ _ 0 2 (by rfl) (by rfl)) rfl ⟨rfl,H1.out.2.1⟩
  clear hbad;have hgood:R1=boundI g (sm.map toSt) n.toNat /\ R2=0:=by
   have h1:=HRR.out;unfold boundR at h1;rw [H1.out.2.2.2.1] at h1;simp only [if_neg (show ¬ (n<0∨4096<n) by omega)] at h1
   cases h1
   exact ⟨rfl,rfl⟩
  obtain ⟨m,rfl⟩:∃ m:Nat,n=m:=⟨n.toNat,by omega⟩
  rw [Int.toNat_natCast] at hgood;have hm:m<=4096:=by omega
  have HG:=Hd hgood;clear hgood;go_wp2_with fail
  refine (states_any g B _ sm w1 (.inr ⟨tb,rfl,H1.out.1⟩)).mono ?_;rintro e w2 ⟨rfl,hw2⟩;rw [hw2];clear hw2;have hsl:=H1.out.1.many;have hE:∀ s∈sm,s.edges.length<=2000:=fun s hs=>gedges (HH.out.1.good H1.out.2.2.2.2.1) (Tb.makeF_law H1.out.2.2.2.2.2) (s:=toSt s) (List.mem_map.2 ⟨s,hs,rfl⟩)
  have hUl:=leadsU_le hE;have HE:=Hd (An hE hUl);clear hE hUl
  go_upto_region 8 with fail
  go_loopg [8,35] sm.length (fun mm v8 v35 wr=>∃ i:Nat,i<=sm.length /\ mm=sm.length - i /\ v35=.int .i64 (i:Int) /\ v8=.int .i64 ((leadsU sm i:Nat):Int) /\ Below w1.heap.size w1 wr)
  case atStart=>exact ⟨0,Nat.zero_le _,rfl,rfl,by simp [leadsU],Below.refl _ _⟩
  case round =>
   obtain ⟨i,hi,hmm2,rfl,rfl,hbr⟩:=hrel;have hul:=HE.out.2 i
   by_cases hlt:i<sm.length
   ·obtain ⟨s,hs⟩:∃ s,sm[i]?=some s:=⟨_,List.getElem?_eq_getElem hlt⟩
    have hel:=HE.out.1 s (List.mem_of_getElem? hs);have hld:=leads_any g B (.pointer (some ⟨tb,0,none⟩)) sm (i:Int) wr (TabP.below (.inr ⟨tb,rfl,H1.out.1⟩) hbr);have hse:(stAt sm (i:Int)).edges.length=s.edges.length:=by rw [stAt_get,hs];rfl
    rw [hse] at hld;have hsu:=leadsU_succ hs;obtain ⟨E,hEE⟩:∃ E,s.edges.length=E:=⟨_,rfl⟩;obtain ⟨U,hU⟩:∃ U,leadsU sm i=U:=⟨_,rfl⟩;rw [hEE] at hld hel hsu;rw [hU] at hul hsu ⊢;have hi0:(i:Int)<(sm.length:Int):=by omega
    have HR:=Hd (An hmm2 (An hbr hsu));have HL:=Hd hld;clear hmm2 hbr hsu hld hse hs hEE hU;go_wp2_with fail
    refine HL.out.mono ?_;rintro e w3 ⟨rfl,hb3⟩;have HB:=Hd (HR.out.2.1.trans (hb3.mono HR.out.2.1.size));clear hb3;go_wp2_with fail
    go_roundg (sm.length - (i+1))
    case measure=>have:=HR.out.1;omega
    case rel=>exact ⟨i+1,by omega,rfl,rfl,by rw [HR.out.2.2];rfl,HB.out⟩
   ·obtain rfl:i=sm.length:=by omega
    obtain ⟨U,hU⟩:∃ U,leadsU sm sm.length=U:=⟨_,rfl⟩;rw [hU] at hul ⊢;obtain ⟨Q,hQ⟩:∃ Q:Nat,((m:Int)+1) * ((m:Int)+2)=(Q:Int):=⟨(m+1) * (m+2),by push_cast;rfl⟩
    have hQ2:Q=(m+1) * (m+2):=by
     have h1:((m:Int)+1) * ((m:Int)+2)=(((m+1) * (m+2):Nat):Int):=by push_cast;rfl
     rw [hQ] at h1;exact Int.ofNat_inj.1 h1
    have hQl:Q<=16789506:=by rw [hQ2];exact Nat.mul_le_mul (show m+1<=4097 by omega) (show m+2<=4098 by omega)
    have hUQ:U * (Q / 2)<=4611686018427387904:=Nat.le_trans (Nat.mul_le_mul (show U<=32768000 by omega) (show Q / 2<=8394753 by omega)) (by decide)
    have HQ:=Hd (An hQ2 (An hU (An hbr hUQ)));clear hQ2 hU hbr hUQ hmm2;have ht:=times_any U (Q / 2) wr HQ.out.2.2.2;rw [show ((Q / 2:Nat):Int)=(Q:Int) / 2 by omega] at ht
    obtain ⟨S0,hS0⟩:∃ S0:Int,((U * (Q / 2):Nat):Int)=S0:=⟨_,rfl⟩;rw [hS0] at ht;have HS:=Hd hS0;have HT:=Hd ht;clear hS0 ht;have hbw:=H1.out.2.1.trans (HQ.out.2.2.1.mono H1.out.2.1.size);have hBw:=H1.out.2.2.1.below HQ.out.2.2.1 H1.out.2.2.1.lt;have HW:=Hd (An hbw hBw);clear hbw hBw;go_wp2_with fail
    refine HT.out.mono ?_;rintro e w4 ⟨rfl,hw4⟩;rw [hw4];clear hw4
    go_upto_region 14 with fail
    have hM0:MapS Tryz.prog 3 (wr.alloc (.map #[] 0)) wr.heap.size 0 (fun _=>none):=MapS.made wr Tryz.prog 3
    have hbm:Below w.heap.size w (wr.alloc (.map #[] 0)):=HW.out.1.alloc HW.out.1.size _;have hBm:Blk (wr.alloc (.map #[] 0)) w.heap.size 27 #[.slice sa g.sorts.length sc,.slice pa g.prods.length pc,.int .i64 st,.slice fa fn fc,.slice la ln lc]:=HW.out.2.alloc _;have hmb:=HW.out.1.size;generalize wr.alloc (.map #[] 0)=wm at hM0 hbm hBm ⊢;obtain ⟨mb,hmbe⟩:∃ mb,wr.heap.size=mb:=⟨_,rfl⟩;rw [hmbe] at hM0 hmb ⊢;obtain ⟨z0,z1,z2,z3,z4,zf⟩:=gfacts5 hBm;have hpl:g.prods.length<=100:=(HH.out.1.good H1.out.2.2.2.2.1).prods;have HM:=Hd (An hM0 (An hbm hmb));clear hM0 hbm hBm hmbe hmb hQ hQl hul hi hsl
    go_upto_region 15 with fail
    clear z0 z1 z2 z3 z4 zf
    go_loopg [10,56] g.prods.length (fun mm v10 v56 wr=>∃ (i c:Nat) (f:Lit->Option Value),i<=g.prods.length /\ mm=g.prods.length - i /\ v56=.int .i64 (i:Int) /\ v10=.int .i64 (sumU m g.prods i S0) /\ MapS Tryz.prog 3 wr mb c f /\ c<=i /\ KnownF m f /\ Below w.heap.size w wr)
    case atStart=>exact ⟨0,0,fun _=>none,Nat.zero_le _,rfl,rfl,rfl,HM.out.1,Nat.le_refl _,fun k=>.inl rfl,HM.out.2.1⟩
    case round =>
     obtain ⟨i,c,f,hi,hmm3,rfl,rfl,hmap,hci,hkn,hbr⟩:=hrel
     by_cases hlt:i<g.prods.length
     ·obtain ⟨q,hq⟩:∃ q,g.prods[i]?=some q:=⟨_,List.getElem?_eq_getElem hlt⟩
      obtain ⟨cap,b,o,vr,epv,hbl,hvr,hpc⟩:=(HH.out.1.below hbr).prods.at_ hq;injection epv with e1 e2 e3;subst e1;subst e3;clear e2;obtain ⟨ra,rc,rfl,_,_,_⟩:=hvr;have f0:=hpc 0 _ rfl;rw [Nat.add_zero] at f0;have f1:=hpc 1 _ rfl;have f2:=hpc 2 _ rfl;have f3:=hpc 3 _ rfl;have f4:=hpc 4 _ rfl;have f5:=hpc 5 _ rfl;have f6:=hpc 6 _ rfl;have hrl:=(HH.out.1.good H1.out.2.2.2.2.1).right q (List.mem_of_getElem? hq);have hsu:=sumU_succ (n:=m) (s:=S0) hq;have hi0:(0:Int)<=(i:Int):=by omega
      have hi1:(i:Int)<(g.prods.length:Int):=by omega
      obtain ⟨S,hS⟩:∃ S,sumU m g.prods i S0=S:=⟨_,rfl⟩;rw [hS] at hsu ⊢;have HR:=Hd (An hmm3 (An hmap (An hci (An hkn (An hbr hsu)))));clear hmm3 hmap hkn hbr hsu hS hpc hq
      go_upto_region 17 with fail
      have hB5:Blk (wr.alloc (.cells #[.int .i64 q.left,.slice ra q.right.length rc,.string ⟨q.cons.toArray⟩,.int .i64 q.role,.bool q.prefer,.bool q.avoid,.int .i64 q.made] 53)) wr.heap.size 53 #[.int .i64 q.left,.slice ra q.right.length rc,.string ⟨q.cons.toArray⟩,.int .i64 q.role,.bool q.prefer,.bool q.avoid,.int .i64 q.made]:=Blk.new _ _ _;have hM5:=HR.out.2.1.alloc (.cells #[.int .i64 q.left,.slice ra q.right.length rc,.string ⟨q.cons.toArray⟩,.int .i64 q.role,.bool q.prefer,.bool q.avoid,.int .i64 q.made] 53);have hb5:=HR.out.2.2.2.2.1.alloc HR.out.2.2.2.2.1.size (.cells #[.int .i64 q.left,.slice ra q.right.length rc,.string ⟨q.cons.toArray⟩,.int .i64 q.role,.bool q.prefer,.bool q.avoid,.int .i64 q.made] 53);generalize wr.alloc (.cells #[.int .i64 q.left,.slice ra q.right.length rc,.string ⟨q.cons.toArray⟩,.int .i64 q.role,.bool q.prefer,.bool q.avoid,.int .i64 q.made] 53)=w5 at hB5 hM5 hb5 ⊢;obtain ⟨xp,hxp⟩:∃ xp,wr.heap.size=xp:=⟨_,rfl⟩;rw [hxp] at hB5 ⊢;have p3:=hB5.cell 3;have p1:=hB5.cell 1;simp only [List.getElem?_toArray,List.getElem?_cons_zero,List.getElem?_cons_succ] at p3 p1;have H5:=Hd (An hM5 hb5);clear hB5 hM5 hb5 hxp f0 f1 f2 f3 f4 f5 f6
      by_cases hr:q.role=11
      ·have hsu:=HR.out.2.2.2.2.2
       rw [if_pos hr] at hsu;have HSU:=Hd hsu;clear hsu;go_wp2_with fail
       go_roundg (g.prods.length - (i+1))
       case measure=>have:=HR.out.1;omega
       case rel=>exact ⟨i+1,c,f,by omega,rfl,rfl,by rw [HSU.out],H5.out.1,by have:=HR.out.2.2.1;omega,HR.out.2.2.2.1,H5.out.2⟩
      ·have hsu:=HR.out.2.2.2.2.2
       rw [if_neg hr] at hsu;obtain ⟨K,hK⟩:∃ K,q.right.length=K:=⟨_,rfl⟩;rw [hK] at hsu p1 hrl;have HSU:=Hd hsu;clear hsu hK;have hkey:=keyOf_int_mk (P:=Tryz.prog) (k:=3) Tryz.underlying3 (litN K (by omega))
       have hlk:=H5.out.1.look_ok (int_keyed Tryz.underlying3) Tryz.underlying116 (Tryz.zeroValue3 w5) hkey;have HKY:=Hd hkey;clear hkey
       rcases HR.out.2.2.2.1 K with hfk | hfk
       ·rw [hfk] at hlk
        simp only [Option.getD_none,Option.isSome_none] at hlk;have hch:=choose_any (m+K+1) (K+1) (by omega) (by omega) w5
        simp only [Int.natCast_add,Int.cast_ofNat_Int] at hch;have HCH:=Hd hch;clear hch;go_wp2_with fail
        refine HCH.out.mono ?_;rintro e w6 ⟨rfl,hb6⟩;have hM6:=H5.out.1.of_block (hb6.block mb H5.out.1.lt);have hb6':=H5.out.2.trans (hb6.mono H5.out.2.size);obtain ⟨w7,hrun,hm7,hg7⟩:=hM6.update (int_keyed Tryz.underlying3) Tryz.underlying116 (by unfold maxLen;have:=HR.out.2.2.1;omega) (val:=.int .i64 (rowI (m+K+1) (K+1))) HKY.out
        rw [hfk] at hm7;simp only [Option.isSome_none,Bool.false_eq_true,if_false] at hm7;have hb7:Below w.heap.size w w7:=hb6'.grown hg7 hb6'.size (fun k e=>by injection e with e;subst e;exact HM.out.2.2)
        have hput:=putV_same f (kl:=.int .i64 (K:Int)) (.int .i64 (rowI (m+K+1) (K+1))) ((int_keyed (P:=Tryz.prog) Tryz.underlying3).key HKY.out);have hl7:=hm7.lookup (int_keyed Tryz.underlying3) Tryz.underlying116 (Tryz.zeroValue3 w7) HKY.out;rw [hput] at hl7;simp only [Option.getD_some] at hl7;have H7:=Hd (An hm7 hb7);clear hM6 hb6 hb6' hm7 hb7 hput hg7 hlk;go_wp2_with fail
        refine (plus_any S (rowI (m+K+1) (K+1)) w7).mono ?_;rintro e w8 ⟨rfl,hw8⟩;rw [hw8];clear hw8 hl7 hrun;go_wp2_with fail
        go_roundg (g.prods.length - (i+1))
        case measure=>have:=HR.out.1;omega
        case rel =>
         refine ⟨i+1,c+1,_,by omega,rfl,rfl,by rw [HSU.out],H7.out.1,by have:=HR.out.2.2.1;omega,fun k=>?_,H7.out.2⟩
         rw [putV_int]
         by_cases hk:(k:Int)=(K:Int)
         ·obtain rfl:k=K:=by omega
          rw [if_pos rfl];exact .inr rfl
         ·rw [if_neg hk]
          exact HR.out.2.2.2.1 k
       ·rw [hfk] at hlk
        simp only [Option.getD_some,Option.isSome_some] at hlk;have hlk2:=H5.out.1.lookup (int_keyed Tryz.underlying3) Tryz.underlying116 (Tryz.zeroValue3 w5) HKY.out;rw [hfk] at hlk2;simp only [Option.getD_some] at hlk2;go_wp2_with fail
        refine (plus_any S (rowI (m+K+1) (K+1)) w5).mono ?_;rintro e w8 ⟨rfl,hw8⟩;rw [hw8];clear hw8 hlk hlk2;go_wp2_with fail
        go_roundg (g.prods.length - (i+1))
        case measure=>have:=HR.out.1;omega
        case rel=>exact ⟨i+1,c,f,by omega,rfl,rfl,by rw [HSU.out],H5.out.1,by have:=HR.out.2.2.1;omega,HR.out.2.2.2.1,H5.out.2⟩
     ·obtain rfl:i=g.prods.length:=by omega
      obtain ⟨S,hS⟩:∃ S,sumU m g.prods g.prods.length S0=S:=⟨_,rfl⟩;rw [hS];have HB:=Hd (An hbr hS);clear hmm3 hmap hkn hbr hS hci;go_wp2_with fail
      refine bodyPost_ret (bres _ _ S 0 (by rfl) (by rfl)) rfl ⟨?_,HB.out.1⟩
      rw [HG.out.1,HG.out.2,<- HB.out.2,<- HS.out,HQ.out.1,<- HQ.out.2.1,leadsU_all];unfold boundI sumU;rw [List.take_length]
end Go.Proofs.YthiochcpmfkgcaaGreatDoor.Gl
