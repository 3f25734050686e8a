/- Walks and plain laws that the last text stands on: GlMay. -/
import Derived.Test.YthiochcpmfkgcaaGreatDoorSo24
set_option linter.unusedVariables false
set_option linter.unusedSimpArgs false
set_option maxRecDepth 100000
set_option maxHeartbeats 16000000
namespace Go.Proofs.YthiochcpmfkgcaaGreatDoor.Gl
open Go Go.RowKit Go.Proofs Go.Maps Mx Tb
theorem sliceK_take {α:Type} {D:Nat->Prop} {en:α->List Value} {k:Nat} {w:World} {a:Option Addr} {n c:Nat} {l:List α} (h:SliceK D en k w (.slice a n c) l) {m:Nat} (hm:m<=l.length):SliceK D en k w (.slice a m c) (l.take m):=by
 obtain ⟨a',c',e,h1,h2,h3⟩:=h;injection e with e1 e2 e3;subst e1 e3;have hl:(l.take m).length=m:=by rw [List.length_take];omega
 refine ⟨a,c,by rw [hl],by omega,h2,fun hne=>?_⟩;obtain ⟨g,o,e,hd,hr⟩:=h3 (by rintro rfl;simp at hne);refine ⟨g,o,e,hd,hr.lt,fun i x hi j v hv=>hr.cells i x ?_ j v hv⟩;have hi2:=(gS.1 hi).1;rw [List.getElem?_take_of_lt (by omega)] at hi;exact hi
theorem prodsAt_below {w w':World} {v:Value} {ps:List Pr} (h:ProdsAt (fun _=>True) w v ps) (hb:Below w.heap.size w w'):ProdsAt (fun _=>True) w' v ps:=h.keep fun g hg hl=>⟨hg,hb.block g hl⟩
theorem good_sys {g:Gr} (hg:Tb.Good g) {q:Pr} (hq:q∈g.prods):SysOk g.sorts.length q.right:=fun y hy=>by
 rcases hg.sym q hq y hy with h | h
 ·exact .inl h.1
 ·exact .inr ⟨h.1,h.2.2⟩
theorem SysOk.take {S:Nat} {R:List Sy} (h:SysOk S R) (k:Nat):SysOk S (R.take k):=fun y hy=>h y (List.mem_of_mem_take hy)
theorem may_any (g:Gr) (hg:Tb.Good g) (txt:List UInt8) (hn:txt.length<=100000) (A:Int) (sv pv fv lv:Value) (w:World) (hsv:SliceK (fun _=>True) Tb.encS 1 w sv g.sorts) (hpv:ProdsAt (fun _=>True) w pv g.prods) :
  Calls Tryz.prog 21 #[.agg #[sv,pv,.int .i64 g.start,fv,lv],.string ⟨txt.toArray⟩,.int .i64 A] w fun e w'=>∃ (t:Tbl) (a:Tba),RefOk g txt t a /\ e=.returned (.bool (mayR g txt t a A)) /\ Below w.heap.size w w':=by
 obtain ⟨sa,sc,rfl⟩:=slice_shape hsv;obtain ⟨pa,pc,rfl⟩:=prodsAt_shape hpv;obtain ⟨tb,htb⟩:∃ tb:ByteArray,(⟨txt.toArray⟩:ByteArray)=tb:=⟨_,rfl⟩;have htz:txt.length=tb.size:=by rw [<- htb,ba_len]
 rw [htb];have hnz:tb.size<=100000:=by rw [<- htz];exact hn
 have HH:=Z6.mk hg hsv hpv htz htb hn;have hS:=hg.sorts;obtain ⟨S,hSd⟩:=eX g.sorts.length;obtain ⟨gs,hgs⟩:=eX g.start;obtain ⟨NP,hNP⟩:=eX g.prods.length;have HSd:=Z3.mk hSd hgs hNP;have hNPl:=hg.prods;rw [hNP] at hNPl;rw [hSd] at hS;rw [hSd,hNP,hgs];clear hg hsv hpv htz htb hSd hgs hNP hn;go_enter Tryz.func21,Tryz.ntmps21;go_upto_region 1 with fail
 have hGB:Blk (w.alloc (.cells #[.slice sa S sc,.slice pa NP pc,.int .i64 gs,fv,lv] 27)) w.heap.size 27 #[.slice sa S sc,.slice pa NP pc,.int .i64 gs,fv,lv]:=Blk.new _ _ _;have hb0:Below w.heap.size w (w.alloc (.cells #[.slice sa S sc,.slice pa NP pc,.int .i64 gs,fv,lv] 27)):=(bR _ _).alloc (nR _) _;generalize (w.alloc (.cells #[.slice sa S sc,.slice pa NP pc,.int .i64 gs,fv,lv] 27))=w1 at hGB hb0 ⊢;obtain ⟨nb,hnb⟩:=eX w.heap.size;rw [hnb] at hGB ⊢;obtain ⟨z0,z1,z2,z3,z4,zf⟩:=gfacts5 hGB;have htab:=table_any g HH.o1 txt HH.o6 _ _ fv lv w1 (HH.o2.all hb0) (prodsAt_below HH.o3 hb0);rw [HH.o5,HSd.o1,HSd.o2,HSd.o3] at htab;have H1:=Z4.mk hGB hb0 hnb htab;clear hGB hb0 hnb htab;go_wp2_with fail
 refine H1.o4.mono ?_;rintro e w2 ⟨t,tt,tmid,trow,rfl,hsn,hok,hT,hb2⟩;have hGB:=H1.o1.below hb2 H1.o1.lt;obtain ⟨z0,z1,z2,z3,z4,zf⟩:=gfacts5 hGB;have hb02:=H1.o2.trans (hb2.mono H1.o2.size);have hst:=starts_any g HH.o1 txt HH.o6 _ _ fv lv w2 (HH.o2.all hb02) (prodsAt_below HH.o3 hb02) t tt tmid trow (by rw [HSd.o1];exact hT) hok hsn;rw [HH.o5,HSd.o1,HSd.o2,HSd.o3] at hst;have H2:=Z4.mk hGB hb02 hT hst;clear hGB hb2 hb02 hst hT hok hsn;go_wp2_with fail
 refine H2.o4.mono ?_;rintro e w3 ⟨a,ta,mid,rfl,hrf,hA,hb3⟩;have hb03:=H2.o2.trans (hb3.mono H2.o2.size);have H3:=Z5.mk (H2.o1.below hb3 H2.o1.lt) hb03 (H2.o3.below hb3) hA hrf;clear hb3 hb03 hA hrf z0 z1 z2 z3 z4 zf;go_upto_region 5 with fail
 go_loopg [10] NP (fun mm v10 wr=>∃ (p:Nat),p<=NP /\ mm=NP - p /\ v10=.int .i64 p /\ NoMay g txt t a A p 0 0 /\ Below w3.heap.size w3 wr)
 case atStart=>exact ⟨0,Nat.zero_le _,rfl,rfl,NoMay.start g txt t a A,bR _ _⟩
 case round =>
  obtain ⟨p,hp,hm,rfl,hno,hbr⟩:=hrel;have hGB:=H3.o1.below hbr H3.o1.lt
  by_cases hlt:p<NP
  ·obtain ⟨q,hq⟩:∃ q,g.prods[p]?=some q:=⟨_,gE (by rw [HSd.o3];exact hlt)⟩;obtain ⟨pc2,b,o,ra,rc,epv,hbl,hrk,hpc⟩:=prodsAt_at HH.o3 hq;injection epv with e1 e2 e3;subst e1 e3;clear e2;have hqm:=gM hq;have hlow:Below w.heap.size w wr:=H3.o2.trans (hbr.mono H3.o2.size);obtain ⟨f0,f1,f2,f3,f4,f5,f6⟩:=hpc wr hlow;obtain ⟨hl0,hl1⟩:=HH.o1.left q hqm;have hrl:=HH.o1.right q hqm;obtain ⟨ln,hln⟩:∃ ln:Nat,q.left=ln:=⟨q.left.toNat,by omega⟩
   have hlS:ln<S:=by rw [HSd.o1] at hl1;omega
   have hsym:=HH.o1.sym q hqm;have hsys:=good_sys HH.o1 hqm;rw [HSd.o1] at hsym hsys;obtain ⟨z0,z1,z2,z3,z4,zf⟩:=gfacts5 hGB;have hp0:(0:Int)<=p:=by omega
   have hp1:(p:Int)<NP:=by omega
   obtain ⟨rl,hrld⟩:=eX q.right.length;obtain ⟨ro,hro⟩:=eX q.role;have hrk2:=hrk;rw [hln] at f0;rw [hrld] at f1 hrl hrk2;rw [hro] at f3;have HB:=Z11.mk hm hno hbr hq hrk2 hln hsym hsys hrld hro hl0;clear hm hno hq hrk hrk2 hln hsym hsys hrld hro hl0 hl1 hpc hlow hqm hbl hGB;go_upto_region 8 with fail
   have hP:Blk (wr.alloc (.cells #[.int .i64 ln,.slice ra rl rc,.string ⟨q.cons.toArray⟩,.int .i64 ro,.bool q.prefer,.bool q.avoid,.int .i64 q.made] 53)) wr.heap.size 53 #[.int .i64 ln,.slice ra rl rc,.string ⟨q.cons.toArray⟩,.int .i64 ro,.bool q.prefer,.bool q.avoid,.int .i64 q.made]:=Blk.new _ _ _;have hb4:Below wr.heap.size wr (wr.alloc (.cells #[.int .i64 ln,.slice ra rl rc,.string ⟨q.cons.toArray⟩,.int .i64 ro,.bool q.prefer,.bool q.avoid,.int .i64 q.made] 53)):=(bR _ wr).alloc (nR _) _;generalize (wr.alloc (.cells #[.int .i64 ln,.slice ra rl rc,.string ⟨q.cons.toArray⟩,.int .i64 ro,.bool q.prefer,.bool q.avoid,.int .i64 q.made] 53))=w4 at hP hb4 ⊢;obtain ⟨pcs,hpcs⟩:∃ pcs:Array Value,#[.int .i64 ln,.slice ra rl rc,.string ⟨q.cons.toArray⟩,.int .i64 ro,.bool q.prefer,.bool q.avoid,.int .i64 q.made]=pcs:=⟨_,rfl⟩;have x3:=hP.cell 3;simp at x3;have hpc0:pcs[0]?=some (.int .i64 ln):=by rw [<- hpcs];rfl
   have hpc1:pcs[1]?=some (.slice ra rl rc):=by rw [<- hpcs];rfl
   rw [hpcs] at hP;obtain ⟨pb,hpb⟩:=eX wr.heap.size;have hb34:=hbr.trans (hb4.mono hbr.size);rw [hpb] at hP x3 ⊢;have HQ:=Z4.mk hP hpc0 hpc1 hb34;clear hP hb4 hpcs hpc0 hpc1 hb34 hpb hbr f0 f1 f2 f3 f4 f5 f6 z0 z1 z2 z3 z4 zf
   by_cases hr:ro=11
   ·have hno2:=HB.o2.skip HB.o4 (by rw [HB.o10];exact hr);have HR:=Hd hno2;clear hno2;go_wp2_with fail
    go_roundg (NP - (p+1))
    case measure=>have:=HB.o1;omega
    case rel=>exact ⟨p+1,by omega,rfl,rfl,HR.out,HQ.o4⟩
   ·have hr2:(ro==11)=false:=beq_eq_false_iff_ne.2 hr;go_upto_region 10 with fail
    clear x3 hr2
    go_loopg [12] (tb.size+1) (fun mm v12 wr=>∃ (i:Nat),i<=tb.size+1 /\ mm=tb.size+1 - i /\ v12=.int .i64 i /\ NoMay g txt t a A p i 0 /\ Below w3.heap.size w3 wr /\ Blk wr pb 53 pcs)
    case atStart=>exact ⟨0,Nat.zero_le _,rfl,rfl,HB.o2,HQ.o4,HQ.o1⟩
    case round =>
     obtain ⟨i,hi,hm,rfl,hno,hbr,hP⟩:=hrel
     by_cases hil:i<=tb.size
     ·have hi0:(0:Int)<=i:=by omega
      have hi1:(i:Int)<=tb.size:=by omega
      have hi2:(i:Int)<tb.size+1:=by omega
      have hl0:(0:Int)<=ln:=by omega
      have hl1:(ln:Int)<S:=by omega
      have hAr:=H3.o4.below hbr;rw [HH.o4] at hAr;have c0:=hAr.top.cell hlS;have c1:=(hAr.rows ln hlS).cell (i:=i) (by omega);have x0:=(hP.cell 0).trans HQ.o2;have x1:=(hP.cell 1).trans HQ.o3;obtain ⟨b1,hb1⟩:=eX (a (ln:Int) i);rw [hb1] at c1;have HI2:=Z5.mk hm hno hbr hP hb1;clear hm hno hbr hP hb1 hAr
      cases b1 with
      | false =>
       have hno2:=HI2.o2.pass HB.o4 (by rw [HB.o6];exact HI2.o5);have HR:=Hd hno2;clear hno2;go_wp2_with fail
       go_roundg (tb.size+1 - (i+1))
       case measure=>have:=HI2.o1;omega
       case rel=>exact ⟨i+1,by omega,rfl,rfl,HR.out,HI2.o3,HI2.o4⟩
      | true =>
       go_upto_region 14 with fail
       clear c0 c1 x0 x1
       go_loopg [13] rl (fun mm v13 wr=>∃ (k:Nat),k<=rl /\ mm=rl - k /\ v13=.int .i64 k /\ NoMay g txt t a A p i k /\ Below w3.heap.size w3 wr /\ Blk wr pb 53 pcs)
       case atStart=>exact ⟨0,Nat.zero_le _,rfl,rfl,HI2.o2,HI2.o3,HI2.o4⟩
       case round =>
        obtain ⟨k,hk,hm,rfl,hno,hbr,hP⟩:=hrel
        by_cases hkl:k<rl
        ·obtain ⟨y,hy⟩:∃ y,q.right[k]?=some y:=⟨_,gE (by rw [HB.o9];exact hkl)⟩;have hyk:=HB.o7 y (gM hy);have hlow:Below w.heap.size w wr:=H3.o2.trans (hbr.mono H3.o2.size);have hrv:=HB.o5.all hlow;obtain ⟨a1,c1,er,hcl,_,hkk⟩:=id hrv;injection er with r1 r2 r3;subst r1 r3;clear r2;obtain ⟨rg,ro2,rfl,_,hrk⟩:=hkk (by intro h;rw [h] at hy;simp at hy)
         have g0:=hrk.cells k y hy 0 _ rfl;have g5:=hrk.cells k y hy 5 _ rfl;rw [Nat.add_zero] at g0;have hk0:(0:Int)<=k:=by omega
         have hk1:(k:Int)<rl:=by omega
         have hkc:(k:Int)<=rc:=by rw [HB.o9] at hcl;omega
         have x1:=(hP.cell 1).trans HQ.o3;have hdv:Calls Tryz.prog 42 #[.slice (some ⟨tt,0,none⟩) S S,.string tb,.slice (some ⟨rg,ro2,none⟩) k rc,.int .i64 0,.int .i64 i,.int .i64 tb.size] wr fun e w'=>e=.returned (.bool (derivesF t txt (q.right.take k) i txt.length)) /\ Below wr.heap.size wr w':=by
          have hq1:=HB.o9;have h:=derives_any txt HH.o6 S (by omega) t tt tmid trow (q.right.take k) (by rw [List.length_take];omega) (HB.o8.take k) (.slice (some ⟨rg,ro2,none⟩) k rc) (q.right.take k).length 0 (by omega) i txt.length wr (by have:=HH.o4;omega) (nR _) (H3.o3.below hbr) (sliceK_take hrv (by omega));rw [HH.o5,List.drop_zero,HH.o4] at h;rw [HH.o4];exact h
         obtain ⟨b2,hb2⟩:=eX (derivesF t txt (q.right.take k) i txt.length);rw [hb2] at hdv;obtain ⟨sk,sM,so⟩:=y;simp only at g0 g5 hyk;have hb3r:=HI2.o3;have HK:=Z8.mk hm hno hbr hP hy hdv hb2 hlow;have hk01:sk=0∨sk=1:=by rcases hyk with h | h;exact .inl h.1;exact .inr h.1
         clear hm hno hbr hP hy hyk hkk hrk hlow hrv hdv hb2 hcl hb3r
         by_cases h1:sk=1
         ·subst h1;clear hk01
          by_cases h2:so=A
          ·subst h2;go_wp2_with fail
           refine HK.o6.mono ?_;rintro e w5 ⟨rfl,hb5⟩;have hb35:=HK.o3.trans (hb5.mono HK.o3.size);have hP5:=HK.o4.below hb5 HK.o4.lt;clear g0 g5 x1
           cases b2 with
           | false =>
            have hno2:=HK.o2.seen HB.o4 HK.o5 (fun _ _=>HK.o7);have HR:=Z3.mk hno2 hb35 hP5;clear hno2 hb35 hP5 hb5;go_wp2_with fail
            go_roundg (rl - (k+1))
            case measure=>have:=HK.o1;omega
            case rel=>exact ⟨k+1,by omega,rfl,rfl,HR.o1,HR.o2,HR.o3⟩
           | true =>
            have hv:mayR g txt t a so=true:=mayR_iff.2 ⟨p,q,i,k,⟨1,sM,so⟩,HB.o4,by rw [HB.o10];exact hr,by have:=HH.o4;omega,by rw [HB.o6];exact HI2.o5,HK.o5,rfl,rfl,HK.o7⟩;have HR:=Z2.mk hv (H3.o2.trans (hb35.mono H3.o2.size));clear hv hb35 hP5 hb5;go_wp2_with fail
            go_ret;exact ⟨t,a,H3.o5,ret_bool HR.o1.symm,HR.o2⟩
          ·have hno2:=HK.o2.seen HB.o4 HK.o5 (fun _ h=>absurd h h2);have HR:=Hd hno2;have h3:(so==A)=false:=beq_eq_false_iff_ne.2 h2;clear hno2;go_wp2_with fail
           go_roundg (rl - (k+1))
           case measure=>have:=HK.o1;omega
           case rel=>exact ⟨k+1,by omega,rfl,rfl,HR.out,HK.o3,HK.o4⟩
         ·have hz:sk=0:=hk01.resolve_right h1;subst hz;have hno2:=HK.o2.seen HB.o4 HK.o5 (fun h _=>absurd h h1);have HR:=Hd hno2;clear hno2 hk01 h1;go_wp2_with fail
          go_roundg (rl - (k+1))
          case measure=>have:=HK.o1;omega
          case rel=>exact ⟨k+1,by omega,rfl,rfl,HR.out,HK.o3,HK.o4⟩
        ·obtain rfl:k=rl:=by omega
         have hkz:¬ ((k:Int)<k):=by omega
         have x1:=(hP.cell 1).trans HQ.o3;have hno2:=hno.row HB.o4 (by rw [HB.o9];exact nR _);have HR:=Z3.mk hno2 hbr hP;clear hno2 hno hbr hP hm;go_wp2_with fail
         go_roundg (tb.size+1 - (i+1))
         case measure=>have:=HI2.o1;omega
         case rel=>exact ⟨i+1,by omega,rfl,rfl,HR.o1,HR.o2,HR.o3⟩
     ·obtain rfl:i=tb.size+1:=by omega
      have hiz:¬ ((tb.size:Int)+1<=(tb.size:Int)):=by omega
      rw [<- HH.o4] at hno;have HR:=Z2.mk hno.prod hbr;clear hno hbr hP hm;simp only [Int.natCast_add,Int.cast_ofNat_Int];go_wp2_with fail
      go_roundg (NP - (p+1))
      case measure=>have:=HB.o1;omega
      case rel=>exact ⟨p+1,by omega,rfl,rfl,HR.o1,HR.o2⟩
  ·obtain rfl:p=NP:=by omega
   have hpz:¬ ((p:Int)<p):=by omega
   have x1:=hGB.cell 1;simp at x1;have hv:=hno.done (by rw [HSd.o3];exact nR _);have HR:=Z2.mk hv (H3.o2.trans (hbr.mono H3.o2.size));clear hv hno hbr hm hGB;go_wp2_with fail
   go_ret;exact ⟨t,a,H3.o5,ret_bool HR.o1.symm,HR.o2⟩
end Go.Proofs.YthiochcpmfkgcaaGreatDoor.Gl
