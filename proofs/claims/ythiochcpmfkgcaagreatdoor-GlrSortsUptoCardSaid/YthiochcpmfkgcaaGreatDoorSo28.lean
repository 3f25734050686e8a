/- Walks and plain laws that the last text stands on: TbRChkC. -/
import Derived.Test.YthiochcpmfkgcaaGreatDoorSo27
import Derived.Test.YthiochcpmfkgcaaGreatDoorSo21
set_option linter.unusedVariables false
set_option linter.unusedSimpArgs false
set_option maxRecDepth 100000
set_option maxHeartbeats 16000000
namespace Go.Proofs.YthiochcpmfkgcaaGreatDoor.Tb
open Go Go.RowKit Go.Proofs Mx
def SortsUp (g:Gr) (i:Nat):Prop:=(g.sorts.take i).Nodup /\ ∀ s∈g.sorts.take i,s≠[] /\ s.length<=1000
theorem sortsB_no1 {g:Gr} {s:List UInt8} (hs:s∈g.sorts) (h:s=[]∨1000<s.length):sortsB g=false:=by
 cases h2:sortsB g with
 | false=>rfl
 | true =>
  have h3:=((sortsB_iff g).1 h2).each s hs
  rcases h with h | h
  ·exact absurd h h3.1
  ·omega
theorem sortsB_no0 {g:Gr} (h:g.sorts.length<1∨1000<g.sorts.length∨¬ (0<=g.start /\ g.start<(g.sorts.length:Int))):sortsB g=false:=by
 cases h2:sortsB g with
 | false=>rfl
 | true =>
  unfold sortsB at h2;simp only [Bool.and_eq_true,decide_eq_true_eq] at h2
  rcases h with h | h | h
  ·omega
  ·omega
  ·exact absurd ⟨h2.1.2,h2.2⟩ h
theorem prodsB_no0 {g:Gr} (h:1000<g.prods.length):prodsB g=false:=by
 cases h2:prodsB g with
 | false=>rfl
 | true =>
  unfold prodsB at h2;simp only [Bool.and_eq_true,decide_eq_true_eq] at h2;omega
theorem sortsB_no2 {g:Gr} (h:¬ g.sorts.Nodup):sortsB g=false:=by
 cases h2:sortsB g with
 | false=>rfl
 | true=>exact absurd ((sortsB_iff g).1 h2).nodup h
theorem forbidsB_no2 {g:Gr} (h:¬ g.forbid.Nodup):forbidsB g=false:=by
 unfold forbidsB;rw [decide_eq_false h]
 rfl
theorem followsB_no2 {g:Gr} (h:¬ (g.follow.map (·.1)).Nodup):followsB g=false:=by
 unfold followsB;rw [decide_eq_false h]
 rfl
theorem eqFb (a b c d e f:Int) (w:World):(Op.equalIn 10000 95 (.agg #[.int .i64 a,.int .i64 b,.int .i64 c]) (.agg #[.int .i64 d,.int .i64 e,.int .i64 f])).run Tryz.prog w=.ok (decide (a=d)&&(decide (b=e)&&decide (c=f))) w:=by
 have hf:(Tryz.prog.fieldsOf 95).toList.map (fun f=>(f.name,f.type,f.offset))=[("Parent",3,0),("At",3,1),("Child",3,2)]:=by kernel_rfl
 rw [show (10000:Nat)=9999+1 from rfl,run_equalIn_struct w 9999 _ _ _ (by kernel_rfl) (by kernel_rfl)];generalize (Tryz.prog.fieldsOf 95).toList=fs at hf ⊢
 match fs,hf with
 | [⟨m0,y0,o0,_,_,_,_⟩,⟨m1,y1,o1,_,_,_,_⟩,⟨m2,y2,o2,_,_,_,_⟩],hf =>
  simp only [List.map_cons,List.map_nil,List.cons.injEq,Prod.mk.injEq,and_true] at hf;obtain ⟨⟨rfl,rfl,rfl⟩,⟨rfl,rfl,rfl⟩,⟨rfl,rfl,rfl⟩⟩:=hf;have hp:∀ (xs:Array Value) (k:Nat) (v:Value) (w:World),xs[k]?=some v->(part 3 xs k).run Tryz.prog w=.ok v w:=by
   intro xs k v w h;simp [part,isAgg,run_underlying Tryz.underlying3,go_sem,h]
  have q0:∀ (v0 v1 v2:Value) (w:World),(part 3 #[v0,v1,v2] 0).run Tryz.prog w=.ok v0 w:=fun _ _ _ w=>hp _ 0 _ w rfl;have q1:∀ (v0 v1 v2:Value) (w:World),(part 3 #[v0,v1,v2] 1).run Tryz.prog w=.ok v1 w:=fun _ _ _ w=>hp _ 1 _ w rfl;have q2:∀ (v0 v1 v2:Value) (w:World),(part 3 #[v0,v1,v2] 2).run Tryz.prog w=.ok v2 w:=fun _ _ _ w=>hp _ 2 _ w rfl;have e1:∀ (a b:Int) (w:World),(Op.equalIn 9999 3 (.int .i64 a) (.int .i64 b)).run Tryz.prog w=.ok (a==b) w:=fun a b w=>run_equalIn_int w 9998 _ .i64 .i64 a b Tryz.underlying3
  by_cases h0:a=d
  ·by_cases h1:b=e
   ·by_cases h2:c=f <;> simp [Op.eqFields,Sem.run_bind,Result.andThen_ok,q0,q1,q2,e1,h0,h1,h2]
   ·simp [Op.eqFields,Sem.run_bind,Result.andThen_ok,q0,q1,q2,e1,h0,h1]
  ·simp [Op.eqFields,Sem.run_bind,Result.andThen_ok,q0,q1,q2,e1,h0]
theorem eql_fb (a b c d e f:Int) (w:World):(binOp .eql 95 (.agg #[.int .i64 a,.int .i64 b,.int .i64 c]) (.agg #[.int .i64 d,.int .i64 e,.int .i64 f])).run Tryz.prog w=.ok (.bool (decide (a=d)&&(decide (b=e)&&decide (c=f)))) w:=by
 rw [run_eql_struct,eqFb];rfl
theorem two_no {α:Type} {l:List α} {i k:Nat} {x:α} (hk:k<i) (h1:l[i]?=some x) (h2:l[k]?=some x):¬ l.Nodup:=fun hn=>by
 obtain ⟨hi,e1⟩:=gS.1 h1;obtain ⟨hk2,e2⟩:=gS.1 h2;exact List.pairwise_iff_getElem.1 hn k i hk2 hi hk (e2.trans e1.symm)
theorem nodup_up {α:Type} {l:List α} {i:Nat} {x:α} (h:(l.take i).Nodup) (h1:l[i]?=some x) (hn:∀ k,k<i->l[k]?≠some x):(l.take (i+1)).Nodup:=by
 rw [List.take_add_one,h1];refine List.nodup_append.2 ⟨h,by simp,fun a ha b hb=>?_⟩;simp at hb;subst hb;rintro rfl;obtain ⟨k,hk,e⟩:=List.mem_iff_getElem.1 ha;rw [List.length_take] at hk;rw [List.getElem_take] at e;exact hn k (by omega) (by rw [gE (by omega),e])
theorem take_all_up {α:Type} {p:α->Prop} {l:List α} {i:Nat} {x:α} (h:∀ a∈l.take i,p a) (h1:l[i]?=some x) (hx:p x):∀ a∈l.take (i+1),p a:=fun a ha=>by
 rw [List.take_add_one,h1] at ha
 rcases List.mem_append.1 ha with h2 | h2
 ·exact h a h2
 ·simp at h2;subst h2;exact hx
def foA (gb:Nat) (sv pv st fv:Value) (kg ko FL lc i:Nat) (fs w0 w1 w2 w3:Int) (rs rz:Bool) (j:Nat) (v:Value) (W:World):Prop :=
 match j with
 | 0=>v=.agg #[sv,pv,st,fv,.slice (some ⟨kg,ko,none⟩) FL lc]
 | 1=>v=.pointer (some ⟨gb,4,none⟩)
 | 2=>v=.slice (some ⟨kg,ko,none⟩) FL lc
 | 3=>v=.int .i64 i
 | 4=>v=.pointer (some ⟨kg,ko+i * 5,none⟩)
 | 5=>v=.pointer (some ⟨kg,ko+i * 5,none⟩)
 | 6=>v=.int .i64 fs
 | 7=>v=.bool rs
 | 8=>v=.bool (!rs)
 | 9=>v=.bool (!rs)
 | 10=>v=.pointer (some ⟨gb,4,none⟩)
 | 11=>v=.slice (some ⟨kg,ko,none⟩) FL lc
 | 12=>v=.int .i64 i
 | 13=>v=.pointer (some ⟨kg,ko+i * 5,none⟩)
 | 14=>v=.pointer (some ⟨kg,ko+i * 5+1,none⟩)
 | 15=>v=.agg #[.int .u64 w0,.int .u64 w1,.int .u64 w2,.int .u64 w3]
 | 16=>v=.bool rz
 | 17=>v=.bool (!rs || rz)
 | _=>True
def foD (gb:Nat) (sv pv st fv:Value) (kg ko FL lc i:Nat) (fs w0 w1 w2 w3:Int) (rs rz:Bool) (j:Nat) (v:Value) (W:World):Prop :=
 match j with
 | 0=>v=.agg #[sv,pv,st,fv,.slice (some ⟨kg,ko,none⟩) FL lc]
 | 1=>v=.pointer (some ⟨gb,4,none⟩)
 | 2=>v=.slice (some ⟨kg,ko,none⟩) FL lc
 | 3=>v=.int .i64 i
 | 4=>v=.pointer (some ⟨kg,ko+i * 5,none⟩)
 | 5=>v=.pointer (some ⟨kg,ko+i * 5,none⟩)
 | 6=>v=.int .i64 fs
 | 7=>v=.bool rs
 | 8=>v=.bool (!rs)
 | 9=>v=.bool (!rs)
 | 10=>True
 | 11=>True
 | 12=>True
 | 13=>True
 | 14=>True
 | 15=>True
 | 16=>True
 | 17=>v=.bool true
 | _=>True
theorem r06check_any (g:Gr) (N:Nat) (hN:N<=2000000) (w:World) (sv pv fv lv:Value) (hG:GramAt w N g sv pv fv lv) :
  Calls Tryz.prog 12 #[.agg #[sv,pv,.int .i64 g.start,fv,lv]] w fun e w'=>e=.returned (.int .i64 (chkN g)) /\ Below w.heap.size w w':=by
 obtain ⟨r,hr⟩:=eX (chkN g);rw [hr];obtain ⟨sa,sc,rfl⟩:=slice_shape hG.sorts;obtain ⟨pa,pc,rfl⟩:=prodsAt_shape hG.prodsAt;obtain ⟨fa,fcp,rfl⟩:=slice_shape hG.forbid;obtain ⟨la,lc,rfl⟩:=slice_shape hG.follow;have b0:=hG.nsorts;have b1:=hG.nprods;have b2:=hG.nforbid;have b3:=hG.nfollow;have H:=Z3.mk hG hG.ok hr;clear hG hr;go_enter Tryz.func12,Tryz.ntmps12;go_upto_region 1 with fail
 have hB1:Blk (w.alloc (.cells #[.slice sa g.sorts.length sc,.slice pa g.prods.length pc,.int .i64 g.start,.slice fa g.forbid.length fcp,.slice la g.follow.length lc] 27)) w.heap.size 27 #[.slice sa g.sorts.length sc,.slice pa g.prods.length pc,.int .i64 g.start,.slice fa g.forbid.length fcp,.slice la g.follow.length lc]:=Blk.new _ _ _;have hb1:Below w.heap.size w (w.alloc (.cells #[.slice sa g.sorts.length sc,.slice pa g.prods.length pc,.int .i64 g.start,.slice fa g.forbid.length fcp,.slice la g.follow.length lc] 27)):=(bR _ w).alloc (nR _) _;generalize (w.alloc (.cells #[.slice sa g.sorts.length sc,.slice pa g.prods.length pc,.int .i64 g.start,.slice fa g.forbid.length fcp,.slice la g.follow.length lc] 27))=W1 at hB1 hb1 ⊢;have H1:=Z2.mk hB1 hb1;have g0:=hB1.cell 0;have g1:=hB1.cell 1;have g2:=hB1.cell 2;have g3:=hB1.cell 3;have g4:=hB1.cell 4;simp at g0 g1 g2 g3 g4;clear hB1 hb1
 by_cases n0:(g.sorts.length:Int)<1
 ·have hv:r=160:=by rw [<- H.o3];exact chk_no1 (sortsB_no0 (.inl (by omega)))
  clear H;go_wp2_with fail
  go_ret;exact ⟨by first | rfl | (rw [hv];rfl),H1.o2⟩
 ·by_cases n1:1000<(g.sorts.length:Int)
  ·have hv:r=160:=by rw [<- H.o3];exact chk_no1 (sortsB_no0 (.inr (.inl (by omega))))
   clear H;go_wp2_with fail
   go_ret;exact ⟨by first | rfl | (rw [hv];rfl),H1.o2⟩
  ·by_cases n2:1000<(g.prods.length:Int)
   ·have hv:r=160:=by rw [<- H.o3];exact chk_no2 (prodsB_no0 (by omega))
    clear H;go_wp2_with fail
    go_ret;exact ⟨by first | rfl | (rw [hv];rfl),H1.o2⟩
   ·obtain ⟨rs,hrs⟩:∃ rs,decide (0<=g.start /\ g.start<(g.sorts.length:Int))=rs:=⟨_,rfl⟩;have hst:=rsort_any W1 sa g.sorts.length sc (.slice pa g.prods.length pc) (.int .i64 g.start) (.slice fa g.forbid.length fcp) (.slice la g.follow.length lc) g.start rs hrs;have HRS:=Hd hrs;clear hrs;go_wp2_with fail
    refine hst.mono ?_;rintro e w2 ⟨rfl,hb2⟩;have K2:=Z2.mk (H1.o1.below hb2 H1.o1.lt) (H1.o2.trans (hb2.mono H1.o2.size));clear hb2 hst g0 g1 g2 g3 g4
    cases rs with
    | false =>
     have hv:r=160:=by rw [<- H.o3];exact chk_no1 (sortsB_no0 (.inr (.inr (of_decide_eq_false HRS.out))))
     clear H;go_wp2_with fail
     go_ret;exact ⟨by first | rfl | (rw [hv];rfl),K2.o2⟩
    | true =>
     have n0':1<=g.sorts.length:=by omega
     have n1':g.sorts.length<=1000:=by omega
     have n2':g.prods.length<=1000:=by omega
     have HN0:=Z4.mk n0' n1' n2' (of_decide_eq_true HRS.out);clear n0' HRS n0 n1 n2;go_wp2_with fail
     go_loopg [3] g.sorts.length (fun m v3 wx=>∃ i:Nat,i<=g.sorts.length /\ m=g.sorts.length - i /\ v3=.int .i64 i /\ SortsUp g i /\ Below w2.heap.size w2 wx)
     case atStart=>exact ⟨0,by omega,rfl,rfl,⟨by simp,by simp⟩,bR _ _⟩
     case round =>
      obtain ⟨i,hi,hm,rfl,hup,hbx⟩:=hrel;have hgB:=K2.o1.below hbx K2.o1.lt;have hbw:Below w.heap.size w wr:=K2.o2.trans (hbx.mono K2.o2.size);have q:wr.cell? ⟨w.heap.size,0,none⟩=some (.slice sa g.sorts.length sc):=hgB.cell 0
      by_cases hil:i<g.sorts.length
      ·obtain ⟨s,hs⟩:∃ s,g.sorts[i]?=some s:=⟨_,gE hil⟩;obtain ⟨sa2,sc2,e1,_,_,hsk⟩:=H.o1.sorts;injection e1 with e1 e2 e3;subst e1;obtain ⟨kg,ko,rfl,_,hkr⟩:=hsk (by rintro h;rw [h] at hil;simp at hil)
       have g0:wr.cell? ⟨w.heap.size,0,none⟩=some (.slice (some ⟨kg,ko,none⟩) g.sorts.length sc):=hgB.cell 0;have k0:=(wB (hbw.block kg hkr.lt)).trans (hkr.cells i _ hs 0 _ rfl);simp only [Nat.add_zero,Nat.mul_one] at k0;have hsm:=H.o1.str s (gM hs);have hi0:(0:Int)<=i:=by omega
       have hi1:(i:Int)<g.sorts.length:=by omega
       have Q:=Z6.mk hm hup hbx hs hkr hgB;clear hm hup hbx hs hkr hgB e2 e3 hsk
       by_cases s0:s=[]
       ·have hv:r=160:=by rw [<- H.o3];exact chk_no1 (sortsB_no1 (gM Q.o4) (.inl s0))
        subst s0;clear H;go_wp2_with fail
        go_ret;exact ⟨by first | rfl | (rw [hv];rfl),hbw⟩
       ·have hse:s.isEmpty=false:=by simpa using s0
        by_cases s1:1000<s.length
        ·have hv:r=160:=by rw [<- H.o3];exact chk_no1 (sortsB_no1 (gM Q.o4) (.inr s1))
         have s1':(1000:Int)<s.length:=by omega
         clear H;go_wp2_with fail
         go_ret;exact ⟨by first | rfl | (rw [hv];rfl),hbw⟩
        ·have s1':(s.length:Int)<=1000:=by omega
         obtain ⟨wq,rfl⟩:∃ wq:World,wq=wr:=⟨_,rfl⟩;have HW:=Z3.mk hbw s0 (show s.length<=1000 from by omega);clear hbw s0;go_wp2_with fail
         go_loopg [4] i (fun m v4 wx=>∃ k:Nat,k<=i /\ m=i - k /\ v4=.int .i64 k /\ (∀ j,j<k->g.sorts[j]?≠some s) /\ Below wq.heap.size wq wx)
         case atStart=>exact ⟨0,Nat.zero_le _,rfl,rfl,fun j hj=>absurd hj (Nat.not_lt_zero _),bR _ _⟩
         case round =>
          obtain ⟨k,hk,hmk,rfl,hno,hbk⟩:=hrel;have hgk:=Q.o6.below hbk Q.o6.lt;have g0:wr.cell? ⟨w.heap.size,0,none⟩=some (.slice (some ⟨kg,ko,none⟩) g.sorts.length sc):=hgk.cell 0;have hb3:=HW.o1.trans (hbk.mono HW.o1.size)
          by_cases hki:k<i
          ·obtain ⟨t,ht⟩:∃ t,g.sorts[k]?=some t:=⟨_,gE (by omega)⟩;have k0:=(wB (hb3.block kg Q.o5.lt)).trans (Q.o5.cells i _ Q.o4 0 _ rfl);have k1:=(wB (hb3.block kg Q.o5.lt)).trans (Q.o5.cells k _ ht 0 _ rfl);simp only [Nat.add_zero,Nat.mul_one] at k0 k1;have hk0:(0:Int)<=k:=by omega
           have hk1:(k:Int)<g.sorts.length:=by omega
           obtain ⟨b,hb⟩:∃ b,(t==s)=b:=⟨_,rfl⟩;have N:=Z6.mk hmk hno hbk ht hb3 hb;clear hmk hno hbk ht hb3 hgk;obtain ⟨wp,rfl⟩:∃ wp:World,wp=wr:=⟨_,rfl⟩
           cases b with
           | true =>
            have hv:r=160:=by
             rw [<- H.o3];refine chk_no1 (sortsB_no2 ?_);have h1:=N.o4;rw [eq_of_beq N.o6] at h1;exact two_no hki Q.o4 h1
            clear H;go_wp2_with fail
            go_quiet (fail)
            go_wp2_with fail
            go_ret;exact ⟨by first | rfl | (rw [hv];rfl),below_drewN N.o5 _⟩
           | false =>
            have HNO:=Hd (show ∀ j,j<k+1->g.sorts[j]?≠some s from fun j hj=>by
             by_cases e:j=k
             ·subst e;rw [N.o4];intro h;injection h with h;have h1:=N.o6;rw [h] at h1;simp at h1
             ·exact N.o2 j (by omega))
            go_wp2_with fail
            go_quiet (fail)
            go_wp2_with fail
            go_roundg (i - (k+1))
            case measure=>have h1:=N.o1;omega
            case rel=>exact ⟨k+1,by omega,rfl,rfl,HNO.out,below_drewN N.o3 _⟩
          ·obtain rfl:k=i:=by omega
           have HU:=Hd (show SortsUp g (k+1) from ⟨nodup_up Q.o2.1 Q.o4 hno,take_all_up Q.o2.2 Q.o4 (An HW.o2 HW.o3)⟩);have HX:=Hd (Q.o3.trans (hbk.mono Q.o3.size));clear hno hbk hmk hb3 hgk g0;go_wp2_with fail
           go_roundg (g.sorts.length - (k+1))
           case measure=>have h1:=Q.o1;omega
           case rel=>exact ⟨k+1,by omega,rfl,rfl,HU.out,HX.out⟩
      ·obtain rfl:i=g.sorts.length:=by omega
       have hsb:sortsB g=true:=by
        have h1:=hup.1;have h2:=hup.2;rw [List.take_length] at h1 h2;exact (sortsB_iff g).2 ⟨h1,h2,HN0.o1,HN0.o2,HN0.o4⟩
       have HSB:=Hd hsb;have K3:=Z2.mk hgB hbw;clear hsb hgB hbw hup hbx hm;obtain ⟨w3,rfl⟩:∃ w3:World,w3=wr:=⟨_,rfl⟩;go_wp2_with fail
       go_loopg [5] g.prods.length (fun m v5 wx=>∃ i:Nat,i<=g.prods.length /\ m=g.prods.length - i /\ v5=.int .i64 i /\ (∀ p∈g.prods.take i,prodB g p=true) /\ Below w3.heap.size w3 wx)
       case atStart=>exact ⟨0,by omega,rfl,rfl,by simp,bR _ _⟩
       case round =>
        obtain ⟨i,hi,hm,rfl,hup,hbx⟩:=hrel;have hgB:=K3.o1.below hbx K3.o1.lt;have hbw:Below w.heap.size w wr:=K3.o2.trans (hbx.mono K3.o2.size);have q:wr.cell? ⟨w.heap.size,1,none⟩=some (.slice pa g.prods.length pc):=hgB.cell 1
        by_cases hil:i<g.prods.length
        ·obtain ⟨p,hp⟩:∃ p,g.prods[i]?=some p:=⟨_,gE hil⟩;obtain ⟨cap,pb,po,vr,epv,hbl,hvr,hpc⟩:=H.o1.prodsAt.at_ hp;injection epv with e1 e2 e3;subst e1;subst e3;obtain ⟨ra,rc,rfl⟩:=slice_shape hvr;obtain ⟨g0,g1,g2,g3,g4⟩:wr.cell? ⟨w.heap.size,0,none⟩=some (.slice sa g.sorts.length sc) /\ wr.cell? ⟨w.heap.size,1,none⟩=some (.slice (some ⟨pb,po,none⟩) g.prods.length pc) /\ wr.cell? ⟨w.heap.size,2,none⟩=some (.int .i64 g.start) /\ wr.cell? ⟨w.heap.size,3,none⟩=some (.slice fa g.forbid.length fcp) /\ wr.cell? ⟨w.heap.size,4,none⟩=some (.slice la g.follow.length lc):=⟨hgB.cell 0,hgB.cell 1,hgB.cell 2,hgB.cell 3,hgB.cell 4⟩;have up:∀ {i:Nat} {u:Value},w.cell? ⟨pb,i,none⟩=some u->wr.cell? ⟨pb,i,none⟩=some u:=fun h=>(wB (hbw.block pb hbl)).trans h
         have f0:=up (hpc 0 _ rfl);have f1:=up (hpc 1 _ rfl);have f2:=up (hpc 2 _ rfl);have f3:=up (hpc 3 _ rfl);have f4:=up (hpc 4 _ rfl);have f5:=up (hpc 5 _ rfl);have f6:=up (hpc 6 _ rfl);simp only [Nat.add_zero] at f0;have hi0:(0:Int)<=i:=by omega
         have hi1:(i:Int)<g.prods.length:=by omega
         have hpo:=H.o2 p (gM hp);have hcall:Calls Tryz.prog 35 #[.agg #[.slice sa g.sorts.length sc,.slice (some ⟨pb,po,none⟩) g.prods.length pc,.int .i64 g.start,.slice fa g.forbid.length fcp,.slice la g.follow.length lc],.agg #[.int .i64 p.left,.slice ra p.right.length rc,.string ⟨p.cons.toArray⟩,.int .i64 p.role,.bool p.prefer,.bool p.avoid,.int .i64 p.made]] wr.drew fun e w'=>e=.returned (.bool (prodB g p)) /\ Below wr.drew.heap.size wr.drew w' :=
          rprod_any g (by omega) wr.drew sa sc _ _ _ p ra rc (hvr.keep fun q _ hl=>⟨trivial,hbw.drew.block q hl⟩) (by omega) (by omega) (fun s hs=>(hpo.2.2.1 s hs).1)
         obtain ⟨b,hb⟩:=eX (prodB g p);rw [hb] at hcall;have Q:=Z6.mk hm hup hbx hp hb hbw;clear hm hup hbx hp hb hbw hgB hpc hvr up hpo e2 hbl;obtain ⟨wt,rfl⟩:∃ wt:World,wt=wr:=⟨_,rfl⟩;go_wp2_with fail
         go_still_tail 6,(by kernel_rfl)
         repeat still_step
         try refine wpStill_nil ?_
         change wpList _ _ _ _ _ wt.drew
         go_wp2_with fail
         refine hcall.mono ?_;rintro e w5 ⟨rfl,hb5⟩;have H5:=Hd (show Below wt.heap.size wt w5 from (show Below wt.heap.size wt wt.drew from (bR _ _).drew).trans hb5);clear hb5 hcall f0 f1 f2 f3 f4 f5 f6 g0 g1 g2 g3 g4
         cases b with
         | false =>
          have hv:r=160:=by rw [<- H.o3];exact chk_no2 (prodsB_no (gM Q.o4) Q.o5)
          clear H;go_wp2_with fail
          go_ret;exact ⟨by first | rfl | (rw [hv];rfl),Q.o6.trans (H5.out.mono Q.o6.size)⟩
         | true =>
          go_wp2_with fail
          go_roundg (g.prods.length - (i+1))
          case measure=>have h1:=Q.o1;omega
          case rel=>exact ⟨i+1,by omega,rfl,rfl,take_all_up Q.o2 Q.o4 Q.o5,Q.o3.trans (H5.out.mono Q.o3.size)⟩
        ·obtain rfl:i=g.prods.length:=by omega
         have hpb:prodsB g=true:=by
          unfold prodsB;rw [List.take_length] at hup;rw [List.all_eq_true.2 hup,decide_eq_true (by omega)]
          rfl
         have HPB:=Hd hpb;have K4:=Z2.mk hgB hbw;clear hpb hgB hbw hup hbx hm;obtain ⟨w4,rfl⟩:∃ w4:World,w4=wr:=⟨_,rfl⟩;go_wp2_with fail
         go_loopg [6] g.forbid.length (fun m v6 wx=>∃ i:Nat,i<=g.forbid.length /\ m=g.forbid.length - i /\ v6=.int .i64 i /\ ((g.forbid.take i).Nodup /\ ∀ f∈g.forbid.take i,fbB g f=true) /\ Below w4.heap.size w4 wx)
         case atStart=>exact ⟨0,by omega,rfl,rfl,⟨by simp,by simp⟩,bR _ _⟩
         case round =>
          obtain ⟨i,hi,hm,rfl,hup,hbx⟩:=hrel;have hgB:=K4.o1.below hbx K4.o1.lt;have hbw:Below w.heap.size w wr:=K4.o2.trans (hbx.mono K4.o2.size);have q:wr.cell? ⟨w.heap.size,3,none⟩=some (.slice fa g.forbid.length fcp):=hgB.cell 3
          by_cases hil:i<g.forbid.length
          ·obtain ⟨f,hf⟩:∃ f,g.forbid[i]?=some f:=⟨_,gE hil⟩;obtain ⟨fa2,fc2,e1,_,_,hfk⟩:=H.o1.forbid;injection e1 with e1 e2 e3;subst e1;obtain ⟨kg,ko,rfl,_,hkr⟩:=hfk (by rintro h;rw [h] at hil;simp at hil)
           obtain ⟨g0,g1,g2,g3,g4⟩:wr.cell? ⟨w.heap.size,0,none⟩=some (.slice sa g.sorts.length sc) /\ wr.cell? ⟨w.heap.size,1,none⟩=some (.slice pa g.prods.length pc) /\ wr.cell? ⟨w.heap.size,2,none⟩=some (.int .i64 g.start) /\ wr.cell? ⟨w.heap.size,3,none⟩=some (.slice (some ⟨kg,ko,none⟩) g.forbid.length fcp) /\ wr.cell? ⟨w.heap.size,4,none⟩=some (.slice la g.follow.length lc):=⟨hgB.cell 0,hgB.cell 1,hgB.cell 2,hgB.cell 3,hgB.cell 4⟩;have k0:=(wB (hbw.block kg hkr.lt)).trans (hkr.cells i _ hf 0 _ rfl);have k1:=(wB (hbw.block kg hkr.lt)).trans (hkr.cells i _ hf 1 _ rfl);have k2:=(wB (hbw.block kg hkr.lt)).trans (hkr.cells i _ hf 2 _ rfl);simp only [Nat.add_zero] at k0;have hi0:(0:Int)<=i:=by omega
           have hi1:(i:Int)<g.forbid.length:=by omega
           have hcall:=rforbid_any g (by omega) (fun p hp=>by have:=H.o2 p hp;omega) wr.drew (.slice sa g.sorts.length sc) (.slice pa g.prods.length pc) (.slice (some ⟨kg,ko,none⟩) g.forbid.length fcp) (.slice la g.follow.length lc) (H.o1.prodsAt.keep fun q _ hl=>⟨trivial,hbw.drew.block q hl⟩) f (H.o1.fb f (gM hf));obtain ⟨b,hb⟩:=eX (fbB g f);rw [hb] at hcall;have Q:=Z8.mk hm hup hbx hf hb hbw hkr hgB;clear hm hup hbx hf hb hbw hgB hkr e2 e3 hfk;obtain ⟨wt,rfl⟩:∃ wt:World,wt=wr:=⟨_,rfl⟩;go_wp2_with fail
           go_still_tail 6,(by kernel_rfl)
           repeat still_step
           try refine wpStill_nil ?_
           change wpList _ _ _ _ _ wt.drew
           go_wp2_with fail
           refine hcall.mono ?_;rintro e w5 ⟨rfl,hb5⟩;have H5:=Hd (show Below wt.heap.size wt w5 from (show Below wt.heap.size wt wt.drew from (bR _ _).drew).trans hb5);clear hb5 hcall k0 k1 k2 g0 g1 g2 g3 g4
           cases b with
           | false =>
            have hv:r=160:=by rw [<- H.o3];exact chk_no3 (forbidsB_no (gM Q.o4) Q.o5)
            clear H;go_wp2_with fail
            go_ret;exact ⟨by first | rfl | (rw [hv];rfl),Q.o6.trans (H5.out.mono Q.o6.size)⟩
           | true =>
            go_wp2_with fail
            go_loopg [7] i (fun m v7 wx=>∃ k:Nat,k<=i /\ m=i - k /\ v7=.int .i64 k /\ (∀ j,j<k->g.forbid[j]?≠some f) /\ Below wt.heap.size wt wx)
            case atStart=>exact ⟨0,Nat.zero_le _,rfl,rfl,fun j hj=>absurd hj (Nat.not_lt_zero _),H5.out⟩
            case round =>
             obtain ⟨k,hk,hmk,rfl,hno,hbk⟩:=hrel;have hgk:=Q.o8.below hbk Q.o8.lt;have g3:wr.cell? ⟨w.heap.size,3,none⟩=some (.slice (some ⟨kg,ko,none⟩) g.forbid.length fcp):=hgk.cell 3;have hb3:=Q.o6.trans (hbk.mono Q.o6.size)
             by_cases hki:k<i
             ·obtain ⟨t,ht⟩:∃ t,g.forbid[k]?=some t:=⟨_,gE (by omega)⟩;have up:=hb3.block kg Q.o7.lt;have k0:=(wB up).trans (Q.o7.cells i _ Q.o4 0 _ rfl);have k1:=(wB up).trans (Q.o7.cells i _ Q.o4 1 _ rfl);have k2:=(wB up).trans (Q.o7.cells i _ Q.o4 2 _ rfl);have t0:=(wB up).trans (Q.o7.cells k _ ht 0 _ rfl);have t1:=(wB up).trans (Q.o7.cells k _ ht 1 _ rfl);have t2:=(wB up).trans (Q.o7.cells k _ ht 2 _ rfl);simp only [Nat.add_zero] at k0 t0;have hk0:(0:Int)<=k:=by omega
              have hk1:(k:Int)<g.forbid.length:=by omega
              obtain ⟨b,hb⟩:∃ b,(decide (t.1=f.1)&&(decide (t.2.1=f.2.1)&&decide (t.2.2=f.2.2)))=b:=⟨_,rfl⟩;have hbb:b=decide (t=f):=by
               rw [<- hb,Bool.eq_iff_iff];obtain ⟨x,y,z⟩:=t;obtain ⟨x',y',z'⟩:=f;simp
              have hqe:=fun W=>eql_fb t.1 t.2.1 t.2.2 f.1 f.2.1 f.2.2 W;rw [hb] at hqe;have N:=Z6.mk hmk hno hbk ht hb3 hbb;clear hmk hno hbk ht hb3 hgk hb hbb up;obtain ⟨wp,rfl⟩:∃ wp:World,wp=wr:=⟨_,rfl⟩
              cases b with
              | true =>
               have hv:r=160:=by
                rw [<- H.o3];refine chk_no3 (forbidsB_no2 ?_);have h1:=N.o4;rw [of_decide_eq_true N.o6.symm] at h1;exact two_no hki Q.o4 h1
               clear H;go_wp2_with fail
               go_quiet (fail)
               go_wp2_with fail
               go_ret;exact ⟨by first | rfl | (rw [hv];rfl),below_drewN N.o5 _⟩
              | false =>
               have HNO:=Hd (show ∀ j,j<k+1->g.forbid[j]?≠some f from fun j hj=>by
                by_cases e:j=k
                ·subst e;rw [N.o4];intro h;injection h with h;exact of_decide_eq_false N.o6.symm h
                ·exact N.o2 j (by omega))
               go_wp2_with fail
               go_quiet (fail)
               go_wp2_with fail
               go_roundg (i - (k+1))
               case measure=>have h1:=N.o1;omega
               case rel=>exact ⟨k+1,by omega,rfl,rfl,HNO.out,below_drewN N.o3 _⟩
             ·obtain rfl:k=i:=by omega
              have HU:=Hd (show (g.forbid.take (k+1)).Nodup /\ ∀ f∈g.forbid.take (k+1),fbB g f=true from ⟨nodup_up Q.o2.1 Q.o4 hno,take_all_up Q.o2.2 Q.o4 Q.o5⟩);have HX:=Hd (Q.o3.trans (hbk.mono Q.o3.size));clear hno hbk hmk hb3 hgk g3;go_wp2_with fail
              go_roundg (g.forbid.length - (k+1))
              case measure=>have h1:=Q.o1;omega
              case rel=>exact ⟨k+1,by omega,rfl,rfl,HU.out,HX.out⟩
          ·obtain rfl:i=g.forbid.length:=by omega
           have hfb:forbidsB g=true:=by
            unfold forbidsB;rw [List.take_length] at hup;rw [List.all_eq_true.2 hup.2,decide_eq_true hup.1]
            rfl
           have HFB:=Hd hfb;have K5:=Z2.mk hgB hbw;clear hfb hgB hbw hup hbx hm;obtain ⟨w5,rfl⟩:∃ w5:World,w5=wr:=⟨_,rfl⟩;go_wp2_with fail
           go_loopg [8] g.follow.length (fun m v8 wx=>∃ i:Nat,i<=g.follow.length /\ m=g.follow.length - i /\ v8=.int .i64 i /\ (((g.follow.map (·.1)).take i).Nodup /\ ∀ f∈g.follow.take i,(inB g f.1&&!decide (f.2=0))=true) /\ Below w5.heap.size w5 wx)
           case atStart=>exact ⟨0,by omega,rfl,rfl,⟨by simp,by simp⟩,bR _ _⟩
           case round =>
            obtain ⟨i,hi,hm,rfl,hup,hbx⟩:=hrel;have hgB:=K5.o1.below hbx K5.o1.lt;have hbw:Below w.heap.size w wr:=K5.o2.trans (hbx.mono K5.o2.size);have q:wr.cell? ⟨w.heap.size,4,none⟩=some (.slice la g.follow.length lc):=hgB.cell 4
            by_cases hil:i<g.follow.length
            ·obtain ⟨⟨fs,fM⟩,hf⟩:∃ f,g.follow[i]?=some f:=⟨_,gE hil⟩;obtain ⟨fa2,fc2,e1,_,_,hfk⟩:=H.o1.follow;injection e1 with e1 e2 e3;subst e1;obtain ⟨kg,ko,rfl,_,hkr⟩:=hfk (by rintro h;rw [h] at hil;simp at hil)
             have hM:=(H.o1.fo _ (gM hf)).2;simp only at hM;have up:=hbw.block kg hkr.lt;have k0:wr.cell? ⟨kg,ko+i * 5,none⟩=some (.int .i64 fs):=(wB up).trans (hkr.cells i _ hf 0 _ rfl);have k1:wr.cell? ⟨kg,ko+i * 5+1,none⟩=some (.int .u64 (wd fM 0)):=(wB up).trans (hkr.cells i _ hf 1 _ rfl);have k2:wr.cell? ⟨kg,ko+i * 5+2,none⟩=some (.int .u64 (wd fM 1)):=(wB up).trans (hkr.cells i _ hf 2 _ rfl);have k3:wr.cell? ⟨kg,ko+i * 5+3,none⟩=some (.int .u64 (wd fM 2)):=(wB up).trans (hkr.cells i _ hf 3 _ rfl);have k4:wr.cell? ⟨kg,ko+i * 5+4,none⟩=some (.int .u64 (wd fM 3)):=(wB up).trans (hkr.cells i _ hf 4 _ rfl);have g4:wr.cell? ⟨w.heap.size,4,none⟩=some (.slice (some ⟨kg,ko,none⟩) g.follow.length lc):=hgB.cell 4;have HC:=Hd (show ∀ W,Below wr.drew.heap.size wr.drew W->W.cell? ⟨w.heap.size,0,none⟩=some (.slice sa g.sorts.length sc) /\ W.cell? ⟨w.heap.size,1,none⟩=some (.slice pa g.prods.length pc) /\ W.cell? ⟨w.heap.size,2,none⟩=some (.int .i64 g.start) /\ W.cell? ⟨w.heap.size,3,none⟩=some (.slice fa g.forbid.length fcp) /\ W.cell? ⟨w.heap.size,4,none⟩=some (.slice (some ⟨kg,ko,none⟩) g.follow.length lc) /\ W.cell? ⟨kg,ko+i * 5,none⟩=some (.int .i64 fs) /\
               W.cell? ⟨kg,ko+i * 5+1,none⟩=some (.int .u64 (wd fM 0)) /\ W.cell? ⟨kg,ko+i * 5+2,none⟩=some (.int .u64 (wd fM 1)) /\ W.cell? ⟨kg,ko+i * 5+3,none⟩=some (.int .u64 (wd fM 2)) /\ W.cell? ⟨kg,ko+i * 5+4,none⟩=some (.int .u64 (wd fM 3)) from fun W h=>by
              have st:∀ {b i:Nat} {u:Value},wr.cell? ⟨b,i,none⟩=some u->W.cell? ⟨b,i,none⟩=some u:=fun {b i u} hc=>(wB (h.block b (wL wr _ hc))).trans hc;exact ⟨st (hgB.cell 0),st (hgB.cell 1),st (hgB.cell 2),st (hgB.cell 3),st g4,st k0,st k1,st k2,st k3,st k4⟩)
             have hi0:(0:Int)<=i:=by omega
             have hi1:(i:Int)<g.follow.length:=by omega
             obtain ⟨rs,hrs⟩:=eX (inB g fs);have hca:∀ W,Calls Tryz.prog 34 #[.agg #[.slice sa g.sorts.length sc,.slice pa g.prods.length pc,.int .i64 g.start,.slice fa g.forbid.length fcp,.slice (some ⟨kg,ko,none⟩) g.follow.length lc],.int .i64 fs] W fun e w'=>e=.returned (.bool rs) /\ Below W.heap.size W w':=fun W=>rsort_any W sa g.sorts.length sc _ _ _ _ fs rs hrs;have HCA:=Hd hca;obtain ⟨rz,hrz⟩:∃ rz,decide (fM=0)=rz:=⟨_,rfl⟩;have hce:=fun W=>rempty_any fM hM W;rw [hrz] at hce;have HCE:=Hd hce;have Q:=Z9.mk hm hup hbx hf hrs hbw hkr hgB hrz;clear hm hup hbx hf hrs hbw hgB hkr e2 e3 hfk hca hce hrz up k0 k1 k2 k3 k4;obtain ⟨wt,rfl⟩:∃ wt:World,wt=wr:=⟨_,rfl⟩
             cases rs with
             | false =>
              have hv:r=160:=by rw [<- H.o3];exact chk_no4 (followsB_no (gM Q.o4) (.inl Q.o5))
              clear H;go_wp2_with fail
              refine wp_region_concG 18 (foD w.heap.size (.slice sa g.sorts.length sc) (.slice pa g.prods.length pc) (.int .i64 g.start) (.slice fa g.forbid.length fcp) kg ko g.follow.length lc i fs (wd fM 0) (wd fM 1) (wd fM 2) (wd fM 3) false false) (fun A W=>Below A.heap.size A W) (fun _ _=>True) [9] (fun j=>match j with | 9=>true | _=>true) (by kernel_rfl) (by kernel_rfl) (by kernel_rfl) (by kernel_rfl) (bR _ _) trivial (fun h k=>h.trans (k.mono h.size)) ⟨fun v w h=>h,trivial⟩ ?_ ?_
              ·simp only [List.take_succ_cons,List.take_zero];refine ⟨?_,?_,?_,?_,?_,?_,?_,?_,?_,?_,?_,?_,?_,?_,?_,?_,?_,?_,trivial⟩
               all_goals try (refine ⟨fun _=>?_,fun h=>absurd h (by decide)⟩;intro L T W hG hJ hLs hLi dq fq vq K hK)
               all_goals try have zk:=fun v=>hK v W (bR _ W) (fun j u _ _ _ h=>h) trivial
               all_goals try have zv:=fun i h=>vq ⟨i,.data⟩ h rfl
               ·have h1:=fq 1 (by decide);simp at h1;obtain ⟨g0,g1,g2,g3,g4,k0,k1,k2,k3,k4⟩:=HC.out W hG;go_simp;exact zk _ rfl
               ·have h1:=fq 1 (by decide);simp at h1;go_simp;exact zk _ rfl
               ·have h1:=zv 1 (by simp) 125 rfl;simp [foD] at h1;obtain ⟨g0,g1,g2,g3,g4,k0,k1,k2,k3,k4⟩:=HC.out W hG;go_simp;exact zk _ rfl
               ·have h1:=fq 8 (by decide);simp at h1;go_simp;exact zk _ rfl
               ·have h1:=zv 2 (by simp) 126 rfl;have h2:=zv 3 (by simp) 127 rfl;simp [foD] at h1 h2;go_simp;exact zk _ rfl
               ·have h1:=zv 4 (by simp) 128 rfl;simp [foD] at h1;go_simp;exact zk _ rfl
               ·have h1:=zv 5 (by simp) 129 rfl;simp [foD] at h1;obtain ⟨g0,g1,g2,g3,g4,k0,k1,k2,k3,k4⟩:=HC.out W hG;go_simp;exact zk _ rfl
               ·have h1:=zv 0 (by simp) 124 rfl;have h2:=zv 6 (by simp) 130 rfl;simp [foD] at h1 h2;go_simp;refine (HCA.out W).mono ?_;rintro e W2 ⟨rfl,hb2⟩;exact hK _ _ hb2 (fun j u _ _ _ h=>h) trivial rfl
               ·have h1:=zv 7 (by simp) 131 rfl;simp [foD] at h1;go_simp;exact zk _ rfl
               ·have h1:=zv 8 (by simp) 132 rfl;simp [foD] at h1;go_simp;exact zk _ rfl
               ·exact ⟨fun h=>absurd h (by decide),fun _ L W hG hJ=>⟨(bR _ W),trivial,trivial⟩⟩
               ·exact ⟨fun h=>absurd h (by decide),fun _ L W hG hJ=>⟨(bR _ W),trivial,trivial⟩⟩
               ·exact ⟨fun h=>absurd h (by decide),fun _ L W hG hJ=>⟨(bR _ W),trivial,trivial⟩⟩
               ·exact ⟨fun h=>absurd h (by decide),fun _ L W hG hJ=>⟨(bR _ W),trivial,trivial⟩⟩
               ·exact ⟨fun h=>absurd h (by decide),fun _ L W hG hJ=>⟨(bR _ W),trivial,trivial⟩⟩
               ·exact ⟨fun h=>absurd h (by decide),fun _ L W hG hJ=>⟨(bR _ W),trivial,trivial⟩⟩
               ·exact ⟨fun h=>absurd h (by decide),fun _ L W hG hJ=>⟨(bR _ W),trivial,trivial⟩⟩
               ·have h1:=zv 9 (by simp) 133 rfl;simp [foD] at h1;go_simp;exact zk _ rfl
              ·intro f9 w6 hG hJe hR;have e17:=hR 17 141 (by decide) rfl;simp only [concDsts,qZ];simp only [foD] at e17;rw [e17];clear e17 hR;generalize f9 124=v124;generalize f9 125=v125;generalize f9 126=v126;generalize f9 127=v127;generalize f9 128=v128;generalize f9 129=v129;generalize f9 130=v130;generalize f9 131=v131;generalize f9 132=v132;generalize f9 133=v133;generalize f9 134=v134;generalize f9 135=v135;generalize f9 136=v136;generalize f9 137=v137;generalize f9 138=v138;generalize f9 139=v139;generalize f9 140=v140;clear f9;have HX:=Hd (Q.o6.trans ((show Below wt.heap.size wt w6 from (show Below wt.heap.size wt wt.drew from (bR _ _).drew).trans hG).mono Q.o6.size));clear hG hJe;go_wp2_with fail
               go_ret;exact ⟨by first | rfl | (rw [hv];rfl),HX.out⟩
             | true =>
              go_wp2_with fail
              refine wp_region_concG 18 (foA w.heap.size (.slice sa g.sorts.length sc) (.slice pa g.prods.length pc) (.int .i64 g.start) (.slice fa g.forbid.length fcp) kg ko g.follow.length lc i fs (wd fM 0) (wd fM 1) (wd fM 2) (wd fM 3) true rz) (fun A W=>Below A.heap.size A W) (fun _ _=>True) [9] (fun j=>match j with | 9=>false | _=>true) (by kernel_rfl) (by kernel_rfl) (by kernel_rfl) (by kernel_rfl) (bR _ _) trivial (fun h k=>h.trans (k.mono h.size)) ⟨fun v w h=>h,trivial⟩ ?_ ?_
              ·simp only [List.take_succ_cons,List.take_zero];refine ⟨?_,?_,?_,?_,?_,?_,?_,?_,?_,?_,?_,?_,?_,?_,?_,?_,?_,?_,trivial⟩
               all_goals try (refine ⟨fun _=>?_,fun h=>absurd h (by decide)⟩;intro L T W hG hJ hLs hLi dq fq vq K hK)
               all_goals try have zk:=fun v=>hK v W (bR _ W) (fun j u _ _ _ h=>h) trivial
               all_goals try have zv:=fun i h=>vq ⟨i,.data⟩ h rfl
               ·have h1:=fq 1 (by decide);simp at h1;obtain ⟨g0,g1,g2,g3,g4,k0,k1,k2,k3,k4⟩:=HC.out W hG;go_simp;exact zk _ rfl
               ·have h1:=fq 1 (by decide);simp at h1;go_simp;exact zk _ rfl
               ·have h1:=zv 1 (by simp) 125 rfl;simp [foA] at h1;obtain ⟨g0,g1,g2,g3,g4,k0,k1,k2,k3,k4⟩:=HC.out W hG;go_simp;exact zk _ rfl
               ·have h1:=fq 8 (by decide);simp at h1;go_simp;exact zk _ rfl
               ·have h1:=zv 2 (by simp) 126 rfl;have h2:=zv 3 (by simp) 127 rfl;simp [foA] at h1 h2;go_simp;exact zk _ rfl
               ·have h1:=zv 4 (by simp) 128 rfl;simp [foA] at h1;go_simp;exact zk _ rfl
               ·have h1:=zv 5 (by simp) 129 rfl;simp [foA] at h1;obtain ⟨g0,g1,g2,g3,g4,k0,k1,k2,k3,k4⟩:=HC.out W hG;go_simp;exact zk _ rfl
               ·have h1:=zv 0 (by simp) 124 rfl;have h2:=zv 6 (by simp) 130 rfl;simp [foA] at h1 h2;go_simp;refine (HCA.out W).mono ?_;rintro e W2 ⟨rfl,hb2⟩;exact hK _ _ hb2 (fun j u _ _ _ h=>h) trivial rfl
               ·have h1:=zv 7 (by simp) 131 rfl;simp [foA] at h1;go_simp;exact zk _ rfl
               ·have h1:=zv 8 (by simp) 132 rfl;simp [foA] at h1;go_simp;exact zk _ rfl
               ·have h1:=fq 1 (by decide);simp at h1;go_simp;exact zk _ rfl
               ·have h1:=zv 10 (by simp) 134 rfl;simp [foA] at h1;obtain ⟨g0,g1,g2,g3,g4,k0,k1,k2,k3,k4⟩:=HC.out W hG;go_simp;exact zk _ rfl
               ·have h1:=fq 8 (by decide);simp at h1;go_simp;exact zk _ rfl
               ·have h1:=zv 11 (by simp) 135 rfl;have h2:=zv 12 (by simp) 136 rfl;simp [foA] at h1 h2;go_simp;exact zk _ rfl
               ·have h1:=zv 13 (by simp) 137 rfl;simp [foA] at h1;go_simp;exact zk _ rfl
               ·have h1:=zv 14 (by simp) 138 rfl;simp [foA] at h1;obtain ⟨g0,g1,g2,g3,g4,k0,k1,k2,k3,k4⟩:=HC.out W hG;go_simp;exact zk _ rfl
               ·have h1:=zv 15 (by simp) 139 rfl;simp [foA] at h1;go_simp;refine (HCE.out W).mono ?_;rintro e W2 ⟨rfl,hb2⟩;exact hK _ _ hb2 (fun j u _ _ _ h=>h) trivial rfl
               ·have h1:=zv 9 (by simp) 133 rfl;have h2:=zv 16 (by simp) 140 rfl;simp [foA] at h1 h2;go_simp;exact zk _ rfl
              ·intro f9 w6 hG hJe hR;have e17:=hR 17 141 (by decide) rfl;simp only [concDsts,qZ];simp only [foA] at e17;rw [e17];clear e17 hR;generalize f9 124=v124;generalize f9 125=v125;generalize f9 126=v126;generalize f9 127=v127;generalize f9 128=v128;generalize f9 129=v129;generalize f9 130=v130;generalize f9 131=v131;generalize f9 132=v132;generalize f9 133=v133;generalize f9 134=v134;generalize f9 135=v135;generalize f9 136=v136;generalize f9 137=v137;generalize f9 138=v138;generalize f9 139=v139;generalize f9 140=v140;clear f9
               cases rz with
               | true =>
                have hv:r=160:=by rw [<- H.o3];exact chk_no4 (followsB_no (gM Q.o4) (.inr (of_decide_eq_true Q.o9)))
                clear H;have HX:=Hd (Q.o6.trans ((show Below wt.heap.size wt w6 from (show Below wt.heap.size wt wt.drew from (bR _ _).drew).trans hG).mono Q.o6.size));clear hG hJe;go_wp2_with fail
                go_ret;exact ⟨by first | rfl | (rw [hv];rfl),HX.out⟩
               | false =>
                have H6:=Hd (show Below wt.heap.size wt w6 from (show Below wt.heap.size wt wt.drew from (bR _ _).drew).trans hG);clear hG hJe;go_wp2_with fail
                go_loopg [9] i (fun m v9 wx=>∃ k:Nat,k<=i /\ m=i - k /\ v9=.int .i64 k /\ (∀ j,j<k->(g.follow.map (·.1))[j]?≠some fs) /\ Below wt.heap.size wt wx)
                case atStart=>exact ⟨0,Nat.zero_le _,rfl,rfl,fun j hj=>absurd hj (Nat.not_lt_zero _),H6.out⟩
                case round =>
                 obtain ⟨k,hk,hmk,rfl,hno,hbk⟩:=hrel;have hgk:=Q.o8.below hbk Q.o8.lt;have g4:wr.cell? ⟨w.heap.size,4,none⟩=some (.slice (some ⟨kg,ko,none⟩) g.follow.length lc):=hgk.cell 4;have hb3:=Q.o6.trans (hbk.mono Q.o6.size)
                 by_cases hki:k<i
                 ·obtain ⟨⟨ts,tM⟩,ht⟩:∃ t,g.follow[k]?=some t:=⟨_,gE (by omega)⟩;have up:=hb3.block kg Q.o7.lt;have k0:wr.cell? ⟨kg,ko+i * 5,none⟩=some (.int .i64 fs):=(wB up).trans (Q.o7.cells i _ Q.o4 0 _ rfl);have t0:wr.cell? ⟨kg,ko+k * 5,none⟩=some (.int .i64 ts):=(wB up).trans (Q.o7.cells k _ ht 0 _ rfl);have hk0:(0:Int)<=k:=by omega
                  have hk1:(k:Int)<g.follow.length:=by omega
                  have hmi:(g.follow.map (·.1))[i]?=some fs:=by rw [List.getElem?_map,Q.o4];rfl
                  have hmt:(g.follow.map (·.1))[k]?=some ts:=by rw [List.getElem?_map,ht];rfl
                  have N:=Z6.mk hmk hno hbk hmi hb3 hmt;clear hmk hno hbk ht hb3 hgk up hmi hmt;obtain ⟨wp,rfl⟩:∃ wp:World,wp=wr:=⟨_,rfl⟩
                  by_cases hes:ts=fs
                  ·have hv:r=160:=by
                    rw [<- H.o3];refine chk_no4 (followsB_no2 ?_);have h1:=N.o6;rw [hes] at h1;exact two_no hki N.o4 h1
                   rw [hes] at t0;clear H hes;go_wp2_with fail
                   go_quiet (fail)
                   go_wp2_with fail
                   go_ret;exact ⟨by first | rfl | (rw [hv];rfl),below_drewN N.o5 _⟩
                  ·have hes2:(ts==fs)=false:=by simpa using hes
                   have HNO:=Hd (show ∀ j,j<k+1->(g.follow.map (·.1))[j]?≠some fs from fun j hj=>by
                    by_cases e:j=k
                    ·subst e;rw [N.o6];intro h;injection h with h;exact hes h
                    ·exact N.o2 j (by omega))
                   clear hes;go_wp2_with fail
                   go_quiet (fail)
                   go_wp2_with fail
                   go_roundg (i - (k+1))
                   case measure=>have h1:=N.o1;omega
                   case rel=>exact ⟨k+1,by omega,rfl,rfl,HNO.out,below_drewN N.o3 _⟩
                 ·obtain rfl:k=i:=by omega
                  have hmi:(g.follow.map (·.1))[k]?=some fs:=by rw [List.getElem?_map,Q.o4];rfl
                  have HU:=Hd (show ((g.follow.map (·.1)).take (k+1)).Nodup /\ ∀ f∈g.follow.take (k+1),(inB g f.1&&!decide (f.2=0))=true from ⟨nodup_up Q.o2.1 hmi hno,take_all_up Q.o2.2 Q.o4 (by simp only;rw [Q.o5,Q.o9];rfl)⟩);have HX:=Hd (Q.o3.trans (hbk.mono Q.o3.size));clear hno hbk hmk hb3 hgk g4 hmi;go_wp2_with fail
                  go_roundg (g.follow.length - (k+1))
                  case measure=>have h1:=Q.o1;omega
                  case rel=>exact ⟨k+1,by omega,rfl,rfl,HU.out,HX.out⟩
            ·obtain rfl:i=g.follow.length:=by omega
             have hv:r=0:=by
              rw [<- H.o3];have hf4:followsB g=true:=by
               unfold followsB;rw [List.take_length,List.take_of_length_le (by rw [List.length_map];exact nR _)] at hup;rw [List.all_eq_true.2 hup.2,decide_eq_true hup.1]
               rfl
              unfold chkN checkB;rw [HSB.out,HPB.out,HFB.out,hf4]
              rfl
             clear hup hbx hm H;go_wp2_with fail
             go_ret;exact ⟨by first | rfl | (rw [hv];rfl),hbw⟩
end Go.Proofs.YthiochcpmfkgcaaGreatDoor.Tb
