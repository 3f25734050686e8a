/- Walks and plain laws that the last text stands on: TbRChkC. -/
import Derived.Test.YthiochcpmfkgcaaGreatDoorBo27
import Derived.Test.YthiochcpmfkgcaaGreatDoorBo21
set_option linter.unusedVariables false
set_option linter.unusedSimpArgs false
set_option maxRecDepth 100000
set_option maxHeartbeats 16000000
namespace Go.Proofs.YthiochcpmfkgcaaGreatDoor.Tb
open Go Go.RowKit Go.Proofs Mx
def SortsUp (g:Gr) (i:Nat):Prop:=(g.sorts.take i).Nodup /\ ∀ s∈g.sorts.take i,s≠[] /\ s.length<=1000
theorem sortsB_no1 {g:Gr} {s:List UInt8} (hs:s∈g.sorts) (h:s=[]∨1000<s.length):sortsB g=false:=by
 cases h2:sortsB g with
 | false=>rfl
 | true =>
  have h3:=((sortsB_iff g).1 h2).each s hs
  rcases h with h | h
  ·exact absurd h h3.1
  ·omega
theorem sortsB_no0 {g:Gr} (h:g.sorts.length<1∨1000<g.sorts.length∨¬ (0<=g.start /\ g.start<(g.sorts.length:Int))):sortsB g=false:=by
 cases h2:sortsB g with
 | false=>rfl
 | true =>
  unfold sortsB at h2;simp only [Bool.and_eq_true,decide_eq_true_eq] at h2
  rcases h with h | h | h
  ·omega
  ·omega
  ·exact absurd ⟨h2.1.2,h2.2⟩ h
theorem prodsB_no0 {g:Gr} (h:1000<g.prods.length):prodsB g=false:=by
 cases h2:prodsB g with
 | false=>rfl
 | true =>
  unfold prodsB at h2;simp only [Bool.and_eq_true,decide_eq_true_eq] at h2;omega
theorem sortsB_no2 {g:Gr} (h:¬ g.sorts.Nodup):sortsB g=false:=by
 cases h2:sortsB g with
 | false=>rfl
 | true=>exact absurd ((sortsB_iff g).1 h2).nodup h
theorem forbidsB_no2 {g:Gr} (h:¬ g.forbid.Nodup):forbidsB g=false:=by
 unfold forbidsB;rw [decide_eq_false h]
 rfl
theorem followsB_no2 {g:Gr} (h:¬ (g.follow.map (·.1)).Nodup):followsB g=false:=by
 unfold followsB;rw [decide_eq_false h]
 rfl
theorem eqFb (a b c d e f:Int) (w:World):(Op.equalIn 10000 95 (.agg #[.int .i64 a,.int .i64 b,.int .i64 c]) (.agg #[.int .i64 d,.int .i64 e,.int .i64 f])).run Tryz.prog w=.ok (decide (a=d)&&(decide (b=e)&&decide (c=f))) w:=by
 have hf:(Tryz.prog.fieldsOf 95).toList.map (fun f=>(f.name,f.type,f.offset))=[("Parent",3,0),("At",3,1),("Child",3,2)]:=by kernel_rfl
 rw [show (10000:Nat)=9999+1 from rfl,run_equalIn_struct w 9999 _ _ _ (by kernel_rfl) (by kernel_rfl)]
 generalize (Tryz.prog.fieldsOf 95).toList=fs at hf ⊢
 match fs,hf with
 | [⟨m0,y0,o0,_,_,_,_⟩,⟨m1,y1,o1,_,_,_,_⟩,⟨m2,y2,o2,_,_,_,_⟩],hf =>
  simp only [List.map_cons,List.map_nil,List.cons.injEq,Prod.mk.injEq,and_true] at hf;obtain ⟨⟨rfl,rfl,rfl⟩,⟨rfl,rfl,rfl⟩,⟨rfl,rfl,rfl⟩⟩:=hf;have hp:∀ (xs:Array Value) (k:Nat) (v:Value) (w:World),xs[k]?=some v->(part 3 xs k).run Tryz.prog w=.ok v w:=by
   intro xs k v w h;simp [part,isAgg,run_underlying Tryz.underlying3,go_sem,h]
  have q0:∀ (v0 v1 v2:Value) (w:World),(part 3 #[v0,v1,v2] 0).run Tryz.prog w=.ok v0 w:=fun _ _ _ w=>hp _ 0 _ w rfl
  have q1:∀ (v0 v1 v2:Value) (w:World),(part 3 #[v0,v1,v2] 1).run Tryz.prog w=.ok v1 w:=fun _ _ _ w=>hp _ 1 _ w rfl
  have q2:∀ (v0 v1 v2:Value) (w:World),(part 3 #[v0,v1,v2] 2).run Tryz.prog w=.ok v2 w:=fun _ _ _ w=>hp _ 2 _ w rfl
  have e1:∀ (a b:Int) (w:World),(Op.equalIn 9999 3 (.int .i64 a) (.int .i64 b)).run Tryz.prog w=.ok (a==b) w:=fun a b w=>run_equalIn_int w 9998 _ .i64 .i64 a b Tryz.underlying3
  by_cases h0:a=d
  ·by_cases h1:b=e
   ·by_cases h2:c=f <;> simp [Op.eqFields,Sem.run_bind,Result.andThen_ok,q0,q1,q2,e1,h0,h1,h2]
   ·simp [Op.eqFields,Sem.run_bind,Result.andThen_ok,q0,q1,q2,e1,h0,h1]
  ·simp [Op.eqFields,Sem.run_bind,Result.andThen_ok,q0,q1,q2,e1,h0]
theorem eql_fb (a b c d e f:Int) (w:World):(binOp .eql 95 (.agg #[.int .i64 a,.int .i64 b,.int .i64 c]) (.agg #[.int .i64 d,.int .i64 e,.int .i64 f])).run Tryz.prog w=.ok (.bool (decide (a=d)&&(decide (b=e)&&decide (c=f)))) w:=by
 rw [run_eql_struct,eqFb];rfl
theorem two_no {α:Type} {l:List α} {i k:Nat} {x:α} (hk:k<i) (h1:l[i]?=some x) (h2:l[k]?=some x):¬ l.Nodup:=fun hn=>by
 obtain ⟨hi,e1⟩:=List.getElem?_eq_some_iff.1 h1;obtain ⟨hk2,e2⟩:=List.getElem?_eq_some_iff.1 h2;exact List.pairwise_iff_getElem.1 hn k i hk2 hi hk (e2.trans e1.symm)
theorem nodup_up {α:Type} {l:List α} {i:Nat} {x:α} (h:(l.take i).Nodup) (h1:l[i]?=some x) (hn:∀ k,k<i->l[k]?≠some x):(l.take (i+1)).Nodup:=by
 rw [List.take_add_one,h1];refine List.nodup_append.2 ⟨h,by simp,fun a ha b hb=>?_⟩
 simp at hb;subst hb;rintro rfl;obtain ⟨k,hk,e⟩:=List.mem_iff_getElem.1 ha;rw [List.length_take] at hk;rw [List.getElem_take] at e;exact hn k (by omega) (by rw [List.getElem?_eq_getElem (by omega),e])
theorem take_all_up {α:Type} {p:α->Prop} {l:List α} {i:Nat} {x:α} (h:∀ a∈l.take i,p a) (h1:l[i]?=some x) (hx:p x):∀ a∈l.take (i+1),p a:=fun a ha=>by
 rw [List.take_add_one,h1] at ha
 rcases List.mem_append.1 ha with h2 | h2
 ·exact h a h2
 ·simp at h2;subst h2;exact hx
def foA (gb:Nat) (sv pv st fv:Value) (kg ko FL lc i:Nat) (fs w0 w1 w2 w3:Int) (rs rz:Bool) (j:Nat) (v:Value) (W:World):Prop :=
 match j with
 | 0=>v=.agg #[sv,pv,st,fv,.slice (some ⟨kg,ko,none⟩) FL lc]
 | 1=>v=.pointer (some ⟨gb,4,none⟩)
 | 2=>v=.slice (some ⟨kg,ko,none⟩) FL lc
 | 3=>v=.int .i64 (i:Int)
 | 4=>v=.pointer (some ⟨kg,ko+i * 5,none⟩)
 | 5=>v=.pointer (some ⟨kg,ko+i * 5,none⟩)
 | 6=>v=.int .i64 fs
 | 7=>v=.bool rs
 | 8=>v=.bool (!rs)
 | 9=>v=.bool (!rs)
 | 10=>v=.pointer (some ⟨gb,4,none⟩)
 | 11=>v=.slice (some ⟨kg,ko,none⟩) FL lc
 | 12=>v=.int .i64 (i:Int)
 | 13=>v=.pointer (some ⟨kg,ko+i * 5,none⟩)
 | 14=>v=.pointer (some ⟨kg,ko+i * 5+1,none⟩)
 | 15=>v=.agg #[.int .u64 w0,.int .u64 w1,.int .u64 w2,.int .u64 w3]
 | 16=>v=.bool rz
 | 17=>v=.bool (!rs || rz)
 | _=>True
def foD (gb:Nat) (sv pv st fv:Value) (kg ko FL lc i:Nat) (fs w0 w1 w2 w3:Int) (rs rz:Bool) (j:Nat) (v:Value) (W:World):Prop :=
 match j with
 | 0=>v=.agg #[sv,pv,st,fv,.slice (some ⟨kg,ko,none⟩) FL lc]
 | 1=>v=.pointer (some ⟨gb,4,none⟩)
 | 2=>v=.slice (some ⟨kg,ko,none⟩) FL lc
 | 3=>v=.int .i64 (i:Int)
 | 4=>v=.pointer (some ⟨kg,ko+i * 5,none⟩)
 | 5=>v=.pointer (some ⟨kg,ko+i * 5,none⟩)
 | 6=>v=.int .i64 fs
 | 7=>v=.bool rs
 | 8=>v=.bool (!rs)
 | 9=>v=.bool (!rs)
 | 10=>True
 | 11=>True
 | 12=>True
 | 13=>True
 | 14=>True
 | 15=>True
 | 16=>True
 | 17=>v=.bool true
 | _=>True
theorem r06check_any (g:Gr) (N:Nat) (hN:N<=2000000) (w:World) (sv pv fv lv:Value) (hG:GramAt w N g sv pv fv lv) :
  Calls Tryz.prog 12 #[.agg #[sv,pv,.int .i64 g.start,fv,lv]] w fun e w'=>e=.returned (.int .i64 (chkN g)) /\ Below w.heap.size w w':=by
 obtain ⟨r,hr⟩:∃ r,chkN g=r:=⟨_,rfl⟩;rw [hr];obtain ⟨sa,sc,rfl⟩:=slice_shape hG.sorts;obtain ⟨pa,pc,rfl⟩:=prodsAt_shape hG.prodsAt;obtain ⟨fa,fcp,rfl⟩:=slice_shape hG.forbid;obtain ⟨la,lc,rfl⟩:=slice_shape hG.follow;have b0:=hG.nsorts;have b1:=hG.nprods;have b2:=hG.nforbid;have b3:=hG.nfollow;have H:=Hd (An hG (An hG.ok hr));clear hG hr
 go_enter Tryz.func12,Tryz.ntmps12
 go_upto_region 1 with fail
 have hB1:Blk (w.alloc (.cells #[.slice sa g.sorts.length sc,.slice pa g.prods.length pc,.int .i64 g.start,.slice fa g.forbid.length fcp,.slice la g.follow.length lc] 27)) w.heap.size 27 #[.slice sa g.sorts.length sc,.slice pa g.prods.length pc,.int .i64 g.start,.slice fa g.forbid.length fcp,.slice la g.follow.length lc]:=Blk.new _ _ _;have hb1:Below w.heap.size w (w.alloc (.cells #[.slice sa g.sorts.length sc,.slice pa g.prods.length pc,.int .i64 g.start,.slice fa g.forbid.length fcp,.slice la g.follow.length lc] 27)):=(Below.refl _ w).alloc (Nat.le_refl _) _;generalize (w.alloc (.cells #[.slice sa g.sorts.length sc,.slice pa g.prods.length pc,.int .i64 g.start,.slice fa g.forbid.length fcp,.slice la g.follow.length lc] 27))=W1 at hB1 hb1 ⊢;have H1:=Hd (An hB1 hb1);have g0:=hB1.cell 0;have g1:=hB1.cell 1;have g2:=hB1.cell 2;have g3:=hB1.cell 3;have g4:=hB1.cell 4;simp at g0 g1 g2 g3 g4;clear hB1 hb1
 by_cases n0:(g.sorts.length:Int)<1
 ·have hv:r=160:=by rw [<- H.out.2.2];exact chk_no1 (sortsB_no0 (.inl (by omega)))
  clear H;go_wp2_with fail
  go_ret
  exact ⟨by first | rfl | (rw [hv];rfl),H1.out.2⟩
 ·by_cases n1:1000<(g.sorts.length:Int)
  ·have hv:r=160:=by rw [<- H.out.2.2];exact chk_no1 (sortsB_no0 (.inr (.inl (by omega))))
   clear H;go_wp2_with fail
   go_ret
   exact ⟨by first | rfl | (rw [hv];rfl),H1.out.2⟩
  ·by_cases n2:1000<(g.prods.length:Int)
   ·have hv:r=160:=by rw [<- H.out.2.2];exact chk_no2 (prodsB_no0 (by omega))
    clear H;go_wp2_with fail
    go_ret
    exact ⟨by first | rfl | (rw [hv];rfl),H1.out.2⟩
   ·obtain ⟨rs,hrs⟩:∃ rs,decide (0<=g.start /\ g.start<(g.sorts.length:Int))=rs:=⟨_,rfl⟩
    have hst:=rsort_any W1 sa g.sorts.length sc (.slice pa g.prods.length pc) (.int .i64 g.start) (.slice fa g.forbid.length fcp) (.slice la g.follow.length lc) g.start rs hrs;have HRS:=Hd hrs;clear hrs;go_wp2_with fail
    refine hst.mono ?_;rintro e w2 ⟨rfl,hb2⟩;have K2:=Hd (An (H1.out.1.below hb2 H1.out.1.lt) (H1.out.2.trans (hb2.mono H1.out.2.size)));clear hb2 hst g0 g1 g2 g3 g4
    cases rs with
    | false =>
     have hv:r=160:=by rw [<- H.out.2.2];exact chk_no1 (sortsB_no0 (.inr (.inr (of_decide_eq_false HRS.out))))
     clear H;go_wp2_with fail
     go_ret
     exact ⟨by first | rfl | (rw [hv];rfl),K2.out.2⟩
    | true =>
     have n0':1<=g.sorts.length:=by omega
     have n1':g.sorts.length<=1000:=by omega
     have n2':g.prods.length<=1000:=by omega
     have HN0:=Hd (An n0' (An n1' (An n2' (of_decide_eq_true HRS.out))));clear n0' HRS n0 n1 n2;go_wp2_with fail
     go_loopg [3] g.sorts.length (fun m v3 wx=>∃ i:Nat,i<=g.sorts.length /\ m=g.sorts.length - i /\ v3=.int .i64 (i:Int) /\ SortsUp g i /\ Below w2.heap.size w2 wx)
     case atStart=>exact ⟨0,by omega,rfl,rfl,⟨by simp,by simp⟩,Below.refl _ _⟩
     case round =>
      obtain ⟨i,hi,hm,rfl,hup,hbx⟩:=hrel;have hgB:=K2.out.1.below hbx K2.out.1.lt;have hbw:Below w.heap.size w wr:=K2.out.2.trans (hbx.mono K2.out.2.size);have q:wr.cell? ⟨w.heap.size,0,none⟩=some (.slice sa g.sorts.length sc):=hgB.cell 0
      by_cases hil:i<g.sorts.length
      ·obtain ⟨s,hs⟩:∃ s,g.sorts[i]?=some s:=⟨_,List.getElem?_eq_getElem hil⟩
       obtain ⟨sa2,sc2,e1,_,_,hsk⟩:=H.out.1.sorts;injection e1 with e1 e2 e3;subst e1;obtain ⟨kg,ko,rfl,_,hkr⟩:=hsk (by rintro h;rw [h] at hil;simp at hil)
       have g0:wr.cell? ⟨w.heap.size,0,none⟩=some (.slice (some ⟨kg,ko,none⟩) g.sorts.length sc):=hgB.cell 0;have k0:=(World.cell?_of_block (hbw.block kg hkr.lt)).trans (hkr.cells i _ hs 0 _ rfl);simp only [Nat.add_zero,Nat.mul_one] at k0;have hsm:=H.out.1.str s (List.mem_of_getElem? hs);have hi0:(0:Int)<=(i:Int):=by omega
       have hi1:(i:Int)<(g.sorts.length:Int):=by omega
       have Q:=Hd (An hm (An hup (An hbx (An hs (An hkr hgB)))));clear hm hup hbx hs hkr hgB e2 e3 hsk
       by_cases s0:s=[]
       ·have hv:r=160:=by rw [<- H.out.2.2];exact chk_no1 (sortsB_no1 (List.mem_of_getElem? Q.out.2.2.2.1) (.inl s0))
        subst s0;clear H;go_wp2_with fail
        go_ret
        exact ⟨by first | rfl | (rw [hv];rfl),hbw⟩
       ·have hse:s.isEmpty=false:=by simpa using s0
        by_cases s1:1000<s.length
        ·have hv:r=160:=by rw [<- H.out.2.2];exact chk_no1 (sortsB_no1 (List.mem_of_getElem? Q.out.2.2.2.1) (.inr s1))
         have s1':(1000:Int)<(s.length:Int):=by omega
         clear H;go_wp2_with fail
         go_ret
         exact ⟨by first | rfl | (rw [hv];rfl),hbw⟩
        ·have s1':(s.length:Int)<=1000:=by omega
         obtain ⟨wq,rfl⟩:∃ wq:World,wq=wr:=⟨_,rfl⟩;have HW:=Hd (An hbw (An s0 (show s.length<=1000 from by omega)))
         clear hbw s0;go_wp2_with fail
         go_loopg [4] i (fun m v4 wx=>∃ k:Nat,k<=i /\ m=i - k /\ v4=.int .i64 (k:Int) /\ (∀ j,j<k->g.sorts[j]?≠some s) /\ Below wq.heap.size wq wx)
         case atStart=>exact ⟨0,Nat.zero_le _,rfl,rfl,fun j hj=>absurd hj (Nat.not_lt_zero _),Below.refl _ _⟩
         case round =>
          obtain ⟨k,hk,hmk,rfl,hno,hbk⟩:=hrel;have hgk:=Q.out.2.2.2.2.2.below hbk Q.out.2.2.2.2.2.lt;have g0:wr.cell? ⟨w.heap.size,0,none⟩=some (.slice (some ⟨kg,ko,none⟩) g.sorts.length sc):=hgk.cell 0;have hb3:=HW.out.1.trans (hbk.mono HW.out.1.size)
          by_cases hki:k<i
          ·obtain ⟨t,ht⟩:∃ t,g.sorts[k]?=some t:=⟨_,List.getElem?_eq_getElem (by omega)⟩
           have k0:=(World.cell?_of_block (hb3.block kg Q.out.2.2.2.2.1.lt)).trans (Q.out.2.2.2.2.1.cells i _ Q.out.2.2.2.1 0 _ rfl);have k1:=(World.cell?_of_block (hb3.block kg Q.out.2.2.2.2.1.lt)).trans (Q.out.2.2.2.2.1.cells k _ ht 0 _ rfl);simp only [Nat.add_zero,Nat.mul_one] at k0 k1;have hk0:(0:Int)<=(k:Int):=by omega
           have hk1:(k:Int)<(g.sorts.length:Int):=by omega
           obtain ⟨b,hb⟩:∃ b,(t==s)=b:=⟨_,rfl⟩;have N:=Hd (An hmk (An hno (An hbk (An ht (An hb3 hb)))));clear hmk hno hbk ht hb3 hgk;obtain ⟨wp,rfl⟩:∃ wp:World,wp=wr:=⟨_,rfl⟩
           cases b with
           | true =>
            have hv:r=160:=by
             rw [<- H.out.2.2];refine chk_no1 (sortsB_no2 ?_);have h1:=N.out.2.2.2.1;rw [eq_of_beq N.out.2.2.2.2.2] at h1;exact two_no hki Q.out.2.2.2.1 h1
            clear H;go_wp2_with fail
            go_quiet (fail)
            go_wp2_with fail
            go_ret
            exact ⟨by first | rfl | (rw [hv];rfl),below_drewN N.out.2.2.2.2.1 _⟩
           | false =>
            have HNO:=Hd (show ∀ j,j<k+1->g.sorts[j]?≠some s from fun j hj=>by
             by_cases e:j=k
             ·subst e
              rw [N.out.2.2.2.1];intro h;injection h with h;have h1:=N.out.2.2.2.2.2;rw [h] at h1;simp at h1
             ·exact N.out.2.1 j (by omega))
            go_wp2_with fail
            go_quiet (fail)
            go_wp2_with fail
            go_roundg (i - (k+1))
            case measure=>have h1:=N.out.1;omega
            case rel=>exact ⟨k+1,by omega,rfl,rfl,HNO.out,below_drewN N.out.2.2.1 _⟩
          ·obtain rfl:k=i:=by omega
           have HU:=Hd (show SortsUp g (k+1) from ⟨nodup_up Q.out.2.1.1 Q.out.2.2.2.1 hno,take_all_up Q.out.2.1.2 Q.out.2.2.2.1 HW.out.2⟩);have HX:=Hd (Q.out.2.2.1.trans (hbk.mono Q.out.2.2.1.size));clear hno hbk hmk hb3 hgk g0;go_wp2_with fail
           go_roundg (g.sorts.length - (k+1))
           case measure=>have h1:=Q.out.1;omega
           case rel=>exact ⟨k+1,by omega,rfl,rfl,HU.out,HX.out⟩
      ·obtain rfl:i=g.sorts.length:=by omega
       have hsb:sortsB g=true:=by
        have h1:=hup.1;have h2:=hup.2;rw [List.take_length] at h1 h2;exact (sortsB_iff g).2 ⟨h1,h2,HN0.out.1,HN0.out.2.1,HN0.out.2.2.2⟩
       have HSB:=Hd hsb;have K3:=Hd (An hgB hbw);clear hsb hgB hbw hup hbx hm;obtain ⟨w3,rfl⟩:∃ w3:World,w3=wr:=⟨_,rfl⟩;go_wp2_with fail
       go_loopg [5] g.prods.length (fun m v5 wx=>∃ i:Nat,i<=g.prods.length /\ m=g.prods.length - i /\ v5=.int .i64 (i:Int) /\ (∀ p∈g.prods.take i,prodB g p=true) /\ Below w3.heap.size w3 wx)
       case atStart=>exact ⟨0,by omega,rfl,rfl,by simp,Below.refl _ _⟩
       case round =>
        obtain ⟨i,hi,hm,rfl,hup,hbx⟩:=hrel;have hgB:=K3.out.1.below hbx K3.out.1.lt;have hbw:Below w.heap.size w wr:=K3.out.2.trans (hbx.mono K3.out.2.size);have q:wr.cell? ⟨w.heap.size,1,none⟩=some (.slice pa g.prods.length pc):=hgB.cell 1
        by_cases hil:i<g.prods.length
        ·obtain ⟨p,hp⟩:∃ p,g.prods[i]?=some p:=⟨_,List.getElem?_eq_getElem hil⟩
         obtain ⟨cap,pb,po,vr,epv,hbl,hvr,hpc⟩:=H.out.1.prodsAt.at_ hp;injection epv with e1 e2 e3;subst e1;subst e3;obtain ⟨ra,rc,rfl⟩:=slice_shape hvr;obtain ⟨g0,g1,g2,g3,g4⟩:wr.cell? ⟨w.heap.size,0,none⟩=some (.slice sa g.sorts.length sc) /\ wr.cell? ⟨w.heap.size,1,none⟩=some (.slice (some ⟨pb,po,none⟩) g.prods.length pc) /\ wr.cell? ⟨w.heap.size,2,none⟩=some (.int .i64 g.start) /\ wr.cell? ⟨w.heap.size,3,none⟩=some (.slice fa g.forbid.length fcp) /\ wr.cell? ⟨w.heap.size,4,none⟩=some (.slice la g.follow.length lc):=⟨hgB.cell 0,hgB.cell 1,hgB.cell 2,hgB.cell 3,hgB.cell 4⟩;have up:∀ {i:Nat} {u:Value},w.cell? ⟨pb,i,none⟩=some u->wr.cell? ⟨pb,i,none⟩=some u:=fun h=>(World.cell?_of_block (hbw.block pb hbl)).trans h
         have f0:=up (hpc 0 _ rfl);have f1:=up (hpc 1 _ rfl);have f2:=up (hpc 2 _ rfl);have f3:=up (hpc 3 _ rfl);have f4:=up (hpc 4 _ rfl);have f5:=up (hpc 5 _ rfl);have f6:=up (hpc 6 _ rfl);simp only [Nat.add_zero] at f0;have hi0:(0:Int)<=(i:Int):=by omega
         have hi1:(i:Int)<(g.prods.length:Int):=by omega
         have hpo:=H.out.2.1 p (List.mem_of_getElem? hp);have hcall:Calls Tryz.prog 35 #[.agg #[.slice sa g.sorts.length sc,.slice (some ⟨pb,po,none⟩) g.prods.length pc,.int .i64 g.start,.slice fa g.forbid.length fcp,.slice la g.follow.length lc],.agg #[.int .i64 p.left,.slice ra p.right.length rc,.string ⟨p.cons.toArray⟩,.int .i64 p.role,.bool p.prefer,.bool p.avoid,.int .i64 p.made]] wr.drew fun e w'=>e=.returned (.bool (prodB g p)) /\ Below wr.drew.heap.size wr.drew w' :=
          rprod_any g (by omega) wr.drew sa sc _ _ _ p ra rc (hvr.keep fun q _ hl=>⟨trivial,hbw.drew.block q hl⟩) (by omega) (by omega) (fun s hs=>(hpo.2.2.1 s hs).1)
         obtain ⟨b,hb⟩:∃ b,prodB g p=b:=⟨_,rfl⟩;rw [hb] at hcall;have Q:=Hd (An hm (An hup (An hbx (An hp (An hb hbw)))));clear hm hup hbx hp hb hbw hgB hpc hvr up hpo e2 hbl;obtain ⟨wt,rfl⟩:∃ wt:World,wt=wr:=⟨_,rfl⟩;go_wp2_with fail
         go_still_tail 6,(by kernel_rfl)
         repeat still_step
         try refine wpStill_nil ?_
         change wpList _ _ _ _ _ wt.drew
         go_wp2_with fail
         refine hcall.mono ?_;rintro e w5 ⟨rfl,hb5⟩;have H5:=Hd (show Below wt.heap.size wt w5 from (show Below wt.heap.size wt wt.drew from (Below.refl _ _).drew).trans hb5);clear hb5 hcall f0 f1 f2 f3 f4 f5 f6 g0 g1 g2 g3 g4
         cases b with
         | false =>
          have hv:r=160:=by rw [<- H.out.2.2];exact chk_no2 (prodsB_no (List.mem_of_getElem? Q.out.2.2.2.1) Q.out.2.2.2.2.1)
          clear H;go_wp2_with fail
          go_ret
          exact ⟨by first | rfl | (rw [hv];rfl),Q.out.2.2.2.2.2.trans (H5.out.mono Q.out.2.2.2.2.2.size)⟩
         | true =>
          go_wp2_with fail
          go_roundg (g.prods.length - (i+1))
          case measure=>have h1:=Q.out.1;omega
          case rel=>exact ⟨i+1,by omega,rfl,rfl,take_all_up Q.out.2.1 Q.out.2.2.2.1 Q.out.2.2.2.2.1,Q.out.2.2.1.trans (H5.out.mono Q.out.2.2.1.size)⟩
        ·obtain rfl:i=g.prods.length:=by omega
         have hpb:prodsB g=true:=by
          unfold prodsB;rw [List.take_length] at hup;rw [List.all_eq_true.2 hup,decide_eq_true (by omega)]
          rfl
         have HPB:=Hd hpb;have K4:=Hd (An hgB hbw);clear hpb hgB hbw hup hbx hm;obtain ⟨w4,rfl⟩:∃ w4:World,w4=wr:=⟨_,rfl⟩;go_wp2_with fail
         go_loopg [6] g.forbid.length (fun m v6 wx=>∃ i:Nat,i<=g.forbid.length /\ m=g.forbid.length - i /\ v6=.int .i64 (i:Int) /\ ((g.forbid.take i).Nodup /\ ∀ f∈g.forbid.take i,fbB g f=true) /\ Below w4.heap.size w4 wx)
         case atStart=>exact ⟨0,by omega,rfl,rfl,⟨by simp,by simp⟩,Below.refl _ _⟩
         case round =>
          obtain ⟨i,hi,hm,rfl,hup,hbx⟩:=hrel;have hgB:=K4.out.1.below hbx K4.out.1.lt;have hbw:Below w.heap.size w wr:=K4.out.2.trans (hbx.mono K4.out.2.size);have q:wr.cell? ⟨w.heap.size,3,none⟩=some (.slice fa g.forbid.length fcp):=hgB.cell 3
          by_cases hil:i<g.forbid.length
          ·obtain ⟨f,hf⟩:∃ f,g.forbid[i]?=some f:=⟨_,List.getElem?_eq_getElem hil⟩
           obtain ⟨fa2,fc2,e1,_,_,hfk⟩:=H.out.1.forbid;injection e1 with e1 e2 e3;subst e1;obtain ⟨kg,ko,rfl,_,hkr⟩:=hfk (by rintro h;rw [h] at hil;simp at hil)
           obtain ⟨g0,g1,g2,g3,g4⟩:wr.cell? ⟨w.heap.size,0,none⟩=some (.slice sa g.sorts.length sc) /\ wr.cell? ⟨w.heap.size,1,none⟩=some (.slice pa g.prods.length pc) /\ wr.cell? ⟨w.heap.size,2,none⟩=some (.int .i64 g.start) /\ wr.cell? ⟨w.heap.size,3,none⟩=some (.slice (some ⟨kg,ko,none⟩) g.forbid.length fcp) /\ wr.cell? ⟨w.heap.size,4,none⟩=some (.slice la g.follow.length lc):=⟨hgB.cell 0,hgB.cell 1,hgB.cell 2,hgB.cell 3,hgB.cell 4⟩;have k0:=(World.cell?_of_block (hbw.block kg hkr.lt)).trans (hkr.cells i _ hf 0 _ rfl);have k1:=(World.cell?_of_block (hbw.block kg hkr.lt)).trans (hkr.cells i _ hf 1 _ rfl);have k2:=(World.cell?_of_block (hbw.block kg hkr.lt)).trans (hkr.cells i _ hf 2 _ rfl);simp only [Nat.add_zero] at k0;have hi0:(0:Int)<=(i:Int):=by omega
           have hi1:(i:Int)<(g.forbid.length:Int):=by omega
           have hcall:=rforbid_any g (by omega) (fun p hp=>by have:=H.out.2.1 p hp;omega) wr.drew (.slice sa g.sorts.length sc) (.slice pa g.prods.length pc) (.slice (some ⟨kg,ko,none⟩) g.forbid.length fcp) (.slice la g.follow.length lc) (H.out.1.prodsAt.keep fun q _ hl=>⟨trivial,hbw.drew.block q hl⟩) f (H.out.1.fb f (List.mem_of_getElem? hf))
           obtain ⟨b,hb⟩:∃ b,fbB g f=b:=⟨_,rfl⟩;rw [hb] at hcall;have Q:=Hd (An hm (An hup (An hbx (An hf (An hb (An hbw (An hkr hgB)))))));clear hm hup hbx hf hb hbw hgB hkr e2 e3 hfk;obtain ⟨wt,rfl⟩:∃ wt:World,wt=wr:=⟨_,rfl⟩;go_wp2_with fail
           go_still_tail 6,(by kernel_rfl)
           repeat still_step
           try refine wpStill_nil ?_
           change wpList _ _ _ _ _ wt.drew
           go_wp2_with fail
           refine hcall.mono ?_;rintro e w5 ⟨rfl,hb5⟩;have H5:=Hd (show Below wt.heap.size wt w5 from (show Below wt.heap.size wt wt.drew from (Below.refl _ _).drew).trans hb5);clear hb5 hcall k0 k1 k2 g0 g1 g2 g3 g4
           cases b with
           | false =>
            have hv:r=160:=by rw [<- H.out.2.2];exact chk_no3 (forbidsB_no (List.mem_of_getElem? Q.out.2.2.2.1) Q.out.2.2.2.2.1)
            clear H;go_wp2_with fail
            go_ret
            exact ⟨by first | rfl | (rw [hv];rfl),Q.out.2.2.2.2.2.1.trans (H5.out.mono Q.out.2.2.2.2.2.1.size)⟩
           | true =>
            go_wp2_with fail
            go_loopg [7] i (fun m v7 wx=>∃ k:Nat,k<=i /\ m=i - k /\ v7=.int .i64 (k:Int) /\ (∀ j,j<k->g.forbid[j]?≠some f) /\ Below wt.heap.size wt wx)
            case atStart=>exact ⟨0,Nat.zero_le _,rfl,rfl,fun j hj=>absurd hj (Nat.not_lt_zero _),H5.out⟩
            case round =>
             obtain ⟨k,hk,hmk,rfl,hno,hbk⟩:=hrel;have hgk:=Q.out.2.2.2.2.2.2.2.below hbk Q.out.2.2.2.2.2.2.2.lt;have g3:wr.cell? ⟨w.heap.size,3,none⟩=some (.slice (some ⟨kg,ko,none⟩) g.forbid.length fcp):=hgk.cell 3;have hb3:=Q.out.2.2.2.2.2.1.trans (hbk.mono Q.out.2.2.2.2.2.1.size)
             by_cases hki:k<i
             ·obtain ⟨t,ht⟩:∃ t,g.forbid[k]?=some t:=⟨_,List.getElem?_eq_getElem (by omega)⟩
              have up:=hb3.block kg Q.out.2.2.2.2.2.2.1.lt;have k0:=(World.cell?_of_block up).trans (Q.out.2.2.2.2.2.2.1.cells i _ Q.out.2.2.2.1 0 _ rfl);have k1:=(World.cell?_of_block up).trans (Q.out.2.2.2.2.2.2.1.cells i _ Q.out.2.2.2.1 1 _ rfl);have k2:=(World.cell?_of_block up).trans (Q.out.2.2.2.2.2.2.1.cells i _ Q.out.2.2.2.1 2 _ rfl);have t0:=(World.cell?_of_block up).trans (Q.out.2.2.2.2.2.2.1.cells k _ ht 0 _ rfl);have t1:=(World.cell?_of_block up).trans (Q.out.2.2.2.2.2.2.1.cells k _ ht 1 _ rfl);have t2:=(World.cell?_of_block up).trans (Q.out.2.2.2.2.2.2.1.cells k _ ht 2 _ rfl);simp only [Nat.add_zero] at k0 t0;have hk0:(0:Int)<=(k:Int):=by omega
              have hk1:(k:Int)<(g.forbid.length:Int):=by omega
              obtain ⟨b,hb⟩:∃ b,(decide (t.1=f.1)&&(decide (t.2.1=f.2.1)&&decide (t.2.2=f.2.2)))=b:=⟨_,rfl⟩;have hbb:b=decide (t=f):=by
               rw [<- hb,Bool.eq_iff_iff];obtain ⟨x,y,z⟩:=t;obtain ⟨x',y',z'⟩:=f;simp
              have hqe:=fun W=>eql_fb t.1 t.2.1 t.2.2 f.1 f.2.1 f.2.2 W
              rw [hb] at hqe;have N:=Hd (An hmk (An hno (An hbk (An ht (An hb3 hbb)))));clear hmk hno hbk ht hb3 hgk hb hbb up;obtain ⟨wp,rfl⟩:∃ wp:World,wp=wr:=⟨_,rfl⟩
              cases b with
              | true =>
               have hv:r=160:=by
                rw [<- H.out.2.2];refine chk_no3 (forbidsB_no2 ?_);have h1:=N.out.2.2.2.1;rw [of_decide_eq_true N.out.2.2.2.2.2.symm] at h1;exact two_no hki Q.out.2.2.2.1 h1
               clear H;go_wp2_with fail
               go_quiet (fail)
               go_wp2_with fail
               go_ret
               exact ⟨by first | rfl | (rw [hv];rfl),below_drewN N.out.2.2.2.2.1 _⟩
              | false =>
               have HNO:=Hd (show ∀ j,j<k+1->g.forbid[j]?≠some f from fun j hj=>by
                by_cases e:j=k
                ·subst e
                 rw [N.out.2.2.2.1];intro h;injection h with h;exact of_decide_eq_false N.out.2.2.2.2.2.symm h
                ·exact N.out.2.1 j (by omega))
               go_wp2_with fail
               go_quiet (fail)
               go_wp2_with fail
               go_roundg (i - (k+1))
               case measure=>have h1:=N.out.1;omega
               case rel=>exact ⟨k+1,by omega,rfl,rfl,HNO.out,below_drewN N.out.2.2.1 _⟩
             ·obtain rfl:k=i:=by omega
              have HU:=Hd (show (g.forbid.take (k+1)).Nodup /\ ∀ f∈g.forbid.take (k+1),fbB g f=true from ⟨nodup_up Q.out.2.1.1 Q.out.2.2.2.1 hno,take_all_up Q.out.2.1.2 Q.out.2.2.2.1 Q.out.2.2.2.2.1⟩);have HX:=Hd (Q.out.2.2.1.trans (hbk.mono Q.out.2.2.1.size));clear hno hbk hmk hb3 hgk g3;go_wp2_with fail
              go_roundg (g.forbid.length - (k+1))
              case measure=>have h1:=Q.out.1;omega
              case rel=>exact ⟨k+1,by omega,rfl,rfl,HU.out,HX.out⟩
          ·obtain rfl:i=g.forbid.length:=by omega
           have hfb:forbidsB g=true:=by
            unfold forbidsB;rw [List.take_length] at hup;rw [List.all_eq_true.2 hup.2,decide_eq_true hup.1]
            rfl
           have HFB:=Hd hfb;have K5:=Hd (An hgB hbw);clear hfb hgB hbw hup hbx hm;obtain ⟨w5,rfl⟩:∃ w5:World,w5=wr:=⟨_,rfl⟩;go_wp2_with fail
           go_loopg [8] g.follow.length (fun m v8 wx=>∃ i:Nat,i<=g.follow.length /\ m=g.follow.length - i /\ v8=.int .i64 (i:Int) /\ (((g.follow.map (·.1)).take i).Nodup /\ ∀ f∈g.follow.take i,(inB g f.1&&!decide (f.2=0))=true) /\ Below w5.heap.size w5 wx)
           case atStart=>exact ⟨0,by omega,rfl,rfl,⟨by simp,by simp⟩,Below.refl _ _⟩
           case round =>
            obtain ⟨i,hi,hm,rfl,hup,hbx⟩:=hrel;have hgB:=K5.out.1.below hbx K5.out.1.lt;have hbw:Below w.heap.size w wr:=K5.out.2.trans (hbx.mono K5.out.2.size);have q:wr.cell? ⟨w.heap.size,4,none⟩=some (.slice la g.follow.length lc):=hgB.cell 4
            by_cases hil:i<g.follow.length
            ·obtain ⟨⟨fs,fM⟩,hf⟩:∃ f,g.follow[i]?=some f:=⟨_,List.getElem?_eq_getElem hil⟩
             obtain ⟨fa2,fc2,e1,_,_,hfk⟩:=H.out.1.follow;injection e1 with e1 e2 e3;subst e1;obtain ⟨kg,ko,rfl,_,hkr⟩:=hfk (by rintro h;rw [h] at hil;simp at hil)
             have hM:=(H.out.1.fo _ (List.mem_of_getElem? hf)).2;simp only at hM;have up:=hbw.block kg hkr.lt;have k0:wr.cell? ⟨kg,ko+i * 5,none⟩=some (.int .i64 fs):=(World.cell?_of_block up).trans (hkr.cells i _ hf 0 _ rfl);have k1:wr.cell? ⟨kg,ko+i * 5+1,none⟩=some (.int .u64 (wd fM 0)):=(World.cell?_of_block up).trans (hkr.cells i _ hf 1 _ rfl);have k2:wr.cell? ⟨kg,ko+i * 5+2,none⟩=some (.int .u64 (wd fM 1)):=(World.cell?_of_block up).trans (hkr.cells i _ hf 2 _ rfl);have k3:wr.cell? ⟨kg,ko+i * 5+3,none⟩=some (.int .u64 (wd fM 2)):=(World.cell?_of_block up).trans (hkr.cells i _ hf 3 _ rfl);have k4:wr.cell? ⟨kg,ko+i * 5+4,none⟩=some (.int .u64 (wd fM 3)):=(World.cell?_of_block up).trans (hkr.cells i _ hf 4 _ rfl);have g4:wr.cell? ⟨w.heap.size,4,none⟩=some (.slice (some ⟨kg,ko,none⟩) g.follow.length lc):=hgB.cell 4;have HC:=Hd (show ∀ W,Below wr.drew.heap.size wr.drew W->W.cell? ⟨w.heap.size,0,none⟩=some (.slice sa g.sorts.length sc) /\ W.cell? ⟨w.heap.size,1,none⟩=some (.slice pa g.prods.length pc) /\ W.cell? ⟨w.heap.size,2,none⟩=some (.int .i64 g.start) /\ W.cell? ⟨w.heap.size,3,none⟩=some (.slice fa g.forbid.length fcp) /\ W.cell? ⟨w.heap.size,4,none⟩=some (.slice (some ⟨kg,ko,none⟩) g.follow.length lc) /\ W.cell? ⟨kg,ko+i * 5,none⟩=some (.int .i64 fs) /\
               W.cell? ⟨kg,ko+i * 5+1,none⟩=some (.int .u64 (wd fM 0)) /\ W.cell? ⟨kg,ko+i * 5+2,none⟩=some (.int .u64 (wd fM 1)) /\ W.cell? ⟨kg,ko+i * 5+3,none⟩=some (.int .u64 (wd fM 2)) /\ W.cell? ⟨kg,ko+i * 5+4,none⟩=some (.int .u64 (wd fM 3)) from fun W h=>by
              have st:∀ {b i:Nat} {u:Value},wr.cell? ⟨b,i,none⟩=some u->W.cell? ⟨b,i,none⟩=some u:=fun {b i u} hc=>(World.cell?_of_block (h.block b (World.block_lt_of_cell? wr _ hc))).trans hc
              exact ⟨st (hgB.cell 0),st (hgB.cell 1),st (hgB.cell 2),st (hgB.cell 3),st g4,st k0,st k1,st k2,st k3,st k4⟩)
             have hi0:(0:Int)<=(i:Int):=by omega
             have hi1:(i:Int)<(g.follow.length:Int):=by omega
             obtain ⟨rs,hrs⟩:∃ rs,inB g fs=rs:=⟨_,rfl⟩;have hca:∀ W,Calls Tryz.prog 34 #[.agg #[.slice sa g.sorts.length sc,.slice pa g.prods.length pc,.int .i64 g.start,.slice fa g.forbid.length fcp,.slice (some ⟨kg,ko,none⟩) g.follow.length lc],.int .i64 fs] W fun e w'=>e=.returned (.bool rs) /\ Below W.heap.size W w':=fun W=>rsort_any W sa g.sorts.length sc _ _ _ _ fs rs hrs
             have HCA:=Hd hca;obtain ⟨rz,hrz⟩:∃ rz,decide (fM=0)=rz:=⟨_,rfl⟩;have hce:=fun W=>rempty_any fM hM W
             rw [hrz] at hce;have HCE:=Hd hce;have Q:=Hd (An hm (An hup (An hbx (An hf (An hrs (An hbw (An hkr (An hgB hrz))))))));clear hm hup hbx hf hrs hbw hgB hkr e2 e3 hfk hca hce hrz up k0 k1 k2 k3 k4;obtain ⟨wt,rfl⟩:∃ wt:World,wt=wr:=⟨_,rfl⟩
             cases rs with
             | false =>
              have hv:r=160:=by rw [<- H.out.2.2];exact chk_no4 (followsB_no (List.mem_of_getElem? Q.out.2.2.2.1) (.inl Q.out.2.2.2.2.1))
              clear H;go_wp2_with fail
              refine wp_region_concG 18 (foD w.heap.size (.slice sa g.sorts.length sc) (.slice pa g.prods.length pc) (.int .i64 g.start) (.slice fa g.forbid.length fcp) kg ko g.follow.length lc i fs (wd fM 0) (wd fM 1) (wd fM 2) (wd fM 3) false false) (fun A W=>Below A.heap.size A W) (fun _ _=>True) [9] (fun j=>match j with | 9=>true | _=>true) (by kernel_rfl) (by kernel_rfl) (by kernel_rfl) (by kernel_rfl) (Below.refl _ _) trivial (fun h k=>h.trans (k.mono h.size)) ⟨fun v w h=>h,trivial⟩ ?_ ?_
              ·simp only [List.take_succ_cons,List.take_zero]
               refine ⟨?_,?_,?_,?_,?_,?_,?_,?_,?_,?_,?_,?_,?_,?_,?_,?_,?_,?_,trivial⟩
               ·refine ⟨fun _=>?_,fun h=>absurd h (by decide)⟩
                intro L T W hG hJ hLs hLi dq fq vq K hK;have h1:=fq 1 (by decide)
                simp at h1;obtain ⟨g0,g1,g2,g3,g4,k0,k1,k2,k3,k4⟩:=HC.out W hG;go_simp;exact hK _ _ (Below.refl _ W) (fun j u _ _ _ h=>h) trivial rfl
               ·refine ⟨fun _=>?_,fun h=>absurd h (by decide)⟩
                intro L T W hG hJ hLs hLi dq fq vq K hK;have h1:=fq 1 (by decide)
                simp at h1;go_simp;exact hK _ _ (Below.refl _ W) (fun j u _ _ _ h=>h) trivial rfl
               ·refine ⟨fun _=>?_,fun h=>absurd h (by decide)⟩
                intro L T W hG hJ hLs hLi dq fq vq K hK;have h1:=vq ⟨1,.data⟩ (by simp) rfl 125 rfl
                simp only [foD] at h1;simp at h1;obtain ⟨g0,g1,g2,g3,g4,k0,k1,k2,k3,k4⟩:=HC.out W hG;go_simp;exact hK _ _ (Below.refl _ W) (fun j u _ _ _ h=>h) trivial rfl
               ·refine ⟨fun _=>?_,fun h=>absurd h (by decide)⟩
                intro L T W hG hJ hLs hLi dq fq vq K hK;have h1:=fq 8 (by decide)
                simp at h1;go_simp;exact hK _ _ (Below.refl _ W) (fun j u _ _ _ h=>h) trivial rfl
               ·refine ⟨fun _=>?_,fun h=>absurd h (by decide)⟩
                intro L T W hG hJ hLs hLi dq fq vq K hK;have h1:=vq ⟨2,.data⟩ (by simp) rfl 126 rfl
                simp only [foD] at h1;have h2:=vq ⟨3,.data⟩ (by simp) rfl 127 rfl
                simp only [foD] at h2;simp at h1 h2;go_simp;exact hK _ _ (Below.refl _ W) (fun j u _ _ _ h=>h) trivial rfl
               ·refine ⟨fun _=>?_,fun h=>absurd h (by decide)⟩
                intro L T W hG hJ hLs hLi dq fq vq K hK;have h1:=vq ⟨4,.data⟩ (by simp) rfl 128 rfl
                simp only [foD] at h1;simp at h1;go_simp;exact hK _ _ (Below.refl _ W) (fun j u _ _ _ h=>h) trivial rfl
               ·refine ⟨fun _=>?_,fun h=>absurd h (by decide)⟩
                intro L T W hG hJ hLs hLi dq fq vq K hK;have h1:=vq ⟨5,.data⟩ (by simp) rfl 129 rfl
                simp only [foD] at h1;simp at h1;obtain ⟨g0,g1,g2,g3,g4,k0,k1,k2,k3,k4⟩:=HC.out W hG;go_simp;exact hK _ _ (Below.refl _ W) (fun j u _ _ _ h=>h) trivial rfl
               ·refine ⟨fun _=>?_,fun h=>absurd h (by decide)⟩
                intro L T W hG hJ hLs hLi dq fq vq K hK;have h1:=vq ⟨0,.data⟩ (by simp) rfl 124 rfl
                simp only [foD] at h1;have h2:=vq ⟨6,.data⟩ (by simp) rfl 130 rfl
                simp only [foD] at h2;simp at h1 h2;go_simp;refine (HCA.out W).mono ?_;rintro e W2 ⟨rfl,hb2⟩;exact hK _ _ hb2 (fun j u _ _ _ h=>h) trivial rfl
               ·refine ⟨fun _=>?_,fun h=>absurd h (by decide)⟩
                intro L T W hG hJ hLs hLi dq fq vq K hK;have h1:=vq ⟨7,.data⟩ (by simp) rfl 131 rfl
                simp only [foD] at h1;simp at h1;go_simp;exact hK _ _ (Below.refl _ W) (fun j u _ _ _ h=>h) trivial rfl
               ·refine ⟨fun _=>?_,fun h=>absurd h (by decide)⟩
                intro L T W hG hJ hLs hLi dq fq vq K hK;have h1:=vq ⟨8,.data⟩ (by simp) rfl 132 rfl
                simp only [foD] at h1;simp at h1;go_simp;exact hK _ _ (Below.refl _ W) (fun j u _ _ _ h=>h) trivial rfl
               ·exact ⟨fun h=>absurd h (by decide),fun _ L W hG hJ=>⟨(Below.refl _ W),trivial,trivial⟩⟩
               ·exact ⟨fun h=>absurd h (by decide),fun _ L W hG hJ=>⟨(Below.refl _ W),trivial,trivial⟩⟩
               ·exact ⟨fun h=>absurd h (by decide),fun _ L W hG hJ=>⟨(Below.refl _ W),trivial,trivial⟩⟩
               ·exact ⟨fun h=>absurd h (by decide),fun _ L W hG hJ=>⟨(Below.refl _ W),trivial,trivial⟩⟩
               ·exact ⟨fun h=>absurd h (by decide),fun _ L W hG hJ=>⟨(Below.refl _ W),trivial,trivial⟩⟩
               ·exact ⟨fun h=>absurd h (by decide),fun _ L W hG hJ=>⟨(Below.refl _ W),trivial,trivial⟩⟩
               ·exact ⟨fun h=>absurd h (by decide),fun _ L W hG hJ=>⟨(Below.refl _ W),trivial,trivial⟩⟩
               ·refine ⟨fun _=>?_,fun h=>absurd h (by decide)⟩
                intro L T W hG hJ hLs hLi dq fq vq K hK;have h1:=vq ⟨9,.data⟩ (by simp) rfl 133 rfl
                simp only [foD] at h1;simp at h1;go_simp;exact hK _ _ (Below.refl _ W) (fun j u _ _ _ h=>h) trivial rfl
              ·intro f9 w6 hG hJe hR
               have e17:=hR 17 141 (by decide) rfl
               simp only [concDsts,List.take_succ_cons,List.take_zero,List.drop_succ_cons,List.drop_zero,List.filterMap_cons,List.filterMap_nil,List.foldl_cons,List.foldl_nil,List.setIfInBounds_toArray,List.set_cons_zero,List.set_cons_succ];simp only [foD] at e17;rw [e17];clear e17 hR;generalize f9 124=v124;generalize f9 125=v125;generalize f9 126=v126;generalize f9 127=v127;generalize f9 128=v128;generalize f9 129=v129;generalize f9 130=v130;generalize f9 131=v131;generalize f9 132=v132;generalize f9 133=v133;generalize f9 134=v134;generalize f9 135=v135;generalize f9 136=v136;generalize f9 137=v137;generalize f9 138=v138;generalize f9 139=v139;generalize f9 140=v140;clear f9;have HX:=Hd (Q.out.2.2.2.2.2.1.trans ((show Below wt.heap.size wt w6 from (show Below wt.heap.size wt wt.drew from (Below.refl _ _).drew).trans hG).mono Q.out.2.2.2.2.2.1.size));clear hG hJe;go_wp2_with fail
               go_ret
               exact ⟨by first | rfl | (rw [hv];rfl),HX.out⟩
             | true =>
              go_wp2_with fail
              refine wp_region_concG 18 (foA w.heap.size (.slice sa g.sorts.length sc) (.slice pa g.prods.length pc) (.int .i64 g.start) (.slice fa g.forbid.length fcp) kg ko g.follow.length lc i fs (wd fM 0) (wd fM 1) (wd fM 2) (wd fM 3) true rz) (fun A W=>Below A.heap.size A W) (fun _ _=>True) [9] (fun j=>match j with | 9=>false | _=>true) (by kernel_rfl) (by kernel_rfl) (by kernel_rfl) (by kernel_rfl) (Below.refl _ _) trivial (fun h k=>h.trans (k.mono h.size)) ⟨fun v w h=>h,trivial⟩ ?_ ?_
              ·simp only [List.take_succ_cons,List.take_zero]
               refine ⟨?_,?_,?_,?_,?_,?_,?_,?_,?_,?_,?_,?_,?_,?_,?_,?_,?_,?_,trivial⟩
               ·refine ⟨fun _=>?_,fun h=>absurd h (by decide)⟩
                intro L T W hG hJ hLs hLi dq fq vq K hK;have h1:=fq 1 (by decide)
                simp at h1;obtain ⟨g0,g1,g2,g3,g4,k0,k1,k2,k3,k4⟩:=HC.out W hG;go_simp;exact hK _ _ (Below.refl _ W) (fun j u _ _ _ h=>h) trivial rfl
               ·refine ⟨fun _=>?_,fun h=>absurd h (by decide)⟩
                intro L T W hG hJ hLs hLi dq fq vq K hK;have h1:=fq 1 (by decide)
                simp at h1;go_simp;exact hK _ _ (Below.refl _ W) (fun j u _ _ _ h=>h) trivial rfl
               ·refine ⟨fun _=>?_,fun h=>absurd h (by decide)⟩
                intro L T W hG hJ hLs hLi dq fq vq K hK;have h1:=vq ⟨1,.data⟩ (by simp) rfl 125 rfl
                simp only [foA] at h1;simp at h1;obtain ⟨g0,g1,g2,g3,g4,k0,k1,k2,k3,k4⟩:=HC.out W hG;go_simp;exact hK _ _ (Below.refl _ W) (fun j u _ _ _ h=>h) trivial rfl
               ·refine ⟨fun _=>?_,fun h=>absurd h (by decide)⟩
                intro L T W hG hJ hLs hLi dq fq vq K hK;have h1:=fq 8 (by decide)
                simp at h1;go_simp;exact hK _ _ (Below.refl _ W) (fun j u _ _ _ h=>h) trivial rfl
               ·refine ⟨fun _=>?_,fun h=>absurd h (by decide)⟩
                intro L T W hG hJ hLs hLi dq fq vq K hK;have h1:=vq ⟨2,.data⟩ (by simp) rfl 126 rfl
                simp only [foA] at h1;have h2:=vq ⟨3,.data⟩ (by simp) rfl 127 rfl
                simp only [foA] at h2;simp at h1 h2;go_simp;exact hK _ _ (Below.refl _ W) (fun j u _ _ _ h=>h) trivial rfl
               ·refine ⟨fun _=>?_,fun h=>absurd h (by decide)⟩
                intro L T W hG hJ hLs hLi dq fq vq K hK;have h1:=vq ⟨4,.data⟩ (by simp) rfl 128 rfl
                simp only [foA] at h1;simp at h1;go_simp;exact hK _ _ (Below.refl _ W) (fun j u _ _ _ h=>h) trivial rfl
               ·refine ⟨fun _=>?_,fun h=>absurd h (by decide)⟩
                intro L T W hG hJ hLs hLi dq fq vq K hK;have h1:=vq ⟨5,.data⟩ (by simp) rfl 129 rfl
                simp only [foA] at h1;simp at h1;obtain ⟨g0,g1,g2,g3,g4,k0,k1,k2,k3,k4⟩:=HC.out W hG;go_simp;exact hK _ _ (Below.refl _ W) (fun j u _ _ _ h=>h) trivial rfl
               ·refine ⟨fun _=>?_,fun h=>absurd h (by decide)⟩
                intro L T W hG hJ hLs hLi dq fq vq K hK;have h1:=vq ⟨0,.data⟩ (by simp) rfl 124 rfl
                simp only [foA] at h1;have h2:=vq ⟨6,.data⟩ (by simp) rfl 130 rfl
                simp only [foA] at h2;simp at h1 h2;go_simp;refine (HCA.out W).mono ?_;rintro e W2 ⟨rfl,hb2⟩;exact hK _ _ hb2 (fun j u _ _ _ h=>h) trivial rfl
               ·refine ⟨fun _=>?_,fun h=>absurd h (by decide)⟩
                intro L T W hG hJ hLs hLi dq fq vq K hK;have h1:=vq ⟨7,.data⟩ (by simp) rfl 131 rfl
                simp only [foA] at h1;simp at h1;go_simp;exact hK _ _ (Below.refl _ W) (fun j u _ _ _ h=>h) trivial rfl
               ·refine ⟨fun _=>?_,fun h=>absurd h (by decide)⟩
                intro L T W hG hJ hLs hLi dq fq vq K hK;have h1:=vq ⟨8,.data⟩ (by simp) rfl 132 rfl
                simp only [foA] at h1;simp at h1;go_simp;exact hK _ _ (Below.refl _ W) (fun j u _ _ _ h=>h) trivial rfl
               ·refine ⟨fun _=>?_,fun h=>absurd h (by decide)⟩
                intro L T W hG hJ hLs hLi dq fq vq K hK;have h1:=fq 1 (by decide)
                simp at h1;go_simp;exact hK _ _ (Below.refl _ W) (fun j u _ _ _ h=>h) trivial rfl
               ·refine ⟨fun _=>?_,fun h=>absurd h (by decide)⟩
                intro L T W hG hJ hLs hLi dq fq vq K hK;have h1:=vq ⟨10,.data⟩ (by simp) rfl 134 rfl
                simp only [foA] at h1;simp at h1;obtain ⟨g0,g1,g2,g3,g4,k0,k1,k2,k3,k4⟩:=HC.out W hG;go_simp;exact hK _ _ (Below.refl _ W) (fun j u _ _ _ h=>h) trivial rfl
               ·refine ⟨fun _=>?_,fun h=>absurd h (by decide)⟩
                intro L T W hG hJ hLs hLi dq fq vq K hK;have h1:=fq 8 (by decide)
                simp at h1;go_simp;exact hK _ _ (Below.refl _ W) (fun j u _ _ _ h=>h) trivial rfl
               ·refine ⟨fun _=>?_,fun h=>absurd h (by decide)⟩
                intro L T W hG hJ hLs hLi dq fq vq K hK;have h1:=vq ⟨11,.data⟩ (by simp) rfl 135 rfl
                simp only [foA] at h1;have h2:=vq ⟨12,.data⟩ (by simp) rfl 136 rfl
                simp only [foA] at h2;simp at h1 h2;go_simp;exact hK _ _ (Below.refl _ W) (fun j u _ _ _ h=>h) trivial rfl
               ·refine ⟨fun _=>?_,fun h=>absurd h (by decide)⟩
                intro L T W hG hJ hLs hLi dq fq vq K hK;have h1:=vq ⟨13,.data⟩ (by simp) rfl 137 rfl
                simp only [foA] at h1;simp at h1;go_simp;exact hK _ _ (Below.refl _ W) (fun j u _ _ _ h=>h) trivial rfl
               ·refine ⟨fun _=>?_,fun h=>absurd h (by decide)⟩
                intro L T W hG hJ hLs hLi dq fq vq K hK;have h1:=vq ⟨14,.data⟩ (by simp) rfl 138 rfl
                simp only [foA] at h1;simp at h1;obtain ⟨g0,g1,g2,g3,g4,k0,k1,k2,k3,k4⟩:=HC.out W hG;go_simp;exact hK _ _ (Below.refl _ W) (fun j u _ _ _ h=>h) trivial rfl
               ·refine ⟨fun _=>?_,fun h=>absurd h (by decide)⟩
                intro L T W hG hJ hLs hLi dq fq vq K hK;have h1:=vq ⟨15,.data⟩ (by simp) rfl 139 rfl
                simp only [foA] at h1;simp at h1;go_simp;refine (HCE.out W).mono ?_;rintro e W2 ⟨rfl,hb2⟩;exact hK _ _ hb2 (fun j u _ _ _ h=>h) trivial rfl
               ·refine ⟨fun _=>?_,fun h=>absurd h (by decide)⟩
                intro L T W hG hJ hLs hLi dq fq vq K hK;have h1:=vq ⟨9,.data⟩ (by simp) rfl 133 rfl
                simp only [foA] at h1;have h2:=vq ⟨16,.data⟩ (by simp) rfl 140 rfl
                simp only [foA] at h2;simp at h1 h2;go_simp;exact hK _ _ (Below.refl _ W) (fun j u _ _ _ h=>h) trivial rfl
              ·intro f9 w6 hG hJe hR
               have e17:=hR 17 141 (by decide) rfl
               simp only [concDsts,List.take_succ_cons,List.take_zero,List.drop_succ_cons,List.drop_zero,List.filterMap_cons,List.filterMap_nil,List.foldl_cons,List.foldl_nil,List.setIfInBounds_toArray,List.set_cons_zero,List.set_cons_succ];simp only [foA] at e17;rw [e17];clear e17 hR;generalize f9 124=v124;generalize f9 125=v125;generalize f9 126=v126;generalize f9 127=v127;generalize f9 128=v128;generalize f9 129=v129;generalize f9 130=v130;generalize f9 131=v131;generalize f9 132=v132;generalize f9 133=v133;generalize f9 134=v134;generalize f9 135=v135;generalize f9 136=v136;generalize f9 137=v137;generalize f9 138=v138;generalize f9 139=v139;generalize f9 140=v140;clear f9
               cases rz with
               | true =>
                have hv:r=160:=by rw [<- H.out.2.2];exact chk_no4 (followsB_no (List.mem_of_getElem? Q.out.2.2.2.1) (.inr (of_decide_eq_true Q.out.2.2.2.2.2.2.2.2)))
                clear H;have HX:=Hd (Q.out.2.2.2.2.2.1.trans ((show Below wt.heap.size wt w6 from (show Below wt.heap.size wt wt.drew from (Below.refl _ _).drew).trans hG).mono Q.out.2.2.2.2.2.1.size));clear hG hJe;go_wp2_with fail
                go_ret
                exact ⟨by first | rfl | (rw [hv];rfl),HX.out⟩
               | false =>
                have H6:=Hd (show Below wt.heap.size wt w6 from (show Below wt.heap.size wt wt.drew from (Below.refl _ _).drew).trans hG);clear hG hJe;go_wp2_with fail
                go_loopg [9] i (fun m v9 wx=>∃ k:Nat,k<=i /\ m=i - k /\ v9=.int .i64 (k:Int) /\ (∀ j,j<k->(g.follow.map (·.1))[j]?≠some fs) /\ Below wt.heap.size wt wx)
                case atStart=>exact ⟨0,Nat.zero_le _,rfl,rfl,fun j hj=>absurd hj (Nat.not_lt_zero _),H6.out⟩
                case round =>
                 obtain ⟨k,hk,hmk,rfl,hno,hbk⟩:=hrel;have hgk:=Q.out.2.2.2.2.2.2.2.1.below hbk Q.out.2.2.2.2.2.2.2.1.lt;have g4:wr.cell? ⟨w.heap.size,4,none⟩=some (.slice (some ⟨kg,ko,none⟩) g.follow.length lc):=hgk.cell 4;have hb3:=Q.out.2.2.2.2.2.1.trans (hbk.mono Q.out.2.2.2.2.2.1.size)
                 by_cases hki:k<i
                 ·obtain ⟨⟨ts,tM⟩,ht⟩:∃ t,g.follow[k]?=some t:=⟨_,List.getElem?_eq_getElem (by omega)⟩
                  have up:=hb3.block kg Q.out.2.2.2.2.2.2.1.lt;have k0:wr.cell? ⟨kg,ko+i * 5,none⟩=some (.int .i64 fs):=(World.cell?_of_block up).trans (Q.out.2.2.2.2.2.2.1.cells i _ Q.out.2.2.2.1 0 _ rfl);have t0:wr.cell? ⟨kg,ko+k * 5,none⟩=some (.int .i64 ts):=(World.cell?_of_block up).trans (Q.out.2.2.2.2.2.2.1.cells k _ ht 0 _ rfl);have hk0:(0:Int)<=(k:Int):=by omega
                  have hk1:(k:Int)<(g.follow.length:Int):=by omega
                  have hmi:(g.follow.map (·.1))[i]?=some fs:=by rw [List.getElem?_map,Q.out.2.2.2.1];rfl
                  have hmt:(g.follow.map (·.1))[k]?=some ts:=by rw [List.getElem?_map,ht];rfl
                  have N:=Hd (An hmk (An hno (An hbk (An hmi (An hb3 hmt)))));clear hmk hno hbk ht hb3 hgk up hmi hmt;obtain ⟨wp,rfl⟩:∃ wp:World,wp=wr:=⟨_,rfl⟩
                  by_cases hes:ts=fs
                  ·have hv:r=160:=by
                    rw [<- H.out.2.2];refine chk_no4 (followsB_no2 ?_);have h1:=N.out.2.2.2.2.2;rw [hes] at h1;exact two_no hki N.out.2.2.2.1 h1
                   rw [hes] at t0;clear H hes;go_wp2_with fail
                   go_quiet (fail)
                   go_wp2_with fail
                   go_ret
                   exact ⟨by first | rfl | (rw [hv];rfl),below_drewN N.out.2.2.2.2.1 _⟩
                  ·have hes2:(ts==fs)=false:=by simpa using hes
                   have HNO:=Hd (show ∀ j,j<k+1->(g.follow.map (·.1))[j]?≠some fs from fun j hj=>by
                    by_cases e:j=k
                    ·subst e
                     rw [N.out.2.2.2.2.2];intro h;injection h with h;exact hes h
                    ·exact N.out.2.1 j (by omega))
                   clear hes;go_wp2_with fail
                   go_quiet (fail)
                   go_wp2_with fail
                   go_roundg (i - (k+1))
                   case measure=>have h1:=N.out.1;omega
                   case rel=>exact ⟨k+1,by omega,rfl,rfl,HNO.out,below_drewN N.out.2.2.1 _⟩
                 ·obtain rfl:k=i:=by omega
                  have hmi:(g.follow.map (·.1))[k]?=some fs:=by rw [List.getElem?_map,Q.out.2.2.2.1];rfl
                  have HU:=Hd (show ((g.follow.map (·.1)).take (k+1)).Nodup /\ ∀ f∈g.follow.take (k+1),(inB g f.1&&!decide (f.2=0))=true from ⟨nodup_up Q.out.2.1.1 hmi hno,take_all_up Q.out.2.1.2 Q.out.2.2.2.1 (by simp only;rw [Q.out.2.2.2.2.1,Q.out.2.2.2.2.2.2.2.2];rfl)⟩)
                  have HX:=Hd (Q.out.2.2.1.trans (hbk.mono Q.out.2.2.1.size));clear hno hbk hmk hb3 hgk g4 hmi;go_wp2_with fail
                  go_roundg (g.follow.length - (k+1))
                  case measure=>have h1:=Q.out.1;omega
                  case rel=>exact ⟨k+1,by omega,rfl,rfl,HU.out,HX.out⟩
            ·obtain rfl:i=g.follow.length:=by omega
             have hv:r=0:=by
              rw [<- H.out.2.2];have hf4:followsB g=true:=by
               unfold followsB;rw [List.take_length,List.take_of_length_le (by rw [List.length_map];exact Nat.le_refl _)] at hup
               rw [List.all_eq_true.2 hup.2,decide_eq_true hup.1]
               rfl
              unfold chkN checkB;rw [HSB.out,HPB.out,HFB.out,hf4]
              rfl
             clear hup hbx hm H;go_wp2_with fail
             go_ret
             exact ⟨by first | rfl | (rw [hv];rfl),hbw⟩
end Go.Proofs.YthiochcpmfkgcaaGreatDoor.Tb
