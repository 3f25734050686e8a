/- Walks and plain laws that the last text stands on: GlRefB, GlRefC, GlRefD, GlRefE, GlRefF. -/
import Derived.Test.YthiochcpmfkgcaaGreatDoorSo23
set_option linter.unusedVariables false
set_option linter.unusedSimpArgs false
set_option maxRecDepth 100000
set_option maxHeartbeats 16000000
namespace Go.Proofs.YthiochcpmfkgcaaGreatDoor.Gl
open Go Go.RowKit Go.Proofs Go.Maps Mx Tb
def SysOk (S:Nat) (R:List Sy):Prop:=∀ s∈R,s.kind=0∨(s.kind=1 /\ 0<=s.sort /\ s.sort<S)
theorem derives_any (txt:List UInt8) (hn:txt.length<=100000) (S:Nat) (hS:S<=100000) (t:Tbl) (ta:Nat) (mid:Nat->Nat) (row:Nat->Nat->Nat) (R:List Sy) (hR:R.length<=1000) (hsy:SysOk S R) (rv:Value):∀ (d k:Nat),d+k=R.length->∀ (i j:Nat) (w:World),i<=txt.length->j<=txt.length->TblM S txt.length t ta mid row w->SliceK (fun _=>True) encSy 6 w rv R ->
  Calls Tryz.prog 42 #[.slice (some ⟨ta,0,none⟩) S S,.string ⟨txt.toArray⟩,rv,.int .i64 k,.int .i64 i,.int .i64 j] w fun e w'=>e=.returned (.bool (derivesF t txt (R.drop k) i j)) /\ Below w.heap.size w w':=by
 intro d
 induction d with
 | zero =>
  intro k hk i j w hi hj hT hrv;obtain ⟨ra,rc,rfl⟩:=slice_shape hrv;obtain ⟨tb,htb⟩:∃ tb:ByteArray,(⟨txt.toArray⟩:ByteArray)=tb:=⟨_,rfl⟩;rw [htb];have hd:R.drop k=[]:=List.drop_of_length_le (by omega);have hkl:(k:Int)=(R.length:Int):=by omega
  rw [hd];obtain ⟨L,hL⟩:=eX R.length;rw [hL] at hkl hk ⊢;obtain rfl:k=L:=by omega
  have hv:decide ((i:Int)=(j:Int))=derivesF t txt [] i j:=by
   unfold derivesF
   by_cases h:i=j
   ·rw [decide_eq_true h,decide_eq_true (by omega)]
   ·rw [decide_eq_false h,decide_eq_false (by omega)]
  obtain ⟨br,hbr⟩:=eX (derivesF t txt [] i j);rw [hbr] at hv ⊢;have HV:=Hd hv;clear hv hbr hd hkl hk hL hT hrv htb;go_enter Tryz.func42,Tryz.ntmps42;go_wp2_with fail
  go_ret;exact ⟨by rw [<- HV.out];first | rfl | simp,bR _ _⟩
 | succ d ih =>
  intro k hk i j w hi hj hT hrv;have hkl:k<R.length:=by omega
  obtain ⟨s,hs⟩:∃ s,R[k]?=some s:=⟨_,gE hkl⟩;have hdr:R.drop k=s::R.drop (k+1):=by
   rw [List.drop_eq_getElem_cons hkl];congr 1;exact Option.some.inj ((gE hkl).symm.trans hs)
  have hso:=hsy s (gM hs);obtain ⟨ra,rc,rfl,hrc⟩:∃ a c,rv=.slice a R.length c /\ SliceK (fun _=>True) encSy 6 w rv R:=by
   obtain ⟨a,c,e⟩:=slice_shape hrv;exact ⟨a,c,e,hrv⟩
  obtain ⟨a1,c1,e1,_,_,hkk⟩:=id hrc;injection e1 with f1 f2 f3;subst f1 f3;clear f2;obtain ⟨rg,ro,rfl,_,hrk⟩:=hkk (by intro h;rw [h] at hkl;simp at hkl)
  have g0:=hrk.cells k s hs 0 _ rfl;have g1:=hrk.cells k s hs 1 _ rfl;have g2:=hrk.cells k s hs 2 _ rfl;have g3:=hrk.cells k s hs 3 _ rfl;have g4:=hrk.cells k s hs 4 _ rfl;have g5:=hrk.cells k s hs 5 _ rfl;rw [Nat.add_zero] at g0;have HG:=Z6.mk g0 g1 g2 g3 g4 g5;have hspan:=fun W (hW:Below w.heap.size w W) (m:Nat) (hm:m<=txt.length)=>spans_any txt hn S hS t ta mid row W (hT.below hW) s hso i m hi hm;have hrec:=fun W (hW:Below w.heap.size w W) (m:Nat) (hm:m<=txt.length)=>ih (k+1) (by omega) m j W hm hj (hT.below hW) (hrv.all hW);obtain ⟨tb,htb⟩:∃ tb:ByteArray,(⟨txt.toArray⟩:ByteArray)=tb:=⟨_,rfl⟩;simp only [htb] at hspan hrec;rw [htb];unfold syC at hspan;obtain ⟨fs,hfs⟩:∃ fs:Nat->Bool,(fun m=>spansF t txt s i m)=fs:=⟨_,rfl⟩;obtain ⟨fd,hfd⟩:∃ fd:Nat->Bool,(fun m=>derivesF t txt (R.drop (k+1)) m j)=fd:=⟨_,rfl⟩
  have hspan2:=fun W hW m hm=>by
   have h:=hspan W hW m hm;rw [show spansF t txt s i m=fs m from congrFun hfs m] at h;exact h
  have hrec2:=fun W hW m hm=>by
   have h:=hrec W hW m hm;rw [show derivesF t txt (R.drop (k+1)) m j=fd m from congrFun hfd m] at h;simp only [Int.natCast_add,Int.cast_ofNat_Int] at h;exact h
  obtain ⟨br,hbr⟩:=eX (derivesF t txt (R.drop k) i j);have hres:br=(upF i j).any fun m=>fs m&&fd m:=by
   rw [<- hbr,hdr,<- hfs,<- hfd]
   rfl
  rw [hbr];obtain ⟨sk,ss,sr⟩:=s;simp only at hspan2 HG;obtain ⟨L,hL⟩:=eX R.length;simp only [hL] at hrec2;have HH:=Z3.mk hspan2 hrec2 hres;rw [hL] at hkl hR ⊢;have hkl2:((k:Int)==(L:Int))=false:=beq_eq_false_iff_ne.2 (by omega);have hk0:(0:Int)<=k:=by omega
  have hk1:(k:Int)<L:=by omega
  clear hspan hrec hspan2 hrec2 hres hbr hfs hfd htb hT hrv hrc hdr hs hso hrk hkk hL ih g0 g1 g2 g3 g4 g5 hk;go_enter Tryz.func42,Tryz.ntmps42;go_wp2_with fail
  go_loopg [13] (j+1 - i) (fun mm v13 wr=>∃ m:Nat,i<=m /\ (i<=j->m<=j+1) /\ mm=j+1 - m /\ v13=.int .i64 m /\ (∀ x,i<=x->x<m->(fs x&&fd x)=false) /\ Below w.heap.size w wr)
  case atStart=>exact ⟨i,nR _,fun _=>by omega,rfl,rfl,fun x h1 h2=>by omega,bR _ _⟩
  case round =>
   obtain ⟨m,him,hmj,hmm,rfl,hno,hbr⟩:=hrel
   by_cases hlt:m<=j
   ·have hd1:(m:Int)<=j:=by omega
    have g0:=(hbr.cell (wL _ _ HG.o1)).trans HG.o1;have g1:=(hbr.cell (wL _ _ HG.o2)).trans HG.o2;have g2:=(hbr.cell (wL _ _ HG.o3)).trans HG.o3;have g3:=(hbr.cell (wL _ _ HG.o4)).trans HG.o4;have g4:=(hbr.cell (wL _ _ HG.o5)).trans HG.o5;have g5:=(hbr.cell (wL _ _ HG.o6)).trans HG.o6;have hsp:=HH.o1 wr hbr m (by omega);obtain ⟨b1,hb1⟩:=eX (fs m);rw [hb1] at hsp;have HS:=Z6.mk hsp hb1 hbr hno hmm hmj;clear hsp hb1 hbr hno hmm hmj;go_wp2_with fail
    refine HS.o1.mono ?_;rintro e w1 ⟨rfl,hw1⟩;have hbw:=HS.o3.trans (hw1.mono HS.o3.size);have HB:=Hd hbw;clear hw1 hbw g0 g1 g2 g3 g4 g5;have hnext:∀ c:Bool,fd m=c->(b1&&c)=false->∀ x,i<=x->x<m+1->(fs x&&fd x)=false:=fun c hc hbc x h1 h2=>by
     rcases Nat.lt_or_ge x m with h3 | h3
     ·exact HS.o4 x h1 h3
     ·obtain rfl:x=m:=by omega
      rw [HS.o2,hc];exact hbc
    have HN:=Hd hnext;clear hnext
    cases b1 with
    | false =>
     go_wp2_with fail
     go_roundg (j+1 - (m+1))
     case measure=>have:=HS.o5;omega
     case rel=>exact ⟨m+1,by omega,fun _=>by omega,rfl,rfl,HN.out (fd m) rfl rfl,HB.out⟩
    | true =>
     have hrc:=HH.o2 w1 HB.out m (by omega);obtain ⟨b2,hb2⟩:=eX (fd m);rw [hb2] at hrc;have HRC:=Z2.mk hrc hb2;clear hrc hb2;go_wp2_with fail
     refine HRC.o1.mono ?_;rintro e w2 ⟨rfl,hw2⟩;have HB2:=Hd (HB.out.trans (hw2.mono HB.out.size));clear hw2
     cases b2 with
     | false =>
      go_wp2_with fail
      go_roundg (j+1 - (m+1))
      case measure=>have:=HS.o5;omega
      case rel=>exact ⟨m+1,by omega,fun _=>by omega,rfl,rfl,HN.out false HRC.o2 rfl,HB2.out⟩
     | true =>
      have hv:true=br:=by
       rw [HH.o3];symm;rw [List.any_eq_true];exact ⟨m,upF_mem.2 ⟨him,hlt⟩,by rw [HS.o2,HRC.o2];rfl⟩
      have HV:=Hd hv;clear hv;go_wp2_with fail
      go_ret;exact ⟨ret_bool HV.out,HB2.out⟩
   ·have hd1:¬ (m:Int)<=j:=by omega
    have hv:false=br:=by
     rw [HH.o3];symm;rw [List.any_eq_false];intro x hx;obtain ⟨h1,h2⟩:=upF_mem.1 hx;rw [hno x h1 (by omega)]
     decide
    have HV:=Z2.mk hv hbr;clear hv hbr hno hmm hmj;go_wp2_with fail
    go_ret;exact ⟨ret_bool HV.o1,HV.o2⟩
theorem blk_types {w:World} {a b:Nat} {t u:TypeId} {cs ds:Array Value} (h:Blk w a t cs) (k:Blk w b u ds) (htu:t≠u):a≠b:=fun e=>by
 subst e;have h1:w.heap[a]?=some (.cells cs t):=h;have h2:w.heap[a]?=some (.cells ds u):=k;rw [h1] at h2;simp only [Option.some.injEq,Obj.cells.injEq] at h2;exact htu h2.2.1
def RowInj (S n:Nat) (row:Nat->Nat->Nat):Prop:=∀ s i s' i',s<S->i<=n->s'<S->i'<=n->row s i=row s' i'->s=s' /\ i=i'
theorem TblM.set {S n:Nat} {t:Tbl} {ta:Nat} {mid:Nat->Nat} {row:Nat->Nat->Nat} {W:World} (h:TblM S n t ta mid row W) (hinj:RowInj S n row) {s i j:Nat} (hs:s<S) (hi:i<=n) (hj:j<=n) :
  TblM S n (setT t (s:Int) i j) ta mid row (W.setCell ⟨row s i,j,none⟩ (.bool true)):=by
 have hr:=h.rows s i hs hi;refine ⟨?_,fun s' hs'=>?_,fun s' i' hs' hi'=>?_⟩
 ·exact Blk.far h.top (p:=⟨row s i,j,none⟩) (blk_types h.top hr (by decide)) _
 ·exact Blk.far (h.mids s' hs') (p:=⟨row s i,j,none⟩) (blk_types (h.mids s' hs') hr (by decide)) _
 ·by_cases he:s'=s /\ i'=i
  ·obtain ⟨rfl,rfl⟩:=he;refine (hr.set_ j (.bool true)).ext fun x hx=>?_;unfold setT
   by_cases hxj:x=j
   ·rw [if_pos hxj,if_pos ⟨rfl,rfl,hxj⟩]
   ·rw [if_neg hxj,if_neg (fun k=>hxj k.2.2)]
  ·have hne:row s' i'≠row s i:=fun e=>he (hinj s' i' s i hs' hi' hs hi e);refine RowB.ext (show RowB _ (row s' i') _ _ _ from Blk.far (h.rows s' i' hs' hi') (p:=⟨row s i,j,none⟩) hne _) fun x hx=>?_;unfold setT;rw [if_neg (fun k=>he ⟨by have:=k.1;omega,k.2.1⟩)]
structure TbaM (S n:Nat) (a:Tba) (ta:Nat) (mid:Nat->Nat) (W:World):Prop where
 top:RowB W ta 106 (fun s=>.slice (some ⟨mid s,0,none⟩) (n+1) (n+1)) S
 rows:∀ s,s<S->RowB W (mid s) 4 (fun i=>.bool (a (s:Int) i)) (n+1)
theorem TbaM.below {S n:Nat} {a:Tba} {ta:Nat} {mid:Nat->Nat} {W W':World} (h:TbaM S n a ta mid W) (hb:Below W.heap.size W W'):TbaM S n a ta mid W' :=
 ⟨Blk.below h.top hb (Blk.lt h.top),fun s hs=>Blk.below (h.rows s hs) hb (Blk.lt (h.rows s hs))⟩
def MidInj (S:Nat) (mid:Nat->Nat):Prop:=∀ s s',s<S->s'<S->mid s=mid s'->s=s'
theorem TbaM.set {S n:Nat} {a:Tba} {ta:Nat} {mid:Nat->Nat} {W:World} (h:TbaM S n a ta mid W) (hinj:MidInj S mid) {s i:Nat} (hs:s<S) (hi:i<=n) :
  TbaM S n (setA a (s:Int) i) ta mid (W.setCell ⟨mid s,i,none⟩ (.bool true)):=by
 have hr:=h.rows s hs;refine ⟨?_,fun s' hs'=>?_⟩
 ·exact Blk.far h.top (p:=⟨mid s,i,none⟩) (blk_types h.top hr (by decide)) _
 ·by_cases he:s'=s
  ·subst he;refine (hr.set_ i (.bool true)).ext fun x hx=>?_;unfold setA
   by_cases hxi:x=i
   ·rw [if_pos hxi,if_pos ⟨rfl,hxi⟩]
   ·rw [if_neg hxi,if_neg (fun k=>hxi k.2)]
  ·have hne:mid s'≠mid s:=fun e=>he (hinj s' s hs' hs e);refine RowB.ext (show RowB _ (mid s') _ _ _ from Blk.far (h.rows s' hs') (p:=⟨mid s,i,none⟩) hne _) fun x hx=>?_;unfold setA;rw [if_neg (fun k=>he (by have:=k.1;omega))]
theorem infoBool1:(Tryz.prog.info? 4).map (fun i=>(i.zero,i.size,i.bytes))=some (some (.bool false),1,1):=by kernel_rfl
theorem infoBools1:(Tryz.prog.info? 106).map (fun i=>(i.zero,i.size,i.bytes))=some (some (.slice none 0 0),1,24):=by kernel_rfl
theorem infoBoolss1:(Tryz.prog.info? 104).map (fun i=>(i.zero,i.size,i.bytes))=some (some (.slice none 0 0),1,24):=by kernel_rfl
theorem make_bools (n:Nat) (hn:n<=1000000000) (w:World):(Instr.makeSlice 106 (.int .i64 n) (.int .i64 n)).run Tryz.prog w=.ok (.slice (some ⟨w.heap.size,0,none⟩) n n) (w.alloc (.cells (arrF (fun _=>.bool false) n) 4)) :=
 make_arr _ _ _ _ Tryz.underlying106 infoBool1 rfl (by decide) n hn w
theorem make_boolss (n:Nat) (hn:n<=1000000000) (w:World):(Instr.makeSlice 104 (.int .i64 n) (.int .i64 n)).run Tryz.prog w=.ok (.slice (some ⟨w.heap.size,0,none⟩) n n) (w.alloc (.cells (arrF (fun _=>.slice none 0 0) n) 106)) :=
 make_arr _ _ _ _ Tryz.underlying104 infoBools1 rfl (by decide) n hn w
theorem make_table (n:Nat) (hn:n<=1000000000) (w:World):(Instr.makeSlice 102 (.int .i64 n) (.int .i64 n)).run Tryz.prog w=.ok (.slice (some ⟨w.heap.size,0,none⟩) n n) (w.alloc (.cells (arrF (fun _=>.slice none 0 0) n) 104)) :=
 make_arr _ _ _ _ Tryz.underlying102 infoBoolss1 rfl (by decide) n hn w
def made (s k x i:Nat):Prop:=x+1<s∨(x+1=s /\ i<k)
instance (s k x i:Nat):Decidable (made s k x i):=by unfold made;infer_instance
structure MkT (nb S n s k ta:Nat) (mid:Nat->Nat) (row:Nat->Nat->Nat) (W:World):Prop where
 top:RowB W ta 104 (fun x=>if x<s then .slice (some ⟨mid x,0,none⟩) (n+1) (n+1) else .slice none 0 0) S
 mids:∀ x,x<s->RowB W (mid x) 106 (fun i=>if made s k x i then .slice (some ⟨row x i,0,none⟩) (n+1) (n+1) else .slice none 0 0) (n+1)
 rows:∀ x i,made s k x i->i<=n->RowB W (row x i) 4 (fun _=>.bool false) (n+1)
 inj:∀ x i x' i',made s k x i->i<=n->made s k x' i'->i'<=n->row x i=row x' i'->x=x' /\ i=i'
 injm:∀ x x',x<s->x'<s->mid x=mid x'->x=x'
 lowt:nb<=ta
 lowm:∀ x,x<s->nb<=mid x
 lowr:∀ x i,made s k x i->i<=n->nb<=row x i
theorem MkT.below {nb S n s k ta:Nat} {mid:Nat->Nat} {row:Nat->Nat->Nat} {W W':World} (h:MkT nb S n s k ta mid row W) (hb:Below W.heap.size W W'):MkT nb S n s k ta mid row W' :=
 ⟨Blk.below h.top hb (Blk.lt h.top),fun s hs=>Blk.below (h.mids s hs) hb (Blk.lt (h.mids s hs)),fun s i hs hi=>Blk.below (h.rows s i hs hi) hb (Blk.lt (h.rows s i hs hi)),h.inj,h.injm,h.lowt,h.lowm,h.lowr⟩
theorem MkT.first {nb S n:Nat} {ta:Nat} {W:World} (h:RowB W ta 104 (fun _=>.slice none 0 0) S) (hl:nb<=ta):MkT nb S n 0 (n+1) ta (fun _=>0) (fun _ _=>0) W:=by
 refine ⟨h.ext fun x _=>by rw [if_neg (by omega)],fun x hx=>by omega,fun x i hx=>?_,fun x i x' i' hx=>?_,fun x x' hx=>by omega,hl,fun x hx=>by omega,fun x i hx=>?_⟩
 all_goals (unfold made at hx;omega)
theorem MkT.mid {nb S n s ta m:Nat} {mid:Nat->Nat} {row:Nat->Nat->Nat} {W:World} (h:MkT nb S n s (n+1) ta mid row W) (hs:s<S) (hm:RowB W m 106 (fun _=>.slice none 0 0) (n+1)) (hl:nb<=m) (hf:∀ x,x<s->mid x≠m) :
  MkT nb S n (s+1) 0 ta (fun x=>if x=s then m else mid x) row (W.setCell ⟨ta,s,none⟩ (.slice (some ⟨m,0,none⟩) (n+1) (n+1))):=by
 have hmd:∀ x i,made (s+1) 0 x i↔x<s:=fun x i=>by unfold made;omega
 have hmd2:∀ x i,i<=n->(made s (n+1) x i↔x<s):=fun x i hi=>by unfold made;omega
 refine ⟨?_,fun x hx=>?_,fun x i hx hi=>?_,fun x i x' i' hx hi hx' hi' e=>?_,fun x x' hx hx' e=>?_,h.lowt,fun x hx=>?_,fun x i hx hi=>?_⟩
 ·refine (h.top.set_ s _).ext fun x hx=>?_
  by_cases hxs:x=s
  ·rw [if_pos hxs,if_pos (by omega),if_pos hxs]
  ·rw [if_neg hxs]
   by_cases hlt:x<s
   ·rw [if_pos hlt,if_pos (by omega),if_neg hxs]
   ·rw [if_neg hlt,if_neg (by omega)]
 ·by_cases hxs:x=s
  ·rw [if_pos hxs];have h1:RowB _ m _ _ _:=Blk.far hm (p:=⟨ta,s,none⟩) (blk_types hm h.top (by decide)) (.slice (some ⟨m,0,none⟩) (n+1) (n+1));refine h1.ext fun i hi=>?_;rw [if_neg (fun k=>by have:=(hmd x i).1 k;omega)]
  ·rw [if_neg hxs];have h0:=h.mids x (by omega);have h1:RowB _ (mid x) _ _ _:=Blk.far h0 (p:=⟨ta,s,none⟩) (blk_types h0 h.top (by decide)) (.slice (some ⟨m,0,none⟩) (n+1) (n+1));refine h1.ext fun i hi=>?_;rw [if_pos ((hmd x i).2 (by omega)),if_pos ((hmd2 x i (by omega)).2 (by omega))]
 ·have h0:=h.rows x i ((hmd2 x i hi).2 ((hmd x i).1 hx)) hi;exact Blk.far h0 (p:=⟨ta,s,none⟩) (blk_types h0 h.top (by decide)) _
 ·exact h.inj x i x' i' ((hmd2 x i hi).2 ((hmd x i).1 hx)) hi ((hmd2 x' i' hi').2 ((hmd x' i').1 hx')) hi' e
 ·have e:=e
  by_cases h1:x=s
  ·by_cases h2:x'=s
   ·omega
   ·rw [if_pos h1,if_neg h2] at e;exact absurd e.symm (hf x' (by omega))
  ·by_cases h2:x'=s
   ·rw [if_neg h1,if_pos h2] at e;exact absurd e (hf x (by omega))
   ·rw [if_neg h1,if_neg h2] at e;exact h.injm x x' (by omega) (by omega) e
 ·skip
  split
  ·exact hl
  ·exact h.lowm x (by omega)
 ·exact h.lowr x i ((hmd2 x i hi).2 ((hmd x i).1 hx)) hi
theorem MkT.row {nb S n s k ta r:Nat} {mid:Nat->Nat} {row:Nat->Nat->Nat} {W:World} (h:MkT nb S n (s+1) k ta mid row W) (hk:k<=n) (hr:RowB W r 4 (fun _=>.bool false) (n+1)) (hl:nb<=r) (hf:∀ x i,made (s+1) k x i->i<=n->row x i≠r) :
  MkT nb S n (s+1) (k+1) ta mid (fun x i=>if x=s /\ i=k then r else row x i) (W.setCell ⟨mid s,k,none⟩ (.slice (some ⟨r,0,none⟩) (n+1) (n+1))):=by
 have hmd:∀ x i,made (s+1) (k+1) x i↔(made (s+1) k x i∨(x=s /\ i=k)):=fun x i=>by unfold made;omega
 have hnm:∀ x i,made (s+1) k x i->¬ (x=s /\ i=k):=fun x i h=>by unfold made at h;omega
 have h0:=h.mids s (by omega);refine ⟨?_,fun x hx=>?_,fun x i hx hi=>?_,fun x i x' i' hx hi hx' hi' e=>?_,h.injm,h.lowt,h.lowm,fun x i hx hi=>?_⟩
 ·exact Blk.far h.top (p:=⟨mid s,k,none⟩) (blk_types h.top h0 (by decide)) _
 ·by_cases hxs:x=s
  ·subst hxs;refine (h0.set_ k _).ext fun i hi=>?_
   by_cases hik:i=k
   ·rw [if_pos hik,if_pos ((hmd x i).2 (.inr ⟨rfl,hik⟩)),if_pos ⟨rfl,hik⟩]
   ·rw [if_neg hik]
    by_cases hmk:made (x+1) k x i
    ·rw [if_pos hmk,if_pos ((hmd x i).2 (.inl hmk)),if_neg (fun k=>hik k.2)]
    ·rw [if_neg hmk,if_neg (fun k=>((hmd x i).1 k).elim hmk fun k=>hik k.2)]
  ·have h1:=h.mids x hx;have h2:RowB _ (mid x) _ _ _:=Blk.far h1 (p:=⟨mid s,k,none⟩) (fun e=>hxs (h.injm x s hx (by omega) e)) (.slice (some ⟨r,0,none⟩) (n+1) (n+1));refine h2.ext fun i hi=>?_
   by_cases hmk:made (s+1) k x i
   ·rw [if_pos hmk,if_pos ((hmd x i).2 (.inl hmk)),if_neg (fun k=>hxs k.1)]
   ·rw [if_neg hmk,if_neg (fun k=>((hmd x i).1 k).elim hmk fun k=>hxs k.1)]
 ·by_cases hxi:x=s /\ i=k
  ·rw [if_pos hxi];exact Blk.far hr (p:=⟨mid s,k,none⟩) (blk_types hr h0 (by decide)) _
  ·rw [if_neg hxi];have h1:=h.rows x i (((hmd x i).1 hx).resolve_right hxi) hi;exact Blk.far h1 (p:=⟨mid s,k,none⟩) (blk_types h1 h0 (by decide)) _
 ·have e:=e
  by_cases h1:x=s /\ i=k
  ·by_cases h2:x'=s /\ i'=k
   ·exact ⟨h1.1.trans h2.1.symm,h1.2.trans h2.2.symm⟩
   ·rw [if_pos h1,if_neg h2] at e;exact absurd e.symm (hf x' i' (((hmd x' i').1 hx').resolve_right h2) hi')
  ·by_cases h2:x'=s /\ i'=k
   ·rw [if_neg h1,if_pos h2] at e;exact absurd e (hf x i (((hmd x i).1 hx).resolve_right h1) hi)
   ·rw [if_neg h1,if_neg h2] at e;exact h.inj x i x' i' (((hmd x i).1 hx).resolve_right h1) hi (((hmd x' i').1 hx').resolve_right h2) hi' e
 ·skip
  split
  ·exact hl
  ·next hxi=>exact h.lowr x i (((hmd x i).1 hx).resolve_right hxi) hi
theorem MkT.whole {nb S n ta:Nat} {mid:Nat->Nat} {row:Nat->Nat->Nat} {W:World} (h:MkT nb S n S (n+1) ta mid row W):TblM S n (fun _ _ _=>false) ta mid row W /\ RowInj S n row /\ ∀ s i,s<S->i<=n->nb<=row s i:=by
 have hmd:∀ x i,x<S->i<=n->made S (n+1) x i:=fun x i hx hi=>by unfold made;omega
 exact ⟨⟨h.top.ext fun x hx=>by rw [if_pos hx],fun x hx=>(h.mids x hx).ext fun i hi=>by rw [if_pos (hmd x i hx (by omega))],fun x i hx hi=>h.rows x i (hmd x i hx hi) hi⟩,
  fun s i s' i' hs hi hs' hi' e=>h.inj s i s' i' (hmd s i hs hi) hi (hmd s' i' hs' hi') hi' e,fun s i hs hi=>h.lowr s i (hmd s i hs hi) hi⟩
def tmR (B0 ta ms S s k:Nat) (tb:ByteArray) (j:Nat) (v:Value) (W:World):Prop :=
 match j with
 | 0=>v=.slice (some ⟨ta,0,none⟩) S S
 | 1=>v=.int .i64 s
 | 2=>v=.pointer (some ⟨ta,s,none⟩)
 | 3=>v=.slice (some ⟨ms,0,none⟩) (tb.size+1) (tb.size+1)
 | 4=>v=.int .i64 k
 | 5=>v=.string tb
 | 6=>v=.int .i64 tb.size
 | 7=>v=.int .i64 ((tb.size:Int)+1)
 | 8=>∃ q,v=.slice (some ⟨q,0,none⟩) (tb.size+1) (tb.size+1) /\ RowB W q 4 (fun _=>.bool false) (tb.size+1) /\ B0<=q
 | 9=>v=.pointer (some ⟨ms,k,none⟩)
 | _=>True
theorem tmR_stab {B0 ta ms S s k:Nat} {tb:ByteArray} (j:Nat) (u:Value) {W W':World} (h:tmR B0 ta ms S s k tb j u W) (hb:Below W.heap.size W W'):tmR B0 ta ms S s k tb j u W':=by
 by_cases hj:j=8
 ·subst hj;obtain ⟨q,h1,h2,h3⟩:=h;exact ⟨q,h1,Blk.below h2 hb h2.lt,h3⟩
 ·unfold tmR at h ⊢
  split <;> first | trivial | exact h | exact absurd rfl hj
structure DvI (w:World) (nb S n ta:Nat) (mid:Nat->Nat) (row:Nat->Nat->Nat) (cs:Array Value) (t:Tbl) (W:World):Prop where
 gr:Blk W nb 27 cs
 tab:TblM S n t ta mid row W
 low:Below nb w W
theorem DvI.below {w:World} {nb S n ta:Nat} {mid:Nat->Nat} {row:Nat->Nat->Nat} {cs:Array Value} {t:Tbl} {W W':World} (h:DvI w nb S n ta mid row cs t W) (hn:nb<=w.heap.size) (hb:Below W.heap.size W W'):DvI w nb S n ta mid row cs t W' :=
 ⟨h.gr.below hb h.gr.lt,h.tab.below hb,h.low.trans (hb.mono (Nat.le_trans hn h.low.size))⟩
theorem DvI.set {w:World} {nb S n ta:Nat} {mid:Nat->Nat} {row:Nat->Nat->Nat} {cs:Array Value} {t:Tbl} {W:World} (h:DvI w nb S n ta mid row cs t W) (hinj:RowInj S n row) (hl:∀ s i,s<S->i<=n->nb<=row s i) {s i j:Nat} (hs:s<S) (hi:i<=n) (hj:j<=n):DvI w nb S n ta mid row cs (setT t (s:Int) i j) (W.setCell ⟨row s i,j,none⟩ (.bool true)) :=
 ⟨Blk.far h.gr (p:=⟨row s i,j,none⟩) (blk_types h.gr (h.tab.rows s i hs hi) (by decide)) _,h.tab.set hinj hs hi hj,h.low.setCell (p:=⟨row s i,j,none⟩) (hl s i hs hi) _⟩
theorem DvI.cells {w:World} {nb S n ta:Nat} {mid:Nat->Nat} {row:Nat->Nat->Nat} {cs:Array Value} {t:Tbl} {W:World} (h:DvI w nb S n ta mid row cs t W) {s i j:Nat} (hs:s<S) (hi:i<=n) (hj:j<=n):W.cell? ⟨ta,s,none⟩=some (.slice (some ⟨mid s,0,none⟩) (n+1) (n+1)) /\ W.cell? ⟨mid s,i,none⟩=some (.slice (some ⟨row s i,0,none⟩) (n+1) (n+1)) /\ W.cell? ⟨row s i,j,none⟩=some (.bool (t (s:Int) i j)) /\ W.frozen? ⟨row s i,j,none⟩=false :=
 ⟨h.tab.top.cell hs,(h.tab.mids s hs).cell (by omega),(h.tab.rows s i hs hi).cell (by omega),Blk.frozen (h.tab.rows s i hs hi) _⟩
theorem prodsAt_at {w:World} {pv:Value} {ps:List Pr} (h:ProdsAt (fun _=>True) w pv ps) {i:Nat} {p:Pr} (hp:ps[i]?=some p):∃ (pc b o:Nat) (ra:Option Addr) (rc:Nat),pv=.slice (some ⟨b,o,none⟩) ps.length pc /\ b<w.heap.size /\ SliceK (fun _=>True) encSy 6 w (.slice ra p.right.length rc) p.right /\
  (∀ W,Below w.heap.size w W->W.cell? ⟨b,o+i * 7,none⟩=some (.int .i64 p.left) /\ W.cell? ⟨b,o+i * 7+1,none⟩=some (.slice ra p.right.length rc) /\ W.cell? ⟨b,o+i * 7+2,none⟩=some (.string ⟨p.cons.toArray⟩) /\ W.cell? ⟨b,o+i * 7+3,none⟩=some (.int .i64 p.role) /\ W.cell? ⟨b,o+i * 7+4,none⟩=some (.bool p.prefer) /\ W.cell? ⟨b,o+i * 7+5,none⟩=some (.bool p.avoid) /\ W.cell? ⟨b,o+i * 7+6,none⟩=some (.int .i64 p.made)):=by
 obtain ⟨cap,b,o,vr,epv,hbl,hvr,hpc⟩:=h.at_ hp;obtain ⟨ra,rc,rfl⟩:=slice_shape hvr;refine ⟨cap,b,o,ra,rc,epv,hbl,hvr,fun W hW=>?_⟩;have up:∀ {i:Nat} {u:Value},w.cell? ⟨b,i,none⟩=some u->W.cell? ⟨b,i,none⟩=some u:=fun h=>(wB (hW.block b hbl)).trans h;exact ⟨up (hpc 0 _ rfl),up (hpc 1 _ rfl),up (hpc 2 _ rfl),up (hpc 3 _ rfl),up (hpc 4 _ rfl),up (hpc 5 _ rfl),up (hpc 6 _ rfl)⟩
theorem table_any (g:Gr) (hg:Tb.Good g) (txt:List UInt8) (hn:txt.length<=100000) (sv pv fv lv:Value) (w:World) (hsv:SliceK (fun _=>True) Tb.encS 1 w sv g.sorts) (hpv:ProdsAt (fun _=>True) w pv g.prods) :
  Calls Tryz.prog 39 #[.agg #[sv,pv,.int .i64 g.start,fv,lv],.string ⟨txt.toArray⟩] w fun e w'=>∃ (t:Tbl) (ta:Nat) (mid:Nat->Nat) (row:Nat->Nat->Nat),e=.returned (.slice (some ⟨ta,0,none⟩) g.sorts.length g.sorts.length) /\ Snd g txt t /\ TblOk g txt t /\ TblM g.sorts.length txt.length t ta mid row w' /\ Below w.heap.size w w':=by
 obtain ⟨sa,sc,rfl⟩:=slice_shape hsv;obtain ⟨pa,pc,rfl⟩:=prodsAt_shape hpv;obtain ⟨tb,htb⟩:∃ tb:ByteArray,(⟨txt.toArray⟩:ByteArray)=tb:=⟨_,rfl⟩;have htz:txt.length=tb.size:=by rw [<- htb,ba_len]
 rw [htb];have hnz:tb.size<=100000:=by rw [<- htz];exact hn
 have HH:=Z5.mk hg hpv htz htb hn;have hS:=hg.sorts;obtain ⟨S,hSd⟩:=eX g.sorts.length;have HSd:=Hd hSd;rw [hSd] at hS ⊢;have hmt:=fun w=>make_table S (by omega) w;have hmm:=fun w=>make_boolss (tb.size+1) (by omega) w;simp only [Int.natCast_add,Int.cast_ofNat_Int] at hmm;have HMB:=Hd (show ∀ w,(Instr.makeSlice 106 (.int .i64 ((tb.size:Int)+1)) (.int .i64 ((tb.size:Int)+1))).run Tryz.prog w=.ok (.slice (some ⟨w.heap.size,0,none⟩) (tb.size+1) (tb.size+1)) (w.alloc (.cells (arrF (fun _=>.bool false) (tb.size+1)) 4)) from fun w=>make_bools (tb.size+1) (by omega) w);obtain ⟨gs,hgs⟩:=eX g.start;obtain ⟨NP,hNP⟩:=eX g.prods.length;have HNP:=Z2.mk hNP hgs;have hNPl:=hg.prods;rw [hNP] at hNPl ⊢;rw [hgs];clear hg hsv hpv htz htb hSd hgs hNP hn;go_enter Tryz.func39,Tryz.ntmps39;go_upto_region 1 with fail
 have hGB:Blk (w.alloc (.cells #[.slice sa S sc,.slice pa NP pc,.int .i64 gs,fv,lv] 27)) w.heap.size 27 #[.slice sa S sc,.slice pa NP pc,.int .i64 gs,fv,lv]:=Blk.new _ _ _;have hb0:Below w.heap.size w (w.alloc (.cells #[.slice sa S sc,.slice pa NP pc,.int .i64 gs,fv,lv] 27)):=(bR _ _).alloc (nR _) _;generalize (w.alloc (.cells #[.slice sa S sc,.slice pa NP pc,.int .i64 gs,fv,lv] 27))=w1 at hGB hb0 ⊢;obtain ⟨nb,hnb⟩:=eX w.heap.size;rw [hnb] at hGB hb0 ⊢;obtain ⟨z0,z1,z2,z3,z4,zf⟩:=gfacts5 hGB;have H1:=Z3.mk hGB hb0 hnb;clear hGB hb0 hnb;go_upto_region 3 with fail
 have hT0:RowB (w1.alloc (.cells (arrF (fun _=>.slice none 0 0) S) 104)) w1.heap.size 104 (fun _=>.slice none 0 0) S:=Blk.new _ _ _;have hsz1:nb<=w1.heap.size:=by rw [<- H1.o3];exact H1.o2.size
 have hb1:=H1.o2.alloc hsz1 (.cells (arrF (fun _=>.slice none 0 0) S) 104);have hG1:=H1.o1.alloc (.cells (arrF (fun _=>.slice none 0 0) S) 104);generalize (w1.alloc (.cells (arrF (fun _=>.slice none 0 0) S) 104))=w2 at hT0 hb1 hG1 ⊢;obtain ⟨ta,hta⟩:=eX w1.heap.size;rw [hta] at hT0 hsz1 ⊢;have H2:=Z3.mk (MkT.first (n:=tb.size) hT0 hsz1) hb1 hG1;clear hT0 hb1 hG1 hta hsz1 z0 z1 z2 z3 z4 zf hmt
 go_loopg [6] S (fun mm v6 wr=>∃ (s:Nat) (mid:Nat->Nat) (row:Nat->Nat->Nat),s<=S /\ mm=S - s /\ v6=.int .i64 s /\ MkT nb S tb.size s (tb.size+1) ta mid row wr /\ Blk wr nb 27 #[.slice sa S sc,.slice pa NP pc,.int .i64 gs,fv,lv] /\ Below nb w wr)
 case atStart=>exact ⟨0,_,_,Nat.zero_le _,rfl,rfl,H2.o1,H2.o3,H2.o2⟩
 case round =>
  obtain ⟨s,mid,row,hs,hm,rfl,hT,hGB,hbr⟩:=hrel
  by_cases hlt:s<S
  ·have k0:=hT.top.cell hlt;have k1:=Blk.frozen hT.top s;rw [if_neg (Nat.lt_irrefl s)] at k0;have htl:ta<wr.heap.size:=Blk.lt hT.top;have hs0:(0:Int)<=s:=by omega
   have hs1:(s:Int)<S:=by omega
   have HA:=Z4.mk hT hGB hbr hm;clear hT hGB hbr hm;go_upto_region 7 with fail
   have hal:Below wr.heap.size wr (wr.alloc (.cells (arrF (fun _=>.slice none 0 0) (tb.size+1)) 106)):=(bR _ _).alloc (nR _) _;have hsz:nb<=wr.heap.size:=by rw [<- H1.o3];exact HA.o3.size
   have hT1:=MkT.mid (HA.o1.below hal) hlt (m:=wr.heap.size) (Blk.new _ _ _) hsz (fun x hx e=>by have:=Blk.lt (HA.o1.mids x hx);omega);have hG1:Blk ((wr.alloc (.cells (arrF (fun _=>.slice none 0 0) (tb.size+1)) 106)).setCell ⟨ta,s,none⟩ (.slice (some ⟨wr.heap.size,0,none⟩) (tb.size+1) (tb.size+1))) nb 27 #[.slice sa S sc,.slice pa NP pc,.int .i64 gs,fv,lv]:=Blk.far (HA.o2.below hal HA.o2.lt) (p:=⟨ta,s,none⟩) (blk_types HA.o2 HA.o1.top (by decide)) _;have hb1:Below nb w ((wr.alloc (.cells (arrF (fun _=>.slice none 0 0) (tb.size+1)) 106)).setCell ⟨ta,s,none⟩ (.slice (some ⟨wr.heap.size,0,none⟩) (tb.size+1) (tb.size+1))):=(HA.o3.alloc hsz _).setCell (p:=⟨ta,s,none⟩) HA.o1.lowt _;rw [World.setCell_alloc_past _ ta s _ htl] at hT1 hG1 hb1;generalize ((wr.setCell ⟨ta,s,none⟩ (.slice (some ⟨wr.heap.size,0,none⟩) (tb.size+1) (tb.size+1))).alloc (.cells (arrF (fun _=>.slice none 0 0) (tb.size+1)) 106))=w3 at hT1 hG1 hb1 ⊢;generalize (fun x=>if x=s then wr.heap.size else mid x)=mid1 at hT1;have H3:=Z3.mk hT1 hG1 hb1;clear hT1 hG1 hb1 hal hsz k0 k1 htl
   go_loopg [7] (tb.size+1) (fun mm v7 wx=>∃ (k:Nat) (row1:Nat->Nat->Nat),k<=tb.size+1 /\ mm=tb.size+1 - k /\ v7=.int .i64 k /\ MkT nb S tb.size (s+1) k ta mid1 row1 wx /\ Blk wx nb 27 #[.slice sa S sc,.slice pa NP pc,.int .i64 gs,fv,lv] /\ Below nb w wx)
   case atStart=>exact ⟨0,row,Nat.zero_le _,rfl,rfl,H3.o1,H3.o2,H3.o3⟩
   case round =>
    obtain ⟨k,row1,hk,hm,rfl,hT,hGB,hbr⟩:=hrel
    by_cases hkl:k<=tb.size
    ·have hk0:(0:Int)<=k:=by omega
     have hk1:(k:Int)<=tb.size:=by omega
     have hk2:(k:Int)<tb.size+1:=by omega
     obtain ⟨ms,hms⟩:=eX (mid1 s);have HC:=Hd (show ∀ W,Below wr.drew.heap.size wr.drew W->W.cell? ⟨ta,s,none⟩=some (.slice (some ⟨ms,0,none⟩) (tb.size+1) (tb.size+1)) from fun W h=>by
      have h1:=(hT.below (((show Below wr.heap.size wr wr.drew from (bR _ _).drew)).trans h)).top.cell (i:=s) (by omega);rw [if_pos (by omega),hms] at h1;exact h1)
     have HB:=Z5.mk hT hGB hbr hm hms;clear hT hGB hbr hm hms;go_upto_region 9 with fail
     refine wp_region_concT 10 (tmR wr.heap.size ta ms S s k tb) (fun A W=>Below A.heap.size A W) (fun _ _=>True) (by kernel_rfl) (by kernel_rfl) (by kernel_rfl) (by kernel_rfl) (bR _ _) trivial (fun h k=>h.trans (k.mono h.size)) ?_ ?_
     ·simp only [List.take_succ_cons,List.take_zero];refine ⟨?_,?_,?_,?_,?_,?_,?_,?_,?_,?_,trivial⟩
      all_goals intro L T W hG hJ hLs hLi dq fq vq K hK
      all_goals try have zk:=fun v=>hK v W (bR _ W) (fun j u _ _ _ h=>h) trivial
      all_goals try have zv:=fun i h=>vq ⟨i,.data⟩ h rfl
      ·have h1:=fq 5 (by decide);simp at h1;go_simp;exact zk _ rfl
      ·have h1:=fq 6 (by decide);simp at h1;go_simp;exact zk _ rfl
      ·have h1:=zv 0 (by simp) 36 rfl;have h2:=zv 1 (by simp) 37 rfl;simp [tmR] at h1 h2;go_simp;exact zk _ rfl
      ·have h1:=zv 2 (by simp) 38 rfl;simp [tmR] at h1;obtain c0:=HC.out W hG;go_simp;exact zk _ rfl
      ·have h1:=fq 7 (by decide);simp at h1;go_simp;exact zk _ rfl
      ·have h1:=fq 1 (by decide);simp at h1;go_simp;exact zk _ rfl
      ·have h1:=zv 5 (by simp) 41 rfl;simp [tmR] at h1;go_simp;exact zk _ rfl
      ·have h1:=zv 6 (by simp) 42 rfl;simp [tmR] at h1;have hwi:IntKind.i64.wrap ((tb.size:Int)+1)=(tb.size:Int)+1:=IntWalk.i64_in _ (by omega);go_simp;exact hK _ _ (bR _ W) (fun j u _ _ _ h=>tmR_stab j u h (bR _ W)) trivial rfl
      ·have h1:=zv 7 (by simp) 43 rfl;simp [tmR] at h1;have hmk:=HMB.out W;go_simp;refine hK _ _ ((bR _ _).alloc (nR _) _) (fun j u _ _ _ h=>tmR_stab j u h ((bR _ _).alloc (nR _) _)) trivial ⟨_,rfl,Blk.new _ _ _,hG.size⟩
      ·have h1:=zv 3 (by simp) 39 rfl;have h2:=zv 4 (by simp) 40 rfl;simp [tmR] at h1 h2;go_simp;exact zk _ rfl
     ·intro f9 w9 hG hJe hR;obtain ⟨rb,e8,hrb,hrl⟩:=hR 8 44 (by decide) rfl;have e9:=hR 9 45 (by decide) rfl;simp only [concDsts,qZ];simp only [tmR] at e9;rw [e8,e9];clear e8 e9 hR;generalize f9 36=v36;generalize f9 37=v37;generalize f9 38=v38;generalize f9 39=v39;generalize f9 40=v40;generalize f9 41=v41;generalize f9 42=v42;generalize f9 43=v43;clear f9;have hT9:=HB.o1.below ((show Below wr.heap.size wr wr.drew from (bR _ _).drew).trans hG);have hG9:=HB.o2.below ((show Below wr.heap.size wr wr.drew from (bR _ _).drew).trans hG) HB.o2.lt;have hszb:nb<=wr.heap.size:=by rw [<- H1.o3];exact HB.o3.size
      have hb9:=HB.o3.trans (((show Below wr.heap.size wr wr.drew from (bR _ _).drew).trans hG).mono hszb);have hT10:=hT9.row hkl hrb (Nat.le_trans hszb hrl) (fun x i hx hi e=>by have:=Blk.lt (HB.o1.rows x i hx hi);omega);have hm9:=hT9.mids s (by omega);rw [HB.o5] at hT10 hm9;have k0:=hm9.cell (i:=k) (by omega);have k1:=Blk.frozen hm9 k;rw [if_neg (by unfold made;omega)] at k0;have hG10:Blk (w9.setCell ⟨ms,k,none⟩ (.slice (some ⟨rb,0,none⟩) (tb.size+1) (tb.size+1))) nb 27 #[.slice sa S sc,.slice pa NP pc,.int .i64 gs,fv,lv]:=Blk.far hG9 (p:=⟨ms,k,none⟩) (blk_types hG9 hm9 (by decide)) _;have hb10:=hb9.setCell (p:=⟨ms,k,none⟩) (by have:=HB.o1.lowm s (by omega);rw [HB.o5] at this;exact this) (.slice (some ⟨rb,0,none⟩) (tb.size+1) (tb.size+1));have H9:=Z3.mk hT10 hG10 hb10;clear hG hJe HC hT9 hG9 hb9 hT10 hm9 hG10 hb10 hrb hrl hszb;go_wp2_with fail
      go_roundg (tb.size+1 - (k+1))
      case measure=>have:=HB.o4;omega
      case rel=>exact ⟨k+1,_,by omega,rfl,rfl,H9.o1,H9.o2,H9.o3⟩
    ·obtain rfl:k=tb.size+1:=by omega
     have hkz:¬ ((tb.size:Int)+1<=(tb.size:Int)):=by omega
     have HB:=Z4.mk hT hGB hbr hm;clear hT hGB hbr hm;simp only [Int.natCast_add,Int.cast_ofNat_Int];go_wp2_with fail
     go_roundg (S - (s+1))
     case measure=>have:=HA.o4;omega
     case rel=>exact ⟨s+1,mid1,row1,by omega,rfl,rfl,HB.o1,HB.o2,HB.o3⟩
  ·obtain rfl:s=S:=by omega
   have hss:¬ ((s:Int)<s):=by omega
   obtain ⟨hTM,hinj,hlow⟩:=hT.whole;have hD:DvI w nb s tb.size ta mid row #[.slice sa s sc,.slice pa NP pc,.int .i64 gs,fv,lv] (fun _ _ _=>false) wr:=⟨hGB,hTM,hbr⟩;have HI:=Z4.mk hinj hlow hD HSd.out;clear hT hGB hbr hm hTM hinj hlow hD;go_upto_region 10 with fail
   go_upto_region 11 with fail
   go_loopg [8] (2 * openN g.sorts.length txt.length (fun _ _ _=>false)+1) (fun mm v8 wr=>∃ (t:Tbl) (fr:Bool),mm=2 * openN g.sorts.length txt.length t+(if fr=true then 1 else 0) /\ v8=.bool fr /\ Snd g txt t /\ (fr=false->TblOk g txt t) /\ DvI w nb s tb.size ta mid row #[.slice sa s sc,.slice pa NP pc,.int .i64 gs,fv,lv] t wr)
   case atStart=>exact ⟨_,true,rfl,rfl,Snd.start g txt,fun h=>Bool.noConfusion h,HI.o3⟩
   case round =>
    obtain ⟨t0,fr0,hm,rfl,hsn0,hok0,hD0⟩:=hrel;have HA:=Z4.mk hm hsn0 hok0 hD0;clear hm hsn0 hok0 hD0
    cases fr0 with
    | false =>
     go_wp2_with fail
     go_ret;refine ⟨t0,ta,rfl,HA.o2,HA.o3 (by first | rfl | trivial),⟨mid,row,?_⟩,?_⟩
     ·rw [HH.o3];exact HA.o4.tab
     ·rw [H1.o3];exact HA.o4.low
    | true =>
     go_upto_region 14 with fail
     go_loopg [8,9] NP (fun mm v8 v9 wr=>∃ (p:Nat) (t:Tbl) (fr:Bool),p<=NP /\ mm=NP - p /\ v9=.int .i64 p /\ v8=.bool fr /\ RdT g txt t0 t fr p 0 0 /\ Snd g txt t /\ DvI w nb s tb.size ta mid row #[.slice sa s sc,.slice pa NP pc,.int .i64 gs,fv,lv] t wr)
     case atStart=>exact ⟨0,t0,false,Nat.zero_le _,rfl,rfl,rfl,RdT.start g txt t0,HA.o2,HA.o4⟩
     case round =>
      obtain ⟨p,t,fr,hp,hm,rfl,rfl,hrd,hsn,hD⟩:=hrel
      by_cases hlt:p<NP
      ·obtain ⟨q,hq⟩:∃ q,g.prods[p]?=some q:=⟨_,gE (by rw [HNP.o1];exact hlt)⟩;obtain ⟨pc2,b,o,ra,rc,epv,hbl,hrk,hpc⟩:=prodsAt_at HH.o2 hq;injection epv with e1 e2 e3;subst e1 e3;clear e2;have hqm:=gM hq;have hlow:Below w.heap.size w wr:=by rw [H1.o3];exact hD.low
       obtain ⟨f0,f1,f2,f3,f4,f5,f6⟩:=hpc wr hlow;obtain ⟨hl0,hl1⟩:=HH.o1.left q hqm;have hrl:=HH.o1.right q hqm;obtain ⟨ln,hln⟩:∃ ln:Nat,q.left=ln:=⟨q.left.toNat,by omega⟩;have hlS:ln<s:=by rw [HI.o4] at hl1;omega
       have hsy:SysOk s q.right:=fun y hy=>by
        rcases HH.o1.sym q hqm y hy with h | h
        ·exact .inl h.1
        ·rw [HI.o4] at h;exact .inr ⟨h.1,h.2.2⟩
       obtain ⟨z0,z1,z2,z3,z4,zf⟩:=gfacts5 hD.gr;have hp0:(0:Int)<=p:=by omega
       have hp1:(p:Int)<NP:=by omega
       obtain ⟨rl,hrld⟩:=eX q.right.length;obtain ⟨ro,hro⟩:=eX q.role;rw [hln] at f0;rw [hrld] at f1;rw [hro] at f3;have HB:=Z13.mk hm hrd hsn hD hq hrk hrl hln hsy hrld hro hl0 hl1;clear hm hrd hsn hD hq hrk hrl hln hsy hrld hro hl0 hl1 hpc hlow hqm hbl;go_upto_region 17 with fail
       have hP:Blk (wr.alloc (.cells #[.int .i64 ln,.slice ra rl rc,.string ⟨q.cons.toArray⟩,.int .i64 ro,.bool q.prefer,.bool q.avoid,.int .i64 q.made] 53)) wr.heap.size 53 #[.int .i64 ln,.slice ra rl rc,.string ⟨q.cons.toArray⟩,.int .i64 ro,.bool q.prefer,.bool q.avoid,.int .i64 q.made]:=Blk.new _ _ _;have hb3:Below wr.heap.size wr (wr.alloc (.cells #[.int .i64 ln,.slice ra rl rc,.string ⟨q.cons.toArray⟩,.int .i64 ro,.bool q.prefer,.bool q.avoid,.int .i64 q.made] 53)):=(bR _ wr).alloc (nR _) _;generalize (wr.alloc (.cells #[.int .i64 ln,.slice ra rl rc,.string ⟨q.cons.toArray⟩,.int .i64 ro,.bool q.prefer,.bool q.avoid,.int .i64 q.made] 53))=w3 at hP hb3 ⊢;obtain ⟨pcs,hpcs⟩:∃ pcs:Array Value,#[.int .i64 ln,.slice ra rl rc,.string ⟨q.cons.toArray⟩,.int .i64 ro,.bool q.prefer,.bool q.avoid,.int .i64 q.made]=pcs:=⟨_,rfl⟩;have x3:=hP.cell 3;simp at x3;have hpc0:pcs[0]?=some (.int .i64 ln):=by rw [<- hpcs];rfl
       have hpc1:pcs[1]?=some (.slice ra rl rc):=by rw [<- hpcs];rfl
       rw [hpcs] at hP;obtain ⟨pb,hpb⟩:=eX wr.heap.size;have hD3:=HB.o4.below (by rw [H1.o3];exact nR _) hb3;rw [hpb] at hP x3 ⊢;have HQ:=Z4.mk hP hpc0 hpc1 hD3;clear hP hb3 hpcs hpc0 hpc1 hD3 hpb f0 f1 f2 f3 f4 f5 f6 z0 z1 z2 z3 z4 zf
       by_cases hr:ro=11
       ·have hrd2:=HB.o2.skip HB.o5 (by rw [HB.o11];exact hr);have HR:=Hd hrd2;clear hrd2;go_wp2_with fail
        go_roundg (NP - (p+1))
        case measure=>have:=HB.o1;omega
        case rel=>exact ⟨p+1,t,fr,by omega,rfl,rfl,rfl,HR.out,HB.o3,HQ.o4⟩
       ·have hr2:(ro==11)=false:=beq_eq_false_iff_ne.2 hr;go_upto_region 19 with fail
        clear x3 hr2
        go_loopg [8,11] (tb.size+1) (fun mm v8 v11 wr=>∃ (i:Nat) (t:Tbl) (fr:Bool),i<=tb.size+1 /\ mm=tb.size+1 - i /\ v11=.int .i64 i /\ v8=.bool fr /\ RdT g txt t0 t fr p i i /\ Snd g txt t /\ DvI w nb s tb.size ta mid row #[.slice sa s sc,.slice (some ⟨b,o,none⟩) NP pc,.int .i64 gs,fv,lv] t wr /\ Blk wr pb 53 pcs)
        case atStart=>exact ⟨0,t,fr,Nat.zero_le _,rfl,rfl,rfl,HB.o2,HB.o3,HQ.o4,HQ.o1⟩
        case round =>
         obtain ⟨i,t,fr,hi,hm,rfl,rfl,hrd,hsn,hD,hP⟩:=hrel
         by_cases hil:i<=tb.size
         ·have hi0:(0:Int)<=i:=by omega
          have hi1:(i:Int)<=tb.size:=by omega
          have hi2:(i:Int)<tb.size+1:=by omega
          have HI2:=Z5.mk hm hrd hsn hD hP;clear hm hrd hsn hD hP;go_upto_region 22 with fail
          go_loopg [8,12] (tb.size+1 - i) (fun mm v8 v12 wr=>∃ (j:Nat) (t:Tbl) (fr:Bool),i<=j /\ j<=tb.size+1 /\ mm=tb.size+1 - j /\ v12=.int .i64 j /\ v8=.bool fr /\ RdT g txt t0 t fr p i j /\ Snd g txt t /\ DvI w nb s tb.size ta mid row #[.slice sa s sc,.slice (some ⟨b,o,none⟩) NP pc,.int .i64 gs,fv,lv] t wr /\ Blk wr pb 53 pcs)
          case atStart=>exact ⟨i,t,fr,nR _,by omega,rfl,rfl,rfl,HI2.o2,HI2.o3,HI2.o4,HI2.o5⟩
          case round =>
           obtain ⟨j,t,fr,hij,hj,hm,rfl,rfl,hrd,hsn,hD,hP⟩:=hrel
           by_cases hjl:j<=tb.size
           ·have hj0:(0:Int)<=j:=by omega
            have hj1:(j:Int)<=tb.size:=by omega
            have hj2:(j:Int)<tb.size+1:=by omega
            have hl0:(0:Int)<=ln:=by omega
            have hl1:(ln:Int)<s:=by omega
            obtain ⟨c0,c1,c2,c3⟩:=hD.cells hlS hil hjl;have x0:=(hP.cell 0).trans HQ.o2;have x1:=(hP.cell 1).trans HQ.o3;obtain ⟨b1,hb1⟩:=eX (t (ln:Int) i j);rw [hb1] at c2;have HJ:=Z6.mk hm hrd hsn hD hP hb1;clear hm hrd hsn hD hP hb1
            cases b1 with
            | true =>
             have hrd2:=HJ.o2.seen HB.o5 (.inl (by rw [HB.o8];exact HJ.o6));have HR:=Hd hrd2;clear hrd2;go_wp2_with fail
             go_roundg (tb.size+1 - (j+1))
             case measure=>have:=HJ.o1;omega
             case rel=>exact ⟨j+1,t,fr,by omega,by omega,rfl,rfl,rfl,HR.out,HJ.o3,HJ.o4,HJ.o5⟩
            | false =>
             have hdv:Calls Tryz.prog 42 #[.slice (some ⟨ta,0,none⟩) s s,.string tb,.slice ra rl rc,.int .i64 0,.int .i64 i,.int .i64 j] wr fun e w'=>e=.returned (.bool (derivesF t txt q.right i j)) /\ Below wr.heap.size wr w':=by
              have hlow:Below w.heap.size w wr:=by rw [H1.o3];exact HJ.o4.low
              have h:=derives_any txt HH.o5 s (by omega) t ta mid row q.right (by have:=HB.o7;omega) HB.o9 (.slice ra rl rc) q.right.length 0 (by omega) i j wr (by have:=HH.o3;omega) (by have:=HH.o3;omega) (by rw [HH.o3];exact HJ.o4.tab) (by have h2:=HB.o6.all hlow;rw [HB.o10] at h2;exact h2);rw [HH.o4,List.drop_zero] at h;exact h
             obtain ⟨b2,hb2⟩:=eX (derivesF t txt q.right i j);rw [hb2] at hdv;have HDV:=Z2.mk hdv hb2;clear hdv hb2;go_wp2_with fail
             refine HDV.o1.mono ?_;rintro e w4 ⟨rfl,hb4⟩;have hD4:=HJ.o4.below (by rw [H1.o3];exact nR _) hb4;have hP4:=HJ.o5.below hb4 HJ.o5.lt;clear c0 c1 c2 c3 x0 x1
             cases b2 with
             | false =>
              have hrd2:=HJ.o2.seen HB.o5 (.inr HDV.o2);have HR:=Z3.mk hrd2 hD4 hP4;clear hrd2 hD4 hP4 hb4;go_wp2_with fail
              go_roundg (tb.size+1 - (j+1))
              case measure=>have:=HJ.o1;omega
              case rel=>exact ⟨j+1,t,fr,by omega,by omega,rfl,rfl,rfl,HR.o1,HJ.o3,HR.o2,HR.o3⟩
             | true =>
              obtain ⟨c0,c1,c2,c3⟩:=hD4.cells hlS hil hjl;have x0:=(hP4.cell 0).trans HQ.o2;have hjt:j<=txt.length:=by have:=HH.o3;omega
              have hit:i<=txt.length:=by have:=HH.o3;omega
              have hle:=(An HB.o12 HB.o13);have hlq:=HB.o8;have hrd2:=HJ.o2.put hle.1 hle.2 hit hjt (by rw [hlq];exact HJ.o6) p i (j+1)
              have hsn2:=HJ.o3.set (fun p s hs=>by
               unfold rightOf at hs
               cases hp:g.prods[p]? with
               | none=>rw [hp] at hs;cases hs
               | some q=>rw [hp] at hs;rcases HH.o1.sym q (gM hp) s hs with h | h;exact .inl h.1;exact .inr h.1) HB.o5 (by rw [HB.o11];exact hr) hle hjt HDV.o2
              rw [hlq] at hrd2 hsn2;have hD5:=hD4.set HI.o1 HI.o2 hlS hil hjl;have hP5:Blk (w4.setCell ⟨row ln i,j,none⟩ (.bool true)) pb 53 pcs:=Blk.far hP4 (p:=⟨row ln i,j,none⟩) (blk_types hP4 (hD4.tab.rows ln i hlS hil) (by decide)) _;have HR:=Z4.mk hrd2 hsn2 hD5 hP5;clear hrd2 hsn2 hD5 hP5 hD4 hP4 hb4 hle hlq hjt hit;go_wp2_with fail
              go_roundg (tb.size+1 - (j+1))
              case measure=>have:=HJ.o1;omega
              case rel=>exact ⟨j+1,_,true,by omega,by omega,rfl,rfl,rfl,HR.o1,HR.o2,HR.o3,HR.o4⟩
           ·obtain rfl:j=tb.size+1:=by omega
            have hjz:¬ ((tb.size:Int)+1<=(tb.size:Int)):=by omega
            rw [<- HH.o3] at hrd;have HR:=Z4.mk hrd.row hsn hD hP;clear hrd hsn hD hP hm;simp only [Int.natCast_add,Int.cast_ofNat_Int];go_wp2_with fail
            go_roundg (tb.size+1 - (i+1))
            case measure=>have:=HI2.o1;omega
            case rel=>exact ⟨i+1,t,fr,by omega,rfl,rfl,rfl,HR.o1,HR.o2,HR.o3,HR.o4⟩
         ·obtain rfl:i=tb.size+1:=by omega
          have hiz:¬ ((tb.size:Int)+1<=(tb.size:Int)):=by omega
          rw [<- HH.o3] at hrd;have HR:=Z3.mk hrd.prod hsn hD;clear hrd hsn hD hP hm;simp only [Int.natCast_add,Int.cast_ofNat_Int];go_wp2_with fail
          go_roundg (NP - (p+1))
          case measure=>have:=HB.o1;omega
          case rel=>exact ⟨p+1,t,fr,by omega,rfl,rfl,rfl,HR.o1,HR.o2,HR.o3⟩
      ·obtain rfl:p=NP:=by omega
       have hpz:¬ ((p:Int)<p):=by omega
       have x1:=hD.gr.cell 1;simp at x1;have hkd:∀ p,∀ s∈rightOf g p,s.kind=0∨s.kind=1:=fun p s hs=>by
        unfold rightOf at hs
        cases hp:g.prods[p]? with
        | none=>rw [hp] at hs;cases hs
        | some q=>rw [hp] at hs;rcases HH.o1.sym q (gM hp) s hs with h | h;exact .inl h.1;exact .inr h.1
       have hok:fr=false->TblOk g txt t:=fun h=>by
        subst h;exact hrd.done (by rw [HNP.o1];exact nR _) hsn hkd
       have hms:2 * openN g.sorts.length txt.length t+(if fr=true then 1 else 0)<2 * openN g.sorts.length txt.length t0+1:=by
        cases fr with
        | false=>rw [hrd.same rfl];simp
        | true=>have:=hrd.less rfl;simp;omega
       have HR:=Z4.mk hms hsn hok hD;clear hms hsn hok hD hrd hkd hm;go_wp2_with fail
       go_roundg (2 * openN g.sorts.length txt.length t+(if fr=true then 1 else 0))
       case measure=>have h1:=HA.o1;have h2:=HR.o1;simp only [if_true] at h1;omega
       case rel=>exact ⟨t,fr,rfl,rfl,HR.o2,HR.o3,HR.o4⟩
structure MkA (nb S n s ta:Nat) (mid:Nat->Nat) (W:World):Prop where
 top:RowB W ta 106 (fun x=>if x<s then .slice (some ⟨mid x,0,none⟩) (n+1) (n+1) else .slice none 0 0) S
 rows:∀ x,x<s->RowB W (mid x) 4 (fun _=>.bool false) (n+1)
 inj:∀ x x',x<s->x'<s->mid x=mid x'->x=x'
 lowt:nb<=ta
 lowm:∀ x,x<s->nb<=mid x
theorem MkA.below {nb S n s ta:Nat} {mid:Nat->Nat} {W W':World} (h:MkA nb S n s ta mid W) (hb:Below W.heap.size W W'):MkA nb S n s ta mid W' :=
 ⟨Blk.below h.top hb (Blk.lt h.top),fun s hs=>Blk.below (h.rows s hs) hb (Blk.lt (h.rows s hs)),h.inj,h.lowt,h.lowm⟩
theorem MkA.first {nb S n:Nat} {ta:Nat} {W:World} (h:RowB W ta 106 (fun _=>.slice none 0 0) S) (hl:nb<=ta):MkA nb S n 0 ta (fun _=>0) W :=
 ⟨h.ext fun x _=>by rw [if_neg (by omega)],fun x hx=>by omega,fun x x' hx=>by omega,hl,fun x hx=>by omega⟩
theorem MkA.mid {nb S n s ta m:Nat} {mid:Nat->Nat} {W:World} (h:MkA nb S n s ta mid W) (hm:RowB W m 4 (fun _=>.bool false) (n+1)) (hl:nb<=m) (hf:∀ x,x<s->mid x≠m) :
  MkA nb S n (s+1) ta (fun x=>if x=s then m else mid x) (W.setCell ⟨ta,s,none⟩ (.slice (some ⟨m,0,none⟩) (n+1) (n+1))):=by
 refine ⟨?_,fun x hx=>?_,fun x x' hx hx' e=>?_,h.lowt,fun x hx=>?_⟩
 ·refine (h.top.set_ s _).ext fun x hx=>?_
  by_cases hxs:x=s
  ·rw [if_pos hxs,if_pos (by omega),if_pos hxs]
  ·rw [if_neg hxs]
   by_cases hlt:x<s
   ·rw [if_pos hlt,if_pos (by omega),if_neg hxs]
   ·rw [if_neg hlt,if_neg (by omega)]
 ·by_cases hxs:x=s
  ·rw [if_pos hxs];exact Blk.far hm (p:=⟨ta,s,none⟩) (blk_types hm h.top (by decide)) _
  ·rw [if_neg hxs];have h0:=h.rows x (by omega);exact Blk.far h0 (p:=⟨ta,s,none⟩) (blk_types h0 h.top (by decide)) _
 ·have e:=e
  by_cases h1:x=s
  ·by_cases h2:x'=s
   ·omega
   ·rw [if_pos h1,if_neg h2] at e;exact absurd e.symm (hf x' (by omega))
  ·by_cases h2:x'=s
   ·rw [if_neg h1,if_pos h2] at e;exact absurd e (hf x (by omega))
   ·rw [if_neg h1,if_neg h2] at e;exact h.inj x x' (by omega) (by omega) e
 ·skip
  split
  ·exact hl
  ·exact h.lowm x (by omega)
theorem MkA.whole {nb S n ta:Nat} {mid:Nat->Nat} {W:World} (h:MkA nb S n S ta mid W):TbaM S n (fun _ _=>false) ta mid W /\ MidInj S mid /\ ∀ s,s<S->nb<=mid s :=
 ⟨⟨h.top.ext fun x hx=>by rw [if_pos hx],h.rows⟩,h.inj,h.lowm⟩
structure SvI (w:World) (nb S n ta:Nat) (mid:Nat->Nat) (cs:Array Value) (a:Tba) (W:World):Prop where
 gr:Blk W nb 27 cs
 tab:TbaM S n a ta mid W
 low:Below nb w W
theorem SvI.below {w:World} {nb S n ta:Nat} {mid:Nat->Nat} {cs:Array Value} {a:Tba} {W W':World} (h:SvI w nb S n ta mid cs a W) (hn:nb<=w.heap.size) (hb:Below W.heap.size W W'):SvI w nb S n ta mid cs a W' :=
 ⟨h.gr.below hb h.gr.lt,h.tab.below hb,h.low.trans (hb.mono (Nat.le_trans hn h.low.size))⟩
theorem SvI.set {w:World} {nb S n ta:Nat} {mid:Nat->Nat} {cs:Array Value} {a:Tba} {W:World} (h:SvI w nb S n ta mid cs a W) (hinj:MidInj S mid) (hl:∀ s,s<S->nb<=mid s) {s i:Nat} (hs:s<S) (hi:i<=n):SvI w nb S n ta mid cs (setA a (s:Int) i) (W.setCell ⟨mid s,i,none⟩ (.bool true)) :=
 ⟨Blk.far h.gr (p:=⟨mid s,i,none⟩) (blk_types h.gr (h.tab.rows s hs) (by decide)) _,h.tab.set hinj hs hi,h.low.setCell (p:=⟨mid s,i,none⟩) (hl s hs) _⟩
theorem SvI.far {w:World} {nb S n ta:Nat} {mid:Nat->Nat} {cs:Array Value} {a:Tba} {W:World} (h:SvI w nb S n ta mid cs a W) {xb:Nat} {f:Nat->Value} {k:Nat} (hx:RowB W xb 4 f k) (hne:∀ s,s<S->mid s≠xb) (hl:nb<=xb) (i:Nat) (u:Value):SvI w nb S n ta mid cs a (W.setCell ⟨xb,i,none⟩ u) :=
 ⟨Blk.far h.gr (p:=⟨xb,i,none⟩) (blk_types h.gr hx (by decide)) _,⟨Blk.far h.tab.top (p:=⟨xb,i,none⟩) (blk_types h.tab.top hx (by decide)) _,fun s hs=>Blk.far (h.tab.rows s hs) (p:=⟨xb,i,none⟩) (hne s hs) _⟩,h.low.setCell (p:=⟨xb,i,none⟩) hl _⟩
theorem SvI.cells {w:World} {nb S n ta:Nat} {mid:Nat->Nat} {cs:Array Value} {a:Tba} {W:World} (h:SvI w nb S n ta mid cs a W) {s i:Nat} (hs:s<S) (hi:i<=n):W.cell? ⟨ta,s,none⟩=some (.slice (some ⟨mid s,0,none⟩) (n+1) (n+1)) /\ W.cell? ⟨mid s,i,none⟩=some (.bool (a (s:Int) i)) /\ W.frozen? ⟨mid s,i,none⟩=false :=
 ⟨h.tab.top.cell hs,(h.tab.rows s hs).cell (by omega),Blk.frozen (h.tab.rows s hs) _⟩
structure SxI (w:World) (nb S n ta:Nat) (mid:Nat->Nat) (cs:Array Value) (hb xb pb sb:Nat) (pcs scs:Array Value) (here:Nat->Bool) (a:Tba) (next:Nat->Bool) (W:World):Prop where
 st:SvI w nb S n ta mid cs a W
 he:RowB W hb 4 (fun x=>.bool (here x)) (n+1)
 nx:RowB W xb 4 (fun x=>.bool (next x)) (n+1)
 pr:Blk W pb 53 pcs
 sy:Blk W sb 49 scs
section
variable {w:World} {nb S n ta:Nat} {mid:Nat → Nat} {cs:Array Value} {hb xb pb sb:Nat} {pcs scs:Array Value} {here:Nat → Bool} {a:Tba} {next:Nat → Bool} {W W':World}
theorem SxI.below (h:SxI w nb S n ta mid cs hb xb pb sb pcs scs here a next W) (hn:nb<=w.heap.size) (k:Below W.heap.size W W'):SxI w nb S n ta mid cs hb xb pb sb pcs scs here a next W' :=
 ⟨h.st.below hn k,Blk.below h.he k (Blk.lt h.he),Blk.below h.nx k (Blk.lt h.nx),h.pr.below k h.pr.lt,h.sy.below k h.sy.lt⟩
theorem SxI.setA_ (h:SxI w nb S n ta mid cs hb xb pb sb pcs scs here a next W) (hinj:MidInj S mid) (hl:∀ s,s<S->nb<=mid s) (hh:∀ s,s<S->mid s≠hb) (hx:∀ s,s<S->mid s≠xb) {s i:Nat} (hs:s<S) (hi:i<=n):SxI w nb S n ta mid cs hb xb pb sb pcs scs here (setA a (s:Int) i) next (W.setCell ⟨mid s,i,none⟩ (.bool true)) :=
 ⟨h.st.set hinj hl hs hi,Blk.far h.he (p:=⟨mid s,i,none⟩) (hh s hs).symm _,Blk.far h.nx (p:=⟨mid s,i,none⟩) (hx s hs).symm _,Blk.far h.pr (p:=⟨mid s,i,none⟩) (blk_types h.pr (h.st.tab.rows s hs) (by decide)) _,Blk.far h.sy (p:=⟨mid s,i,none⟩) (blk_types h.sy (h.st.tab.rows s hs) (by decide)) _⟩
theorem SxI.setN (h:SxI w nb S n ta mid cs hb xb pb sb pcs scs here a next W) (hx:∀ s,s<S->mid s≠xb) (hhx:hb≠xb) (hl:nb<=xb) (m:Nat):SxI w nb S n ta mid cs hb xb pb sb pcs scs here a (fun x=>if x=m then true else next x) (W.setCell ⟨xb,m,none⟩ (.bool true)) :=
 ⟨h.st.far h.nx hx hl m _,Blk.far h.he (p:=⟨xb,m,none⟩) hhx _,(h.nx.set_ m _).ext fun x _=>by split <;> rfl,Blk.far h.pr (p:=⟨xb,m,none⟩) (blk_types h.pr h.nx (by decide)) _,Blk.far h.sy (p:=⟨xb,m,none⟩) (blk_types h.sy h.nx (by decide)) _⟩
end
theorem make_bools2 (n:Nat) (hn:n<=1000000000) (w:World):(Instr.makeSlice 104 (.int .i64 n) (.int .i64 n)).run Tryz.prog w=.ok (.slice (some ⟨w.heap.size,0,none⟩) n n) (w.alloc (.cells (arrF (fun _=>.slice none 0 0) n) 106)):=make_boolss n hn w
theorem setA_keep {a:Tba} {A B:Int} {i j:Nat} (h:a A i=true):setA a B j A i=true:=by
 unfold setA
 split
 ·rfl
 ·exact h
theorem starts_any (g:Gr) (hg:Tb.Good g) (txt:List UInt8) (hn:txt.length<=100000) (sv pv fv lv:Value) (w:World) (hsv:SliceK (fun _=>True) Tb.encS 1 w sv g.sorts) (hpv:ProdsAt (fun _=>True) w pv g.prods) (t:Tbl) (tt:Nat) (tmid:Nat->Nat) (trow:Nat->Nat->Nat) (hT:TblM g.sorts.length txt.length t tt tmid trow w) (hok:TblOk g txt t) (hsn:Snd g txt t) :
  Calls Tryz.prog 40 #[.agg #[sv,pv,.int .i64 g.start,fv,lv],.string ⟨txt.toArray⟩,.slice (some ⟨tt,0,none⟩) g.sorts.length g.sorts.length] w fun e w'=>∃ (a:Tba) (ta:Nat) (mid:Nat->Nat),e=.returned (.slice (some ⟨ta,0,none⟩) g.sorts.length g.sorts.length) /\ RefOk g txt t a /\ TbaM g.sorts.length txt.length a ta mid w' /\ Below w.heap.size w w':=by
 obtain ⟨sa,sc,rfl⟩:=slice_shape hsv;obtain ⟨pa,pc,rfl⟩:=prodsAt_shape hpv;obtain ⟨tb,htb⟩:∃ tb:ByteArray,(⟨txt.toArray⟩:ByteArray)=tb:=⟨_,rfl⟩;have htz:txt.length=tb.size:=by rw [<- htb,ba_len]
 rw [htb];have hnz:tb.size<=100000:=by rw [<- htz];exact hn
 have hkd:∀ p,∀ s∈rightOf g p,s.kind=0∨s.kind=1:=fun p s hs=>by
  unfold rightOf at hs
  cases hp:g.prods[p]? with
  | none=>rw [hp] at hs;cases hs
  | some q=>rw [hp] at hs;rcases hg.sym q (gM hp) s hs with h | h;exact .inl h.1;exact .inr h.1
 have HH:=Z9.mk hg hpv htz htb hn hT hok hsn hkd;have hS:=hg.sorts;obtain ⟨S,hSd⟩:=eX g.sorts.length;obtain ⟨gs,hgs⟩:∃ gs:Nat,g.start=gs:=⟨g.start.toNat,by have:=hg.start;omega⟩;have hgS:gs<S:=by have:=hg.start;omega
 have HSd:=Z2.mk hSd hgs;rw [hSd] at hS ⊢;have hmt:=fun w=>make_bools2 S (by omega) w;have hmm:=fun w=>make_bools (tb.size+1) (by omega) w;simp only [Int.natCast_add,Int.cast_ofNat_Int] at hmm;obtain ⟨NP,hNP⟩:=eX g.prods.length;have HNP:=Hd hNP;have hNPl:=hg.prods;rw [hNP] at hNPl ⊢;rw [hgs];clear hg hsv hpv htz htb hSd hgs hNP hn hT hok hsn hkd;go_enter Tryz.func40,Tryz.ntmps40;go_upto_region 1 with fail
 have hGB:Blk (w.alloc (.cells #[.slice sa S sc,.slice pa NP pc,.int .i64 gs,fv,lv] 27)) w.heap.size 27 #[.slice sa S sc,.slice pa NP pc,.int .i64 gs,fv,lv]:=Blk.new _ _ _;have hb0:Below w.heap.size w (w.alloc (.cells #[.slice sa S sc,.slice pa NP pc,.int .i64 gs,fv,lv] 27)):=(bR _ _).alloc (nR _) _;generalize (w.alloc (.cells #[.slice sa S sc,.slice pa NP pc,.int .i64 gs,fv,lv] 27))=w1 at hGB hb0 ⊢;obtain ⟨nb,hnb⟩:=eX w.heap.size;rw [hnb] at hGB hb0 ⊢;obtain ⟨z0,z1,z2,z3,z4,zf⟩:=gfacts5 hGB;have H1:=Z3.mk hGB hb0 hnb;clear hGB hb0 hnb;go_upto_region 3 with fail
 have hT0:RowB (w1.alloc (.cells (arrF (fun _=>.slice none 0 0) S) 106)) w1.heap.size 106 (fun _=>.slice none 0 0) S:=Blk.new _ _ _;have hsz1:nb<=w1.heap.size:=by rw [<- H1.o3];exact H1.o2.size
 have hb1:=H1.o2.alloc hsz1 (.cells (arrF (fun _=>.slice none 0 0) S) 106);have hG1:=H1.o1.alloc (.cells (arrF (fun _=>.slice none 0 0) S) 106);generalize (w1.alloc (.cells (arrF (fun _=>.slice none 0 0) S) 106))=w2 at hT0 hb1 hG1 ⊢;obtain ⟨ta,hta⟩:=eX w1.heap.size;rw [hta] at hT0 hsz1 ⊢;have H2:=Z3.mk (MkA.first (n:=tb.size) hT0 hsz1) hb1 hG1;clear hT0 hb1 hG1 hta hsz1 z0 z1 z2 z3 z4 zf hmt
 go_loopg [8] S (fun mm v8 wr=>∃ (s:Nat) (mid:Nat->Nat),s<=S /\ mm=S - s /\ v8=.int .i64 s /\ MkA nb S tb.size s ta mid wr /\ Blk wr nb 27 #[.slice sa S sc,.slice pa NP pc,.int .i64 gs,fv,lv] /\ Below nb w wr)
 case atStart=>exact ⟨0,_,Nat.zero_le _,rfl,rfl,H2.o1,H2.o3,H2.o2⟩
 case round =>
  obtain ⟨s,mid,hs,hm,rfl,hT,hGB,hbr⟩:=hrel
  by_cases hlt:s<S
  ·have k0:=hT.top.cell hlt;have k1:=Blk.frozen hT.top s;rw [if_neg (Nat.lt_irrefl s)] at k0;have htl:ta<wr.heap.size:=Blk.lt hT.top;have hs0:(0:Int)<=s:=by omega
   have hs1:(s:Int)<S:=by omega
   have HA:=Z4.mk hT hGB hbr hm;clear hT hGB hbr hm;have hal:Below wr.heap.size wr (wr.alloc (.cells (arrF (fun _=>.bool false) (tb.size+1)) 4)):=(bR _ _).alloc (nR _) _;have hsz:nb<=wr.heap.size:=by rw [<- H1.o3];exact HA.o3.size
   have hT1:=MkA.mid (HA.o1.below hal) (m:=wr.heap.size) (Blk.new _ _ _) hsz (fun x hx e=>by have:=Blk.lt (HA.o1.rows x hx);omega);have hG1:Blk ((wr.alloc (.cells (arrF (fun _=>.bool false) (tb.size+1)) 4)).setCell ⟨ta,s,none⟩ (.slice (some ⟨wr.heap.size,0,none⟩) (tb.size+1) (tb.size+1))) nb 27 #[.slice sa S sc,.slice pa NP pc,.int .i64 gs,fv,lv]:=Blk.far (HA.o2.below hal HA.o2.lt) (p:=⟨ta,s,none⟩) (blk_types HA.o2 HA.o1.top (by decide)) _;have hb1:Below nb w ((wr.alloc (.cells (arrF (fun _=>.bool false) (tb.size+1)) 4)).setCell ⟨ta,s,none⟩ (.slice (some ⟨wr.heap.size,0,none⟩) (tb.size+1) (tb.size+1))):=(HA.o3.alloc hsz _).setCell (p:=⟨ta,s,none⟩) HA.o1.lowt _;rw [World.setCell_alloc_past _ ta s _ htl] at hT1 hG1 hb1;have H3:=Z3.mk hT1 hG1 hb1;clear hT1 hG1 hb1 hal hsz;go_wp2_with fail
   go_roundg (S - (s+1))
   case measure=>have:=HA.o4;omega
   case rel=>exact ⟨s+1,_,by omega,rfl,rfl,H3.o1,H3.o2,H3.o3⟩
  ·obtain rfl:s=S:=by omega
   have hss:¬ ((s:Int)<s):=by omega
   obtain ⟨hTM,hinj,hlow⟩:=hT.whole;have hD:SvI w nb s tb.size ta mid #[.slice sa s sc,.slice pa NP pc,.int .i64 gs,fv,lv] (fun _ _=>false) wr:=⟨hGB,hTM,hbr⟩;obtain ⟨c0,c1,c2⟩:=hD.cells hgS (Nat.zero_le _);have hg0:(0:Int)<=gs:=by omega
   have hg1:(gs:Int)<s:=by omega
   have hgz:(0:Int)<tb.size+1:=by omega
   have z2:=hGB.cell 2;simp at z2;have HI:=Z4.mk hinj hlow (hD.set hinj hlow hgS (Nat.zero_le _)) HSd.o1;clear hT hGB hbr hm hTM hinj hlow hD;go_upto_region 8 with fail
   go_loopg [9] (2 * openA g.sorts.length txt.length (setA (fun _ _=>false) g.start 0)+1) (fun mm v9 wr=>∃ (a:Tba) (fr:Bool),mm=2 * openA g.sorts.length txt.length a+(if fr=true then 1 else 0) /\ v9=.bool fr /\ SndA g txt a /\ (fr=false->RefOk g txt t a) /\ SvI w nb s tb.size ta mid #[.slice sa s sc,.slice pa NP pc,.int .i64 gs,fv,lv] a wr)
   case atStart=>exact ⟨_,true,rfl,rfl,SndA.start HH.o1.start,fun h=>Bool.noConfusion h,by rw [HSd.o2];exact HI.o3⟩
   case round =>
    obtain ⟨a0,fr0,hm,rfl,hsn0,hok0,hD0⟩:=hrel;have HA:=Z4.mk hm hsn0 hok0 hD0;clear hm hsn0 hok0 hD0
    cases fr0 with
    | false =>
     go_wp2_with fail
     go_ret;refine ⟨a0,ta,rfl,HA.o3 (by first | rfl | trivial),⟨mid,?_⟩,?_⟩
     ·rw [HH.o3];exact HA.o4.tab
     ·rw [H1.o3];exact HA.o4.low
    | true =>
     go_upto_region 11 with fail
     go_loopg [9,10] NP (fun mm v9 v10 wr=>∃ (p:Nat) (a:Tba) (fr:Bool),p<=NP /\ mm=NP - p /\ v10=.int .i64 p /\ v9=.bool fr /\ RdA g txt t a0 a fr p 0 0 0 /\ SndA g txt a /\ SvI w nb s tb.size ta mid #[.slice sa s sc,.slice pa NP pc,.int .i64 gs,fv,lv] a wr)
     case atStart=>exact ⟨0,a0,false,Nat.zero_le _,rfl,rfl,rfl,RdA.start g txt t a0,HA.o2,HA.o4⟩
     case round =>
      obtain ⟨p,a,fr,hp,hm,rfl,rfl,hrd,hsn,hD⟩:=hrel
      by_cases hlt:p<NP
      ·obtain ⟨q,hq⟩:∃ q,g.prods[p]?=some q:=⟨_,gE (by rw [HNP.out];exact hlt)⟩;obtain ⟨pc2,b,o,ra,rc,epv,hbl,hrk,hpc⟩:=prodsAt_at HH.o2 hq;injection epv with e1 e2 e3;subst e1 e3;clear e2;have hqm:=gM hq;have hlow:Below w.heap.size w wr:=by rw [H1.o3];exact hD.low
       obtain ⟨f0,f1,f2,f3,f4,f5,f6⟩:=hpc wr hlow;obtain ⟨hl0,hl1⟩:=HH.o1.left q hqm;have hrl:=HH.o1.right q hqm;obtain ⟨ln,hln⟩:∃ ln:Nat,q.left=ln:=⟨q.left.toNat,by omega⟩;have hlS:ln<s:=by rw [HI.o4] at hl1;omega
       have hsym:=HH.o1.sym q hqm;rw [HI.o4] at hsym;obtain ⟨z0,z1,z2,z3,z4,zf⟩:=gfacts5 hD.gr;have hp0:(0:Int)<=p:=by omega
       have hp1:(p:Int)<NP:=by omega
       obtain ⟨rl,hrld⟩:=eX q.right.length;obtain ⟨ro,hro⟩:=eX q.role;rw [hln] at f0;rw [hrld] at f1 hrl;rw [hro] at f3;have HB:=Z13.mk hm hrd hsn hD hq hrk hrl hln hsym hrld hro hl0 hl1;clear hm hrd hsn hD hq hrk hln hsym hrld hro hl0 hl1 hpc hlow hqm hbl;go_upto_region 14 with fail
       have hP:Blk (wr.alloc (.cells #[.int .i64 ln,.slice ra rl rc,.string ⟨q.cons.toArray⟩,.int .i64 ro,.bool q.prefer,.bool q.avoid,.int .i64 q.made] 53)) wr.heap.size 53 #[.int .i64 ln,.slice ra rl rc,.string ⟨q.cons.toArray⟩,.int .i64 ro,.bool q.prefer,.bool q.avoid,.int .i64 q.made]:=Blk.new _ _ _;have hb3:Below wr.heap.size wr (wr.alloc (.cells #[.int .i64 ln,.slice ra rl rc,.string ⟨q.cons.toArray⟩,.int .i64 ro,.bool q.prefer,.bool q.avoid,.int .i64 q.made] 53)):=(bR _ wr).alloc (nR _) _;generalize (wr.alloc (.cells #[.int .i64 ln,.slice ra rl rc,.string ⟨q.cons.toArray⟩,.int .i64 ro,.bool q.prefer,.bool q.avoid,.int .i64 q.made] 53))=w3 at hP hb3 ⊢;obtain ⟨pcs,hpcs⟩:∃ pcs:Array Value,#[.int .i64 ln,.slice ra rl rc,.string ⟨q.cons.toArray⟩,.int .i64 ro,.bool q.prefer,.bool q.avoid,.int .i64 q.made]=pcs:=⟨_,rfl⟩;have x3:=hP.cell 3;simp at x3;have hpc0:pcs[0]?=some (.int .i64 ln):=by rw [<- hpcs];rfl
       have hpc1:pcs[1]?=some (.slice ra rl rc):=by rw [<- hpcs];rfl
       rw [hpcs] at hP;obtain ⟨pb,hpb⟩:=eX wr.heap.size;have hD3:=HB.o4.below (by rw [H1.o3];exact nR _) hb3;rw [hpb] at hP x3 ⊢;have HQ:=Z4.mk hP hpc0 hpc1 hD3;clear hP hb3 hpcs hpc0 hpc1 hD3 hpb f0 f1 f2 f3 f4 f5 f6 z0 z1 z2 z3 z4 zf
       by_cases hr:ro=11
       ·have hrd2:=HB.o2.skip HB.o5 (by rw [HB.o11];exact hr);have HR:=Hd hrd2;clear hrd2;go_wp2_with fail
        go_roundg (NP - (p+1))
        case measure=>have:=HB.o1;omega
        case rel=>exact ⟨p+1,a,fr,by omega,rfl,rfl,rfl,HR.out,HB.o3,HQ.o4⟩
       ·have hr2:(ro==11)=false:=beq_eq_false_iff_ne.2 hr;go_upto_region 16 with fail
        clear x3 hr2
        go_loopg [9,12] (tb.size+1) (fun mm v9 v12 wr=>∃ (i:Nat) (a:Tba) (fr:Bool),i<=tb.size+1 /\ mm=tb.size+1 - i /\ v12=.int .i64 i /\ v9=.bool fr /\ RdA g txt t a0 a fr p i 0 0 /\ SndA g txt a /\ SvI w nb s tb.size ta mid #[.slice sa s sc,.slice (some ⟨b,o,none⟩) NP pc,.int .i64 gs,fv,lv] a wr /\ Blk wr pb 53 pcs)
        case atStart=>exact ⟨0,a,fr,Nat.zero_le _,rfl,rfl,rfl,HB.o2,HB.o3,HQ.o4,HQ.o1⟩
        case round =>
         obtain ⟨i,a,fr,hi,hm,rfl,rfl,hrd,hsn,hD,hP⟩:=hrel
         by_cases hil:i<=tb.size
         ·have hi0:(0:Int)<=i:=by omega
          have hi1:(i:Int)<=tb.size:=by omega
          have hi2:(i:Int)<tb.size+1:=by omega
          have hl0:(0:Int)<=ln:=by omega
          have hl1:(ln:Int)<s:=by omega
          obtain ⟨c0,c1,c2⟩:=hD.cells hlS hil;have x0:=(hP.cell 0).trans HQ.o2;have x1:=(hP.cell 1).trans HQ.o3;obtain ⟨b1,hb1⟩:=eX (a (ln:Int) i);rw [hb1] at c1;have HI2:=Z6.mk hm hrd hsn hD hP hb1;clear hm hrd hsn hD hP hb1
          cases b1 with
          | false =>
           have hrd2:=HI2.o2.pass HB.o5 (by rw [HB.o8];exact HI2.o6);have HR:=Hd hrd2;clear hrd2;go_wp2_with fail
           go_roundg (tb.size+1 - (i+1))
           case measure=>have:=HI2.o1;omega
           case rel=>exact ⟨i+1,a,fr,by omega,rfl,rfl,rfl,HR.out,HI2.o3,HI2.o4,HI2.o5⟩
          | true =>
           go_upto_region 20 with fail
           have hH:RowB (wr.alloc (.cells (arrF (fun _=>.bool false) (tb.size+1)) 4)) wr.heap.size 4 (fun _=>.bool false) (tb.size+1):=Blk.new _ _ _;have hb3:Below wr.heap.size wr (wr.alloc (.cells (arrF (fun _=>.bool false) (tb.size+1)) 4)):=(bR _ wr).alloc (nR _) _;generalize (wr.alloc (.cells (arrF (fun _=>.bool false) (tb.size+1)) 4))=w4 at hH hb3 ⊢;obtain ⟨hb,hhb⟩:=eX wr.heap.size;have hD4:=HI2.o4.below (by rw [H1.o3];exact nR _) hb3;have hP4:=HI2.o5.below hb3 HI2.o5.lt;have hne:∀ x,x<s->mid x≠hb:=fun x hx e=>by have:=Blk.lt (HI2.o4.tab.rows x hx);omega
           have hln:nb<=hb:=by rw [<- hhb,<- H1.o3];exact HI2.o4.low.size
           rw [hhb] at hH ⊢;have k0:=hH.cell (i:=i) (by omega)
           have k1:=Blk.frozen hH i;have hH5:RowB (w4.setCell ⟨hb,i,none⟩ (.bool true)) hb 4 (fun x=>.bool (decide (i=x))) (tb.size+1):=(hH.set_ i _).ext fun x _=>by
            by_cases h:x=i
            ·rw [if_pos h,decide_eq_true h.symm]
            ·rw [if_neg h,decide_eq_false (fun e=>h e.symm)]
           have hD5:=hD4.far hH hne hln i (.bool true);have hP5:Blk (w4.setCell ⟨hb,i,none⟩ (.bool true)) pb 53 pcs:=Blk.far hP4 (p:=⟨hb,i,none⟩) (blk_types hP4 hH (by decide)) _;have H5:=Z5.mk hH5 hD5 hP5 hne hln;clear hH hb3 hhb hD4 hP4 hne hln hH5 hD5 hP5 c0 c1 c2 x0 x1;go_upto_region 22 with fail
           generalize w4.setCell ⟨hb,i,none⟩ (.bool true)=w5 at H5 ⊢;clear k0 k1
           go_loopg [9,13,14] rl (fun mm v9 v13 v14 wr=>∃ (k:Nat) (a:Tba) (fr:Bool) (hb:Nat) (here:Nat->Bool),k<=rl /\ mm=rl - k /\ v14=.int .i64 k /\ v13=.slice (some ⟨hb,0,none⟩) (tb.size+1) (tb.size+1) /\ v9=.bool fr /\ RdA g txt t a0 a fr p i k i /\ SndA g txt a /\ a (ln:Int) i=true /\ (∀ x,x<=txt.length->here x=derivesF t txt (q.right.take k) i x) /\ SvI w nb s tb.size ta mid #[.slice sa s sc,.slice (some ⟨b,o,none⟩) NP pc,.int .i64 gs,fv,lv] a wr /\ RowB wr hb 4 (fun x=>.bool (here x)) (tb.size+1) /\ (∀ x,x<s->mid x≠hb) /\ nb<=hb /\ Blk wr pb 53 pcs)
           case atStart=>exact ⟨0,a,fr,hb,_,Nat.zero_le _,rfl,rfl,rfl,rfl,HI2.o2.begin_,HI2.o3,HI2.o6,fun x _=>by rw [List.take_zero];rfl,H5.o2,H5.o1,H5.o4,H5.o5,H5.o3⟩
           case round =>
            obtain ⟨k,a,fr,hb,here,hk,hm,rfl,rfl,rfl,hrd,hsn,hat,hhe,hD,hH,hne,hnb,hP⟩:=hrel
            by_cases hkl:k<rl
            ·obtain ⟨y,hy⟩:∃ y,q.right[k]?=some y:=⟨_,gE (by rw [HB.o10];exact hkl)⟩;have hyk:=HB.o9 y (gM hy);have hlow:Below w.heap.size w wr:=by rw [H1.o3];exact hD.low
             obtain ⟨a1,c1,er,_,_,hkk⟩:=HB.o6.all hlow;injection er with r1 r2 r3;subst r1 r3;clear r2;obtain ⟨rg,ro2,rfl,_,hrk⟩:=hkk (by intro h;rw [h] at hy;simp at hy)
             have g0:=hrk.cells k y hy 0 _ rfl;have g1:=hrk.cells k y hy 1 _ rfl;have g2:=hrk.cells k y hy 2 _ rfl;have g3:=hrk.cells k y hy 3 _ rfl;have g4:=hrk.cells k y hy 4 _ rfl;have g5:=hrk.cells k y hy 5 _ rfl;rw [Nat.add_zero] at g0;have hk0:(0:Int)<=k:=by omega
             have hk1:(k:Int)<rl:=by omega
             have x1:=(hP.cell 1).trans HQ.o3;obtain ⟨sk,sM,so⟩:=y;simp only at g0 g1 g2 g3 g4 g5 hyk;have HK:=Z12.mk hm hrd hsn hat hhe hD hH hne hnb hP hy hyk;clear hm hrd hsn hat hhe hD hH hne hnb hP hy hyk hkk hrk hlow;go_upto_region 25 with fail
             have hS5:Blk (wr.alloc (.cells #[.int .i64 sk,.int .u64 (wd sM 0),.int .u64 (wd sM 1),.int .u64 (wd sM 2),.int .u64 (wd sM 3),.int .i64 so] 49)) wr.heap.size 49 #[.int .i64 sk,.int .u64 (wd sM 0),.int .u64 (wd sM 1),.int .u64 (wd sM 2),.int .u64 (wd sM 3),.int .i64 so]:=Blk.new _ _ _;have hb5:Below wr.heap.size wr (wr.alloc (.cells #[.int .i64 sk,.int .u64 (wd sM 0),.int .u64 (wd sM 1),.int .u64 (wd sM 2),.int .u64 (wd sM 3),.int .i64 so] 49)):=(bR _ wr).alloc (nR _) _;generalize (wr.alloc (.cells #[.int .i64 sk,.int .u64 (wd sM 0),.int .u64 (wd sM 1),.int .u64 (wd sM 2),.int .u64 (wd sM 3),.int .i64 so] 49))=w6 at hS5 hb5 ⊢;obtain ⟨sb,hsb⟩:=eX wr.heap.size;rw [hsb] at hS5 ⊢;have H6:=Z2.mk hS5 hb5;clear hS5 hb5 hsb g0 g1 g2 g3 g4 g5 x1;go_upto_region 27 with fail
             have hX7:RowB (w6.alloc (.cells (arrF (fun _=>.bool false) (tb.size+1)) 4)) w6.heap.size 4 (fun x=>.bool ((fun _=>false:Nat->Bool) x)) (tb.size+1):=Blk.new _ _ _;have hb7:Below w6.heap.size w6 (w6.alloc (.cells (arrF (fun _=>.bool false) (tb.size+1)) 4)):=(bR _ w6).alloc (nR _) _;generalize (w6.alloc (.cells (arrF (fun _=>.bool false) (tb.size+1)) 4))=w7 at hX7 hb7 ⊢;obtain ⟨xb,hxb⟩:=eX w6.heap.size;have hb67:Below wr.heap.size wr w7:=H6.o2.trans (hb7.mono H6.o2.size);have hsz6:wr.heap.size<=xb:=by rw [<- hxb];exact H6.o2.size
             have hnex:∀ x,x<s->mid x≠xb:=fun x hx e=>by have:=Blk.lt (HK.o6.tab.rows x hx);omega
             have hhx:hb≠xb:=fun e=>by have:=Blk.lt HK.o7;omega
             have hnx:nb<=xb:=by have h1:=HK.o6.low.size;rw [H1.o3] at h1;omega
             rw [hxb] at hX7 ⊢;have hI7:SxI w nb s tb.size ta mid #[.slice sa s sc,.slice (some ⟨b,o,none⟩) NP pc,.int .i64 gs,fv,lv] hb xb pb sb pcs #[.int .i64 sk,.int .u64 (wd sM 0),.int .u64 (wd sM 1),.int .u64 (wd sM 2),.int .u64 (wd sM 3),.int .i64 so] here a (fun _=>false) w7:=⟨HK.o6.below (by rw [H1.o3];exact nR _) hb67,Blk.below HK.o7 hb67 (Blk.lt HK.o7),hX7,HK.o10.below hb67 HK.o10.lt,H6.o1.below hb7 H6.o1.lt⟩;have H7:=Z4.mk hI7 hnex hhx hnx;clear hX7 hb7 hxb hb67 hsz6 hnex hhx hnx hI7
             go_loopg [9,17] (tb.size+1 - i) (fun mm v9 v17 wr=>∃ (j:Nat) (a:Tba) (fr:Bool) (next:Nat->Bool),i<=j /\ j<=tb.size+1 /\ mm=tb.size+1 - j /\ v17=.int .i64 j /\ v9=.bool fr /\ RdA g txt t a0 a fr p i k j /\ SndA g txt a /\ a (ln:Int) i=true /\ (∀ x,x<=txt.length->(next x=true↔NxP t txt ⟨sk,sM,so⟩ here i j j x)) /\ SxI w nb s tb.size ta mid #[.slice sa s sc,.slice (some ⟨b,o,none⟩) NP pc,.int .i64 gs,fv,lv] hb xb pb sb pcs #[.int .i64 sk,.int .u64 (wd sM 0),.int .u64 (wd sM 1),.int .u64 (wd sM 2),.int .u64 (wd sM 3),.int .i64 so] here a next wr)
             case atStart=>exact ⟨i,a,fr,fun _=>false,nR _,by omega,rfl,rfl,rfl,HK.o2,HK.o3,HK.o4,fun x _=>⟨fun h=>Bool.noConfusion h,fun h=>absurd h (nxP_start _ _ _ _ _ _)⟩,H7.o1⟩
             case round =>
              obtain ⟨j,a,fr,next,hij,hj,hm,rfl,rfl,hrd,hsn,hat,hnx,hI⟩:=hrel
              by_cases hjl:j<=tb.size
              ·have hj0:(0:Int)<=j:=by omega
               have hj1:(j:Int)<=tb.size:=by omega
               have hj2:(j:Int)<tb.size+1:=by omega
               have h0:=hI.he.cell (i:=j) (by omega);obtain ⟨b2,hb2⟩:=eX (here j);rw [hb2] at h0;have HJ:=Z7.mk hm hrd hsn hat hnx hI hb2;clear hm hrd hsn hat hnx hI hb2
               cases b2 with
               | false =>
                have hrd2:=HJ.o2.seen HB.o5 HK.o11 (.inl (by rw [<- HK.o5 j (by have:=HH.o3;omega)];exact HJ.o7));have HR:=Hd hrd2;clear hrd2;go_wp2_with fail
                go_roundg (tb.size+1 - (j+1))
                case measure=>have:=HJ.o1;omega
                case rel=>exact ⟨j+1,a,fr,next,by omega,by omega,rfl,rfl,rfl,HR.out,HJ.o3,HJ.o4,fun x hx=>(HJ.o5 x hx).trans (nxP_skip HJ.o7),HJ.o6⟩
               | true =>
                go_upto_region 30 with fail
                obtain ⟨b3,hb3⟩:∃ b3,(decide (sk=1)&&!(a so j))=b3:=⟨_,rfl⟩;have HB3:=Hd hb3;have y0:=HJ.o6.sy.cell 0;have y5:=HJ.o6.sy.cell 5;simp at y0 y5;clear hb3 h0
                go_cut [121] from 108 to 121 (fun s121 wx=>s121=.bool b3 /\ wr=wx)
                case first =>
                 rcases HK.o12 with ⟨rfl,hz⟩ | ⟨rfl,hz,hs0,hs1⟩ <;> clear hz
                 ·have HV:=Hd (show false=b3 by rw [<- HB3.out];rfl);go_wp2_with fail
                  go_meet;exact ⟨by rw [<- HV.out],rfl⟩
                 ·obtain ⟨sn,rfl⟩:∃ sn:Nat,so=sn:=⟨so.toNat,by omega⟩;obtain ⟨c0,c1,c2⟩:=HJ.o6.st.cells (s:=sn) (i:=j) (by omega) hjl;obtain ⟨bv,hbv⟩:=eX (a (sn:Int) j);have HV:=Hd (show (!bv)=b3 by rw [<- HB3.out,hbv];rfl);rw [hbv] at c1;clear hbv
                  cases bv <;> (go_wp2_with fail;go_meet;exact ⟨by rw [<- HV.out];rfl,rfl⟩)
                case rest =>
                 obtain ⟨rfl,rfl⟩:=hcut;clear y0
                 go_upto_if 121 with fail
                 go_cut [9] from 108 to 128 (fun s9 wx=>∃ (a':Tba) (fr':Bool),s9=.bool fr' /\ RdA g txt t a0 a' fr' p i k (j+1) /\ SndA g txt a' /\ a' (ln:Int) i=true /\ SxI w nb s tb.size ta mid #[.slice sa s sc,.slice (some ⟨b,o,none⟩) NP pc,.int .i64 gs,fv,lv] hb xb pb sb pcs #[.int .i64 sk,.int .u64 (wd sM 0),.int .u64 (wd sM 1),.int .u64 (wd sM 2),.int .u64 (wd sM 3),.int .i64 so] here a' next wx)
                 case first =>
                  have hjt:j<=txt.length:=by have:=HH.o3;omega
                  have hlq:=HB.o8;have hro:q.role≠11:=by rw [HB.o11];exact hr
                  have hhj:derivesF t txt (q.right.take k) i j=true:=by rw [<- HK.o5 j hjt];exact HJ.o7
                  cases b3 with
                  | true =>
                   have h3:=HB3.out;simp only [Bool.and_eq_true,decide_eq_true_eq,Bool.not_eq_true'] at h3;obtain ⟨h31,h32⟩:=h3;subst h31;obtain ⟨hs0,hs1⟩:0<=so /\ so<(s:Int):=by
                    rcases HK.o12 with ⟨h,_⟩ | ⟨_,_,h⟩
                    ·cases h
                    ·exact h
                   obtain ⟨sn,rfl⟩:∃ sn:Nat,so=sn:=⟨so.toNat,by omega⟩;have hsnS:sn<s:=by omega
                   obtain ⟨c0,c1,c2⟩:=HJ.o6.st.cells hsnS hjl;have hSS:=HI.o4;have hrd2:=HJ.o2.put hs0 (by rw [hSS];exact hs1) hjt h32 p i k (j+1);have hsn2:=HJ.o3.set HH.o7 (fun A i j h=>HH.o8.der A i j h) HH.o9 HB.o5 hro (by rw [hlq];exact HJ.o4) HK.o11 rfl ⟨hs0,by rw [hSS];exact hs1⟩ hhj;have hI2:=HJ.o6.setA_ HI.o1 HI.o2 HK.o8 H7.o2 hsnS hjl;have HR:=Z4.mk hrd2 hsn2 (setA_keep (B:=(sn:Int)) (j:=j) HJ.o4) hI2;clear hrd2 hsn2 hI2 h32 hhj hro hlq hjt hSS;go_wp2_with fail
                   go_meet;exact ⟨_,true,rfl,HR.o1,HR.o2,HR.o3,HR.o4⟩
                  | false =>
                   have hrd2:=HJ.o2.seen HB.o5 HK.o11 (.inr (by
                    have h3:=HB3.out
                    by_cases h:sk=1
                    ·rw [decide_eq_true h] at h3;exact .inr (by simpa using h3)
                    ·exact .inl h))
                   have HR:=Hd hrd2;clear hrd2 hhj hro hlq hjt;go_wp2_with fail
                   go_meet;exact ⟨a,fr,rfl,HR.out,HJ.o3,HJ.o4,HJ.o6⟩
                 case rest =>
                  obtain ⟨a',fr',rfl,hrd,hsn,hat,hI⟩:=hcut;have HC2:=Z4.mk hrd hsn hat hI;clear hrd hsn hat hI y5;go_upto_region 34 with fail
                  go_loopg [18] (tb.size+1 - j) (fun mm v18 wr=>∃ (m:Nat) (next:Nat->Bool),j<=m /\ m<=tb.size+1 /\ mm=tb.size+1 - m /\ v18=.int .i64 m /\ (∀ x,x<=txt.length->(next x=true↔NxP t txt ⟨sk,sM,so⟩ here i j m x)) /\ SxI w nb s tb.size ta mid #[.slice sa s sc,.slice (some ⟨b,o,none⟩) NP pc,.int .i64 gs,fv,lv] hb xb pb sb pcs #[.int .i64 sk,.int .u64 (wd sM 0),.int .u64 (wd sM 1),.int .u64 (wd sM 2),.int .u64 (wd sM 3),.int .i64 so] here a' next wr)
                  case atStart=>exact ⟨j,next,nR _,by omega,rfl,rfl,HJ.o5,HC2.o4⟩
                  case round =>
                   obtain ⟨m,next,hjm,hm,hmm,rfl,hnx,hI⟩:=hrel
                   by_cases hml:m<=tb.size
                   ·have hm0:(0:Int)<=m:=by omega
                    have hm1:(m:Int)<=tb.size:=by omega
                    have hm2:(m:Int)<tb.size+1:=by omega
                    have y0:=hI.sy.cell 0;have y1:=hI.sy.cell 1;have y2:=hI.sy.cell 2;have y3:=hI.sy.cell 3;have y4:=hI.sy.cell 4;have y5:=hI.sy.cell 5;simp at y0 y1 y2 y3 y4 y5;have hsp:Calls Tryz.prog 65 #[.slice (some ⟨tt,0,none⟩) s s,.string tb,.agg #[.int .i64 sk,.int .u64 (wd sM 0),.int .u64 (wd sM 1),.int .u64 (wd sM 2),.int .u64 (wd sM 3),.int .i64 so],.int .i64 j,.int .i64 m] wr fun e w'=>e=.returned (.bool (spansF t txt ⟨sk,sM,so⟩ j m)) /\ Below wr.heap.size wr w':=by
                     have hlow:Below w.heap.size w wr:=by rw [H1.o3];exact hI.st.low
                     have hTT:=HH.o6.below hlow;rw [HI.o4] at hTT;have h:=spans_any txt HH.o5 s (by omega) t tt tmid trow wr hTT ⟨sk,sM,so⟩ (by
                      rcases HK.o12 with ⟨h,_⟩ | ⟨h1,_,h2⟩
                      ·exact .inl h
                      ·exact .inr ⟨h1,h2⟩) j m (by have:=HH.o3;omega) (by have:=HH.o3;omega)
                     rw [HH.o4] at h;exact h
                    obtain ⟨bm,hbm⟩:=eX (spansF t txt ⟨sk,sM,so⟩ j m);rw [hbm] at hsp;have HM:=Z5.mk hsp hbm hmm hnx hI;clear hsp hbm hmm hnx hI;go_wp2_with fail
                    refine HM.o1.mono ?_;rintro e w8 ⟨rfl,hb8⟩;have hI8:=HM.o5.below (by rw [H1.o3];exact nR _) hb8;clear hb8 y0 y1 y2 y3 y4 y5
                    cases bm with
                    | false =>
                     have HR:=Hd hI8;clear hI8;go_wp2_with fail
                     go_roundg (tb.size+1 - (m+1))
                     case measure=>have:=HM.o3;omega
                     case rel =>
                      refine ⟨m+1,next,by omega,by omega,rfl,rfl,fun x hx=>(HM.o4 x hx).trans ?_,HR.out⟩;rw [nxP_step HJ.o7 hjm,HM.o2];simp
                    | true =>
                     have k0:=hI8.nx.cell (i:=m) (by omega);have k1:=Blk.frozen hI8.nx m;have HR:=Hd (hI8.setN H7.o2 H7.o3 H7.o4 m);clear hI8;go_wp2_with fail
                     go_roundg (tb.size+1 - (m+1))
                     case measure=>have:=HM.o3;omega
                     case rel =>
                      refine ⟨m+1,_,by omega,by omega,rfl,rfl,fun x hx=>?_,HR.out⟩;rw [nxP_step HJ.o7 hjm,HM.o2]
                      by_cases hxm:x=m
                      ·rw [if_pos hxm];simp [hxm]
                      ·rw [if_neg hxm,HM.o4 x hx];simp [hxm]
                   ·obtain rfl:m=tb.size+1:=by omega
                    have hmz:¬ ((tb.size:Int)+1<=(tb.size:Int)):=by omega
                    have HM:=Z3.mk hmm hnx hI;clear hmm hnx hI;simp only [Int.natCast_add,Int.cast_ofNat_Int];go_wp2_with fail
                    go_roundg (tb.size+1 - (j+1))
                    case measure=>have:=HJ.o1;omega
                    case rel =>
                     refine ⟨j+1,a',fr',next,by omega,by omega,rfl,rfl,rfl,HC2.o1,HC2.o2,HC2.o3,fun x hx=>(HM.o2 x hx).trans ?_,HM.o3⟩;rw [<- HH.o3];exact nxP_end HH.o7.le hij hx HJ.o7
              ·obtain rfl:j=tb.size+1:=by omega
               have hjz:¬ ((tb.size:Int)+1<=(tb.size:Int)):=by omega
               have hdn:∀ x,x<=txt.length->next x=derivesF t txt (q.right.take (k+1)) i x:=fun x hx=>by
                have h1:=hnx x hx;rw [<- HH.o3] at h1;rw [nxP_done HH.o7.le HK.o11 HK.o5 hx] at h1;exact Bool.eq_iff_iff.2 h1
               have hrd2:=(show RdA g txt t a0 a fr p i k (txt.length+1) by rw [HH.o3];exact hrd).sym;have HR:=Z5.mk hdn hrd2 hsn hat hI;clear hdn hrd2 hrd hsn hat hI hnx hm;simp only [Int.natCast_add,Int.cast_ofNat_Int];go_wp2_with fail
               go_roundg (rl - (k+1))
               case measure=>have:=HK.o1;omega
               case rel=>exact ⟨k+1,a,fr,xb,next,by omega,rfl,rfl,rfl,rfl,HR.o2,HR.o3,HR.o4,HR.o1,HR.o5.st,HR.o5.nx,H7.o2,H7.o4,HR.o5.pr⟩
            ·obtain rfl:k=rl:=by omega
             have hkz:¬ ((k:Int)<k):=by omega
             have x1:=(hP.cell 1).trans HQ.o3;have hrd2:=hrd.row HB.o5 (by rw [HB.o10];exact nR _);have HR:=Z4.mk hrd2 hsn hD hP;clear hrd2 hrd hsn hat hhe hD hH hne hnb hP hm;go_wp2_with fail
             go_roundg (tb.size+1 - (i+1))
             case measure=>have:=HI2.o1;omega
             case rel=>exact ⟨i+1,a,fr,by omega,rfl,rfl,rfl,HR.o1,HR.o2,HR.o3,HR.o4⟩
         ·obtain rfl:i=tb.size+1:=by omega
          have hiz:¬ ((tb.size:Int)+1<=(tb.size:Int)):=by omega
          rw [<- HH.o3] at hrd;have HR:=Z3.mk hrd.prod hsn hD;clear hrd hsn hD hP hm;simp only [Int.natCast_add,Int.cast_ofNat_Int];go_wp2_with fail
          go_roundg (NP - (p+1))
          case measure=>have:=HB.o1;omega
          case rel=>exact ⟨p+1,a,fr,by omega,rfl,rfl,rfl,HR.o1,HR.o2,HR.o3⟩
      ·obtain rfl:p=NP:=by omega
       have hpz:¬ ((p:Int)<p):=by omega
       have x1:=hD.gr.cell 1;simp at x1;have hok:fr=false->RefOk g txt t a:=fun h=>by
        subst h;exact hrd.done (by rw [HNP.out];exact nR _) HH.o7 (fun A i j h=>HH.o8.der A i j h) HH.o9 hsn
       have hms:2 * openA g.sorts.length txt.length a+(if fr=true then 1 else 0)<2 * openA g.sorts.length txt.length a0+1:=by
        cases fr with
        | false=>rw [hrd.same rfl];simp
        | true=>have:=hrd.less rfl;simp;omega
       have HR:=Z4.mk hms hsn hok hD;clear hms hsn hok hD hrd hm;go_wp2_with fail
       go_roundg (2 * openA g.sorts.length txt.length a+(if fr=true then 1 else 0))
       case measure=>have h1:=HA.o1;have h2:=HR.o1;simp only [if_true] at h1;omega
       case rel=>exact ⟨a,fr,rfl,rfl,HR.o2,HR.o3,HR.o4⟩
end Go.Proofs.YthiochcpmfkgcaaGreatDoor.Gl
