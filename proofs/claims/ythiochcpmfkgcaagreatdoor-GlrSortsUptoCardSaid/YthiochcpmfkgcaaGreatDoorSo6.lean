/- Walks and plain laws that the last text stands on: GlU, GlM, TbOrderA, TbMaker, TbSetsA, TbHasA. -/
import Derived.Test.YthiochcpmfkgcaaGreatDoorSo5
import Derived.Shelf.SlSortCmp.Insertion
set_option linter.unusedVariables false
set_option linter.unusedSimpArgs false
set_option maxRecDepth 100000
set_option maxHeartbeats 16000000
/-
  PLAIN LAWS of package glr: what was tried stays tried.
-/
namespace Go.Proofs.YthiochcpmfkgcaaGreatDoor.Gl
def Pre (r r':Rn):Prop:=∃ t,r'.tries=r.tries++t
theorem Pre.refl (r:Rn):Pre r r:=⟨[],by simp⟩
theorem Pre.trans {r r1 r2:Rn} (h:Pre r r1) (k:Pre r1 r2):Pre r r2:=by
 obtain ⟨t,h⟩:=h;obtain ⟨u,k⟩:=k;exact ⟨t++u,by rw [k,h,List.append_assoc]⟩
theorem Pre.count {r r':Rn} (h:Pre r r') (e:Nd × Nd):r.tries.count e<=r'.tries.count e:=by
 obtain ⟨t,h⟩:=h;rw [h,List.count_append];omega
theorem altF_pre (r:Rn) (a:Al):Pre r (outB (altF r a)):=by
 unfold altF
 split
 ·exact Pre.refl r
 ·split <;> exact ⟨[],by simp [outB]⟩
theorem linkF_pre (r:Rn) (x y:Nd):Pre r (outB (linkF r x y)):=by
 unfold linkF
 split
 ·exact ⟨_,rfl⟩
 ·split <;> exact ⟨_,rfl⟩
theorem foundF_pre (T:Tab) (j p:Nat):∀ (l:List (Nd × List Nat)) (r:Rn) (f:Bool),Pre r (outB (foundF T j p l r f))
 | [],r,f=>Pre.refl r
 | y::l,r,f=>by
  rw [foundF];have hA:=altF_pre r ⟨p,y.1.2,j,y.2⟩
  cases ha:altF r ⟨p,y.1.2,j,y.2⟩ with
  | stop r1=>rw [ha] at hA;exact hA
  | ok v =>
   obtain ⟨r1,f1⟩:=v;rw [ha] at hA;dsimp only
   cases hg:T.goto_ y.1.1 (T.left p) with
   | none=>exact hA.trans (foundF_pre T j p l r1 (f || f1))
   | some t =>
    dsimp only;have hL:=linkF_pre r1 (t,j) y.1
    cases hl:linkF r1 (t,j) y.1 with
    | stop r2=>rw [hl] at hL;exact Pre.trans hA hL
    | ok v =>
     obtain ⟨r2,f2⟩:=v;rw [hl] at hL;exact (Pre.trans hA hL).trans (foundF_pre T j p l r2 (f || f1 || f2))
theorem prodsF_pre (T:Tab) (x:Nd):∀ (l:List Nat) (r:Rn) (f:Bool),Pre r (outB (prodsF T x l r f))
 | [],r,f=>Pre.refl r
 | p::l,r,f=>by
  rw [prodsF];have hA:=foundF_pre T x.2 p (waysF r.edges (T.len p) x) r f
  cases ha:foundF T x.2 p (waysF r.edges (T.len p) x) r f with
  | stop r1=>rw [ha] at hA;exact hA
  | ok v =>
   obtain ⟨r1,f1⟩:=v;rw [ha] at hA;exact Pre.trans hA (prodsF_pre T x l r1 f1)
theorem passF_pre (T:Tab) (j:Nat):∀ (l:List Nat) (r:Rn),Pre r (outB (passF T j l r))
 | [],r=>Pre.refl r
 | s::l,r=>by
  rw [passF];have hA:Pre r (outB (reduceF T r (s,j))):=prodsF_pre T (s,j) _ r false
  cases ha:reduceF T r (s,j) with
  | stop r1=>rw [ha] at hA;exact hA
  | ok v =>
   obtain ⟨r1,f1⟩:=v;rw [ha] at hA
   cases f1 with
   | true=>exact hA
   | false=>exact Pre.trans hA (passF_pre T j l r1)
theorem againF_pre (T:Tab) (j:Nat):∀ (k:Nat) (r:Rn),Pre r (outA (againF T j k r))
 | 0,r=>Pre.refl r
 | k+1,r=>by
  rw [againF];have hA:=passF_pre T j (rowF r j) r
  cases ha:passF T j (rowF r j) r with
  | stop r1=>rw [ha] at hA;exact hA
  | ok v =>
   obtain ⟨r1,f1⟩:=v;rw [ha] at hA
   cases f1 with
   | false=>exact hA
   | true=>exact Pre.trans hA (againF_pre T j k r1)
theorem shiftsF_pre (T:Tab) (j:Nat) (b:UInt8):∀ (l:List Nat) (r:Rn),Pre r (outA (shiftsF T j b l r))
 | [],r=>Pre.refl r
 | s::l,r=>by
  rw [shiftsF]
  cases hg:T.shift s b with
  | none=>exact shiftsF_pre T j b l r
  | some t =>
   dsimp only;have hL:=linkF_pre r (t,j+1) (s,j)
   cases hl:linkF r (t,j+1) (s,j) with
   | stop r2=>rw [hl] at hL;exact hL
   | ok v =>
    obtain ⟨r2,f2⟩:=v;rw [hl] at hL;exact Pre.trans hL (shiftsF_pre T j b l r2)
theorem placeF_pre (T:Tab) (w:List UInt8) (j:Nat) (r:Rn):Pre r (outA (placeF T w j r)):=by
 unfold placeF;have hA:=againF_pre T j (r.left+1) r
 cases ha:againF T j (r.left+1) r with
 | stop r1=>rw [ha] at hA;exact hA
 | ok r1 =>
  rw [ha] at hA;dsimp only
  cases hb:w[j]? with
  | none=>exact hA
  | some b=>exact Pre.trans hA (shiftsF_pre T j b (rowF r1 j) r1)
theorem goneGo_pre (T:Tab) (w:List UInt8):∀ (k j:Nat) (r:Rn),Pre r (outA (goneGo T w k j r))
 | 0,j,r=>Pre.refl r
 | k+1,j,r=>by
  rw [goneGo]
  split
  ·exact Pre.refl r
  ·have hA:=placeF_pre T w j r
   cases ha:placeF T w j r with
   | stop r1=>rw [ha] at hA;exact hA
   | ok r1=>rw [ha] at hA;exact Pre.trans hA (goneGo_pre T w k (j+1) r1)
end Go.Proofs.YthiochcpmfkgcaaGreatDoor.Gl
/-
  PLAIN LAWS of package glr: how many nodes there can be.
-/
namespace Go.Proofs.YthiochcpmfkgcaaGreatDoor.Gl
open Tb (Gr Sy It St MadeLaw)
structure Below_ (T:Tab) (N:Nat):Prop where
 zero:0<N
 shift:∀ s b t,T.shift s b=some t->t<N
 goto_:∀ s A t,T.goto_ s A=some t->t<N
theorem node_below {T:Tab} {N:Nat} (h:Below_ T N) (w:List UInt8):∀ x,LN T w x->x.1<N:=by
 have hL:=least_closed T w;exact (least_ind (N:=fun x=>x.1<N) (E:=fun x _=>x.1<N) (A:=fun _=>True) ⟨⟨hL.start,h.zero⟩,fun x y q=>⟨hL.node x y q.1,q.2⟩,fun s i b t h1 h2 h3=>⟨hL.shift s i b t h1.1 h2 h3,h.shift s b t h3⟩,fun s j p y c h1 h2 h3 h4=>⟨hL.alt s j p y c h1.1 h2 h3 (h4.mono fun _ _ q=>q.1),trivial⟩,fun s j p y c t h1 h2 h3 h4 h5=>⟨hL.goto_ s j p y c t h1.1 h2 h3 (h4.mono fun _ _ q=>q.1) h5,h.goto_ _ _ t h5⟩⟩).1
theorem nodes_few {T:Tab} {N:Nat} (h:Below_ T N) (w:List UInt8) (l:List Nd) (hl:l.Nodup) (hx:∀ x∈l,LN T w x):l.length<=N * (w.length+1):=by
 have hall:∀ x∈l,x.1<N /\ x.2<w.length+1:=fun x q=>⟨node_below h w x (hx x q),by have:=(least_place T w).1 x (hx x q);omega⟩
 have h2:=nodup_bound (N * (w.length+1)) (l.map fun x=>x.1 * (w.length+1)+x.2) (by
  rw [List.nodup_iff_pairwise_ne,List.pairwise_map];refine List.Pairwise.imp_of_mem ?_ (List.nodup_iff_pairwise_ne.1 hl);intro a b ha hb hne he;have ha:=(hall a ha).2;have hb:=(hall b hb).2;have e2:a.2=b.2:=by
   have:=congrArg (· % (w.length+1)) he;simp only [Nat.mul_add_mod_self_right] at this
   rwa [Nat.mod_eq_of_lt ha,Nat.mod_eq_of_lt hb] at this
  have e1:a.1=b.1:=by
   rw [e2] at he;exact Nat.eq_of_mul_eq_mul_right (by omega) (Nat.add_right_cancel he)
  exact hne (Prod.ext e1 e2)) (fun v hv=>by
  obtain ⟨x,q,rfl⟩:=List.mem_map.1 hv;obtain ⟨q1,q2⟩:=hall x q;have:=Nat.mul_le_mul_right (w.length+1) (show x.1+1<=N from q1);rw [Nat.add_mul,Nat.one_mul] at this;omega)
 rwa [List.length_map] at h2
theorem tab_below {g:Gr} {l:List St} (hm:MadeLaw g l):Below_ (tabF g l) l.length where
 zero:=by
  obtain ⟨s,h,_⟩:=hm.start;exact (gS.1 h).1
 shift:=fun s b t h=>by
  obtain ⟨st,e1,e2,e3⟩:=at_some (l:=l) (s:=s) (by unfold tabF at h;dsimp only at h;intro h0;rw [h0] at h;cases h);unfold tabF at h;dsimp only at h;rw [e3] at h
  cases hf:st.edges.find? (fun e=>byByte b.toNat e.1) with
  | none=>rw [hf] at h;cases h
  | some e =>
   rw [hf] at h
   cases h
   obtain ⟨K,_,h6⟩:=(hm.state st (gM e1)).edges (List.mem_of_find?_eq_some hf);have:=(gS.1 h6).1
   simpa using this
 goto_:=fun s A t h=>by
  obtain ⟨st,e1,e2,e3⟩:=at_some (l:=l) (s:=s) (by unfold tabF at h;dsimp only at h;intro h0;rw [h0] at h;cases h);unfold tabF at h;dsimp only at h;rw [e3] at h
  cases hf:st.edges.find? (fun e=>bySort A e.1) with
  | none=>rw [hf] at h;cases h
  | some e =>
   rw [hf] at h
   cases h
   obtain ⟨K,_,h6⟩:=(hm.state st (gM e1)).edges (List.mem_of_find?_eq_some hf);have:=(gS.1 h6).1
   simpa using this
end Go.Proofs.YthiochcpmfkgcaaGreatDoor.Gl
namespace Go.Proofs.YthiochcpmfkgcaaGreatDoor.Tb
open Go Go.RowKit Go.Proofs Go.Sort Mx

theorem nan_any (x:Int) (w:World):Calls Tryz.prog 60 #[.int .i64 x] w fun e w'=>e=.returned (.bool false) /\ w=w':=by
 go_enter Tryz.func60,Tryz.ntmps60
 go_wp2
 go_ret;exact ⟨by simp,rfl⟩
def cmpI (x y:Int):Int:=if x<y then -1 else if y<x then 1 else 0
theorem cmp_any (x y:Int) (w:World):Calls Tryz.prog 32 #[.int .i64 x,.int .i64 y] w fun e w'=>e=.returned (.int .i64 (cmpI x y)) /\ w'=w:=by
 have hn:=nan_any;go_enter Tryz.func32,Tryz.ntmps32;go_wp2_with (go_at_call 60;refine (hn _ _).mono ?_;rintro e w' ⟨rfl,rfl⟩)
 all_goals
  go_ret;refine ⟨?_,rfl⟩;unfold cmpI
  first
   | (simp_all;done)
   | (rw [if_neg (by omega),if_pos (by omega)];done)
   | (rw [if_neg (by omega),if_neg (by omega)];rfl)
theorem or_any (a b:Int) (g c:Nat) (w:World) (h0:w.cell? ⟨g,0,none⟩=some (.int .i64 a)) (h1:w.cell? ⟨g,1,none⟩=some (.int .i64 b)) :
  Calls Tryz.prog 31 #[.slice (some ⟨g,0,none⟩) 2 c] w fun e w'=>e=.returned (.int .i64 (if a=0 then b else a)) /\ w'=w:=by
 go_enter Tryz.func31,Tryz.ntmps31
 go_wp2
 go_loopg [8] 2 (fun m v8 wr=>wr=w /\ ∃ i:Nat,i<=2 /\ m=2 - i /\ v8=.int .i64 i /\ (0<i->a=0) /\ (1<i->b=0))
 case atStart=>exact ⟨rfl,0,by omega,rfl,rfl,by omega,by omega⟩
 case round =>
  obtain ⟨rfl,i,hi,hm,rfl,h2,h3⟩:=hrel
  rcases (show i=0∨i=1∨i=2 by omega) with rfl | rfl | rfl
  ·by_cases ha:a=0
   ·have hx:(a != 0)=false:=by simp [ha]
    go_wp2
    go_roundg 1
    case measure=>omega
    case rel=>exact ⟨rfl,1,by omega,by omega,rfl,fun _=>ha,by omega⟩
   ·have hx:(a != 0)=true:=by simp [ha]
    go_wp2
    go_ret;exact ⟨by first | rfl | rw [if_neg ha],rfl⟩
  ·have ha:=h2 (by omega)
   by_cases hb:b=0
   ·have hx:(b != 0)=false:=by simp [hb]
    go_wp2
    go_roundg 0
    case measure=>omega
    case rel=>exact ⟨rfl,2,by omega,by omega,rfl,fun _=>ha,fun _=>hb⟩
   ·have hx:(b != 0)=true:=by simp [hb]
    go_wp2
    go_ret;exact ⟨by first | rfl | rw [if_pos ha],rfl⟩
  ·have ha:=h2 (by omega);have hb:=h3 (by omega)
   go_wp2
   go_ret;exact ⟨by first | rw [if_pos ha,hb];done | rw [hb];done | simp_all,rfl⟩
def cfIt (x y:It):Int:=if cmpI x.1 y.1=0 then cmpI x.2 y.2 else cmpI x.1 y.1
theorem order_any (x y:It) (w:World) :
  Calls Tryz.prog 108 #[.agg #[.int .i64 x.1,.int .i64 x.2],.agg #[.int .i64 y.1,.int .i64 y.2]] w fun e w'=>e=.returned (.int .i64 (cfIt x y)) /\ ∃ q os',w'=Sort.grow (w.drewN q) os':=by
 have hc1:=cmp_any (x.1:Int) (y.1:Int);have hc2:=cmp_any (x.2:Int) (y.2:Int);unfold cfIt;generalize cmpI x.1 y.1=c1 at *;generalize cmpI x.2 y.2=c2 at *;have ho:=fun g c w h0 h1=>or_any c1 c2 g c w h0 h1;generalize (if c1=0 then c2 else c1)=r at ho ⊢;go_enter Tryz.func108,Tryz.ntmps108
 go_wp2
 generalize hw1:(w.alloc (.cells #[.int .i64 x.1,.int .i64 x.2] 134)).alloc (.cells #[.int .i64 y.1,.int .i64 y.2] 134)=w1;have B0:Blk w1 w.heap.size 134 #[.int .i64 x.1,.int .i64 x.2]:=by rw [<- hw1];exact (Blk.new w _ _).alloc _
 have B1:Blk w1 (w.heap.size+1) 134 #[.int .i64 y.1,.int .i64 y.2]:=by rw [<- hw1];exact Blk.new_ (by simp) _ _
 have hG:w1=Sort.grow (w.drewN 0) #[.cells #[.int .i64 x.1,.int .i64 x.2] 134,.cells #[.int .i64 y.1,.int .i64 y.2] 134]:=by
  rw [<- hw1,Sort.alloc_eq_grow,Sort.alloc_eq_grow,Sort.grow_grow];rfl
 obtain ⟨p0,p1,pf⟩:=B0.facts2;obtain ⟨q0,q1,qf⟩:=B1.facts2;have HG:=Hd hG;clear hG B0 B1;clear hw1;generalize w.heap.size=b0 at *
 go_still_tail 10,(by kernel_rfl)
 still_call (hc1 _)
 repeat still_step
 still_call (hc2 _)
 try refine wpStill_nil ?_
 change wpList _ _ _ _ _ w1.drew
 go_wp2_with fail
 have N:=Blk.new_ (w:=w1) rfl 3 #[.int .i64 c1,.int .i64 c2];refine (ho _ _ _ (N.drew.cell 0) (N.drew.cell 1)).mono ?_;rintro e w' ⟨rfl,rfl⟩;go_wp2_with fail
 go_ret;refine ⟨rfl,1,#[.cells #[.int .i64 x.1,.int .i64 x.2] 134,.cells #[.int .i64 y.1,.int .i64 y.2] 134]++#[.cells #[.int .i64 c1,.int .i64 c2] 3],?_⟩;rw [HG.out,Sort.alloc_eq_grow,Sort.grow_grow]
 rfl
theorem lt_cfIt (x y:It):ltOf cfIt x y=!itLe y x:=by
 unfold ltOf cfIt cmpI itLe
 rcases Nat.lt_trichotomy x.1 y.1 with h | h | h
 ·have h1:(x.1:Int)<y.1:=by omega
  have h2:¬ y.1<x.1:=by omega
  have h3:¬ y.1=x.1:=by omega
  simp [h1,h2,h3]
 ·have h1:¬ (x.1:Int)<y.1:=by omega
  have h1':¬ (y.1:Int)<x.1:=by omega
  rcases Nat.lt_trichotomy x.2 y.2 with k | k | k
  ·have k1:(x.2:Int)<y.2:=by omega
   have k2:¬ y.2<=x.2:=by omega
   simp [h1,h1',h,k1,k2]
  ·simp [h1,h1',h,k]
  ·have k1:¬ (x.2:Int)<y.2:=by omega
   have k2:y.2<=x.2:=by omega
   have k3:(y.2:Int)<x.2:=by omega
   simp [h1,h1',h,k1,k2,k3]
 ·have h1:¬ (x.1:Int)<y.1:=by omega
  have h2:(y.1:Int)<x.1:=by omega
  simp [h1,h,h2]
theorem swo_cfIt:SWO (ltOf cfIt) where
 irrefl x:=by rw [lt_cfIt];have:=itLe_total x x;simp_all
 trans x y z h1 h2:=by
  rw [lt_cfIt] at *;have a:=itLe_total x y;have b:=itLe_total y z;simp at h1 h2 ⊢;rw [h1] at a;rw [h2] at b;simp at a b
  cases hz:itLe z x with
  | false=>rfl
  | true=>have:=itLe_trans (itLe_trans hz a) b;have:=itLe_trans hz a;simp_all
 ntrans x y z h1 h2:=by
  rw [lt_cfIt] at *;simp at h1 h2 ⊢;exact itLe_trans h2 h1
end Go.Proofs.YthiochcpmfkgcaaGreatDoor.Tb
namespace Go.Proofs.YthiochcpmfkgcaaGreatDoor.Tb
open Go Go.RowKit Go.Proofs Mx

@[local go_sem] theorem guardIt:Tryz.prog.eqGuardType Tryz.prog.depth 134=false:=by kernel_rfl
theorem it_cells {w:World} {B g cap:Nat} {t:TypeId} {l:List It} {n:Nat} (h:w.ownsRow B t 2 (.slice (some ⟨g,0,none⟩) n cap) n (flatK encIt l)) (hn:n=l.length) (i:Nat) (x:It) (hx:l[i]?=some x) :
  w.cell? ⟨g,i * 2,none⟩=some (.int .i64 x.1) /\ w.cell? ⟨g,i * 2+1,none⟩=some (.int .i64 x.2):=by
 have hi:=(gS.1 hx).1
 constructor
 ·rw [h.cellAt (i * 2) (by omega)];exact flatK_get encIt_len l i x 0 _ hx rfl
 ·rw [h.cellAt (i * 2+1) (by omega)];exact flatK_get encIt_len l i x 1 _ hx rfl
theorem flat_set:∀ (l:List It) (i:Nat) (x:It),i<l.length->((flatK encIt l).set (i * 2) (.int .i64 x.1)).set (i * 2+1) (.int .i64 x.2)=flatK encIt (l.set i x)
 | [],i,x,h=>by simp at h
 | y::l,0,x,h=>by simp [flatK_cons,encIt]
 | y::l,i+1,x,h=>by
  have ih:=flat_set l i x (by simpa using h);rw [flatK_cons,List.set_cons_succ,flatK_cons,<- ih];have e1:(i+1) * 2=(encIt y).length+i * 2:=by rw [encIt_len];omega
  have e2:(i+1) * 2+1=(encIt y).length+(i * 2+1):=by rw [encIt_len];omega
  rw [e1,List.set_append_right _ _ (by omega),Nat.add_sub_cancel_left,show (encIt y).length+i * 2+1=(encIt y).length+(i * 2+1) by omega,List.set_append_right _ _ (by omega),Nat.add_sub_cancel_left]
theorem compact_short (l:List It) (h:l.length<2):compactIt l=l:=by
 match l,h with
 | [],_=>rfl
 | [x],_=>rfl
theorem compact_any (l:List It) (B:Nat) (v:Value) (w:World) (h:w.ownsRow B 134 2 v l.length (flatK encIt l)) (hmax0:l.length<4611686018427387904) :
  Calls Tryz.prog 109 #[v] w fun e w'=>∃ v',e=.returned v' /\ SliceK (TyD B 134 w') encIt 2 w' v' (compactIt l) /\ w.grownBy w' v.ownBlock:=by
 by_cases hs:l.length<2
 ·rw [compact_short l hs];have hsl:SliceK (TyD B 134 w) encIt 2 w v l:=own_sliceT encIt_len h;obtain ⟨a,cap,rfl,hK⟩:=hsl;have hs':(l.length:Int)<2:=by omega
  have HK:=Z2.mk h hK;clear h hK;go_enter Tryz.func109,Tryz.ntmps109
  go_wp2
  go_ret;exact ⟨_,rfl,⟨a,cap,rfl,HK.o2⟩,grown_refl _ _⟩
 ·obtain ⟨g,cap,rfl,hBg⟩:∃ g cap,v=.slice (some ⟨g,0,none⟩) l.length cap /\ B<=g:=by
   rcases h.2 with ⟨rfl,h1⟩ | ⟨g,cap,cur,rfl,hg,_⟩
   ·omega
   ·exact ⟨g,cap,rfl,hg⟩
  have hcap:l.length<=cap /\ cap<=maxLen:=by
   rcases h.2 with ⟨h1,_⟩ | ⟨g,cap,cur,h1,hg,_,h2,h3,_⟩
   ·cases h1
   ·injection h1 with e1 e2 e3;subst e3;exact ⟨h2,h3⟩
  obtain ⟨n,hnl⟩:=eX l.length;rw [hnl] at h hs hcap hmax0 ⊢;have hmax:(n:Int)<4611686018427387904:=by omega
  clear hmax0;have hge:¬ (n:Int)<2:=by omega
  have HL:=Z4.mk hnl h hcap hBg;clear hnl h hs hBg hcap;go_enter Tryz.func109,Tryz.ntmps109
  go_wp2
  go_loopg [3] (n - 1) (fun m v3 wr=>∃ k q,1<=k /\ k<=n /\ m=n - k /\ v3=.int .i64 (k:Nat) /\ wr=w.drewN q /\ compactIt (l.take k)=l.take k)
  case atStart =>
   exact ⟨1,0,by omega,by omega,rfl,rfl,rfl,compact_short _ (by simp;omega)⟩
  case round =>
   obtain ⟨k,q,hk1,hkn,hm,rfl,rfl,hc⟩:=hrel
   by_cases hlt:k<n
   ·obtain ⟨j,rfl⟩:∃ j,k=j+1:=⟨k - 1,by omega⟩;have hlen:=HL.o1;obtain ⟨y,hy⟩:∃ y,l[j]?=some y:=⟨_,gE (by omega)⟩;obtain ⟨x,hx⟩:∃ x,l[j+1]?=some x:=⟨_,gE (by omega)⟩;have hcx:=it_cells HL.o2 (HL.o1.symm) _ x hx;have hcy:=it_cells HL.o2 (HL.o1.symm) _ y hy;have hct:=compactIt_take l j (by omega);have ey:l[j]=y:=(gS.1 hy).2;have ex:l[j+1]=x:=(gS.1 hx).2;rw [ey,ex] at hct;have A:=Z5.mk hm hc hct hy hx;obtain ⟨kk,hkk⟩:=eX (j+1);rw [hkk] at hcx hlt;have hwk:IntKind.i64.wrap ((kk:Int) - 1)=(j:Int):=by rw [IntKind.wrap_i64];omega
    obtain ⟨cx1,cx2⟩:=hcx;obtain ⟨cy1,cy2⟩:=hcy;have hj0:(0:Int)<=j:=by omega
    have hjn:(j:Int)<n:=by omega
    have hk0:(0:Int)<=kk:=by omega
    have hkn':(kk:Int)<n:=by omega
    clear hm hc hct hy hx ey ex hlen hk1 hkn;obtain ⟨x1,x2⟩:=x;obtain ⟨y1,y2⟩:=y;have hkx:=Hd hkk;rw [hkk];clear hkk hlt
    by_cases e:((x1,x2):It)=(y1,y2)
    ·have he:=Hd e;clear e;have hlt':kk<n:=by omega
     have hkk0:1<=kk:=by have:=hkx.out;omega
     injection he.out with e1 e2;subst e1;subst e2;have hkn1:(kk:Int)<=n:=by omega
     have hcp:=HL.o3;have hcp0:n<=cap:=hcp.1;have hcp1:(n:Int)<=cap:=by omega
     have hkc:(kk:Int)<=cap:=by omega
     have hkN:kk<=n:=by omega
     clear hcp
     go_wp2
     go_quiet (fail)
     go_wp2_with fail
     obtain ⟨N,hN⟩:=eX (n - kk);rw [hN];have HK:=Z3.mk hN hlt' hkk0;have hNb:(N:Int)<4611686018427387904:=by omega
     clear hN hkk0 hlt' hkn1 hcp0 hcp1 hkc hkN cx1 cx2 cy1 cy2 hwk hj0 hjn hkn'
     go_loopg [3,5] (N - 1) (fun m v3 v5 wr=>∃ (p k':Nat) (L':List It),1<=p /\ p<=N /\ m=N - p /\ v5=.int .i64 (p:Nat) /\ v3=.int .i64 (k':Nat) /\ wr.ownsRow B 134 2 (.slice (some ⟨g,0,none⟩) n cap) n (flatK encIt L') /\ L'.length=n /\
       L'.take k'=compactIt (l.take (kk+p)) /\ k'<kk+p /\ (∀ i,k'<=i->L'[i]?=l[i]?) /\ w.grownBy wr (some g))
     case atStart =>
      refine ⟨1,kk,l,by omega,by have:=(A3 HK.o1 HK.o2 HK.o3);omega,rfl,rfl,rfl,HL.o2,HL.o1,?_,by omega,fun _ _=>rfl,grown_drewN (grown_refl _ _) _⟩;have h1:=A.o3;simp only [if_true] at h1;have h2:=A.o2;rw [hkx.out] at h1 h2;rw [<- hkx.out];rw [h1,show j+1=kk from hkx.out,h2]
     case round =>
      obtain ⟨p,k',L',hp1,hpN,hm,rfl,rfl,hown,hL',htk,hkp,hrest,hgr⟩:=hrel;have hkN:=(A3 HK.o1 HK.o2 HK.o3);have hnl:=HL.o1;have R:=Z7.mk hm hown hL' htk hkp hrest hgr
      by_cases hlp:p<N
      ·obtain ⟨r,rfl⟩:∃ r,p=r+1:=⟨p - 1,by omega⟩;obtain ⟨y,hy⟩:∃ y,l[kk+r]?=some y:=⟨_,gE (by omega)⟩;obtain ⟨x,hx⟩:∃ x,l[kk+(r+1)]?=some x:=⟨_,gE (by omega)⟩;obtain ⟨z,hz⟩:∃ z,L'[k']?=some z:=⟨_,gE (by omega)⟩;obtain ⟨cx1,cx2⟩:=it_cells hown hL'.symm (kk+(r+1)) x (by rw [hrest _ (by omega)];exact hx);obtain ⟨cy1,cy2⟩:=it_cells hown hL'.symm (kk+r) y (by rw [hrest _ (by omega)];exact hy);obtain ⟨cz1,cz2⟩:=it_cells hown hL'.symm k' z hz;have hfz:=hown.frozenAt;rw [Nat.add_mul] at cx1 cx2 cy1 cy2;have hct:=compactIt_take l (kk+r) (by omega);rw [(gS.1 hy).2,show l[kk+r+1]=x from (gS.1 hx).2] at hct;have R2:=Z3.mk hct hx hy;have hkn2:k'<n:=by omega
       clear hm hown hL' htk hkp hrest hgr hct hx hy hz hkN hnl;obtain ⟨q,hq⟩:=eX (r+1);rw [hq] at cx1 cx2 hlp;have hwq:IntKind.i64.wrap ((q:Int) - 1)=(r:Int):=by rw [IntKind.wrap_i64];omega
       have hr0:(0:Int)<=r:=by omega
       have hrN:(r:Int)<N:=by omega
       have hq0:(0:Int)<=q:=by omega
       have hqN:(q:Int)<N:=by omega
       have hz0:(0:Int)<=k':=by omega
       have hzn:(k':Int)<n:=by omega
       rw [hq];have HQ:=Hd hq;clear hq hp1 hpN hlp;obtain ⟨a1,a2⟩:=x;obtain ⟨b1,b2⟩:=y
       by_cases e:((a1,a2):It)=(b1,b2)
       ·have he':=Hd e;clear e;injection he'.out with e1 e2;subst e1;subst e2;go_wp2_with fail
        go_quiet (fail)
        go_wp2_with fail
        go_roundg (N - (q+1))
        case measure=>have:=R.o1;have:=HQ.out;omega
        case rel =>
         have hq:=HQ.out;refine ⟨q+1,k',L',by omega,by omega,rfl,rfl,rfl,R.o2,R.o3,?_,by have:=R.o5;omega,R.o6,grown_drewN R.o7 _⟩;have h1:=R2.o1;simp only [if_true] at h1;rw [R.o4,show kk+(q+1)=kk+r+2 by omega,h1,show kk+(r+1)=kk+r+1 by omega]
       ·have he':=Hd e
        have hne:(a1=b1 /\ ¬ (a2:Int)=(b2:Int))∨¬ (a1:Int)=(b1:Int):=by
         by_cases h1:a1=b1
         ·refine .inl ⟨h1,fun h2=>e (by rw [h1,Int.ofNat.inj h2])⟩
         ·exact .inr (fun h2=>h1 (Int.ofNat.inj h2))
        clear e
        rcases hne with ⟨rfl,hne⟩ | hne
        all_goals
         go_wp2_with fail
         go_quiet (fail)
         go_wp2_with fail
         go_roundg (N - (q+1))
         case measure=>have:=R.o1;have:=HQ.out;omega
         case rel =>
          have hq:=HQ.out;have hn:=HL.o1;have h1:=own_put (own_put R.o2 (k' * 2) (by omega) (.int .i64 a1)) (k' * 2+1) (by omega) (.int .i64 a2);have hL':=R.o3;have hs:=flat_set L' k' (a1,a2) (by omega);rw [hs] at h1;refine ⟨q+1,k'+1,L'.set k' (a1,a2),by omega,by omega,rfl,rfl,rfl,h1,by simpa using hL',?_,by have:=R.o5;omega,?_,grown_set (p:=⟨g,k' * 2+1,none⟩) (grown_set (p:=⟨g,k' * 2,none⟩) (grown_drewN R.o7 _) rfl _) rfl _⟩
          ·have h2:=R2.o1;rw [if_neg (fun h=>he'.out h.symm)] at h2;rw [show kk+(q+1)=kk+r+2 by omega,h2,show kk+r+1=kk+(r+1) by omega,<- R.o4];rw [List.take_succ_eq_append_getElem (by simp;omega),List.take_set_of_le (nR _)];simp
          ·intro i hi;rw [List.getElem?_set_ne (by omega)];exact R.o6 i (by omega)
      ·obtain rfl:p=N:=by omega
       have hk'n:k'<n:=by omega
       obtain ⟨vs,hvs⟩:=eX ((Builtin.zeroCells (Value.agg #[.int .i64 0,.int .i64 0]).cells (n - k')).toList);have hvl:vs.length=(n - k') * 2:=by rw [<- hvs,zero_cells_len];rfl
       have hv1:∀ u∈vs,u.oneCell'=true:=by
        intro u hu;rw [<- hvs] at hu;simp only [Builtin.zeroCells,Array.toList_map,List.mem_map] at hu;obtain ⟨i,_,rfl⟩:=hu;have hmod:i % 2=0∨i % 2=1:=by omega
        show (#[Value.int .i64 0,Value.int .i64 0][i % 2]!).oneCell'=true
        rcases hmod with e | e <;> rw [e] <;> rfl
       have hclr:∀ ty,(Builtin.clear_ #[132] ty #[.slice (some ⟨g,k' * 2,none⟩) (n - k') (cap - k')]).run Tryz.prog wr=.ok (.tuple #[]) (wr.setCells g (k' * 2) vs):=fun ty =>
        run_clear_cells wr _ 134 ty _ Tryz.underlying132 Tryz.zeroValue134 vs g (k' * 2) (n - k') (cap - k') (by omega) hvs hv1
         (fun j hj=>by
          rw [hvl] at hj;rw [hown.cellAt _ (by omega)];simp [flatK_len encIt_len,hL'];omega)
         (fun j hj=>hown.frozenAt _)
       have HE:=Hd (own_fars vs (k' * 2) wr (nR _) (own_cut hown (Nat.le_of_lt hk'n)));have hcp:=HL.o3;have hcp0:n<=cap:=hcp.1;have hcp1:(n:Int)<=cap:=by omega
       have hkc:(k':Int)<=cap:=by omega
       have hkn1:(k':Int)<=n:=by omega
       have hkNN:k'<=n:=by omega
       have hkcN:k'<=cap:=by omega
       clear hm hown hL' htk hkp hrest hgr hvs hvl hv1 hcp;go_wp2_with fail
       go_ret;have hK:=(A3 HK.o1 HK.o2 HK.o3);have hn:=HL.o1;have hL':=R.o3;have htk:=R.o4;rw [show kk+p=l.length by omega,List.take_length] at htk;have hlk:(L'.take k').length=k':=by rw [List.length_take];omega
       have h1:=HE.out;rw [flatK_take encIt_len] at h1;refine ⟨_,rfl,?_,grown_sets _ _ _ R.o7⟩;rw [<- htk];have h2:(wr.setCells g (k' * 2) vs).ownsRow B 134 2 (.slice (some ⟨g,0,none⟩) k' cap) (L'.take k').length (flatK encIt (L'.take k')):=by rw [hlk];exact h1
       exact own_sliceT encIt_len h2
    ·have he:=Hd e
     have hne:(x1=y1 /\ ¬ (x2:Int)=(y2:Int))∨¬ (x1:Int)=(y1:Int):=by
      by_cases h1:x1=y1
      ·refine .inl ⟨h1,fun h2=>e (by rw [h1,Int.ofNat.inj h2])⟩
      ·exact .inr (fun h2=>h1 (Int.ofNat.inj h2))
     clear e
     rcases hne with ⟨rfl,hne⟩ | hne
     all_goals
      go_wp2
      go_quiet (fail)
      go_wp2
      go_roundg (n - (kk+1))
      case measure=>have:=A.o1;have:=hkx.out;omega
      case rel =>
       refine ⟨kk+1,q+nq,by omega,by omega,rfl,rfl,rfl,?_⟩;have h1:=A.o3;rw [if_neg (fun h=>he.out h.symm)] at h1;have h2:=A.o2;rw [hkx.out] at h1 h2;rw [<- hkx.out,h1,show j+1=kk from hkx.out,h2,<- hkx.out];have h3:=List.take_succ_eq_append_getElem (l:=l) (i:=j+1) (by have:=HL.o1;omega);rw [h3,(gS.1 A.o5).2]
   ·obtain rfl:k=n:=by omega
    have A:=Hd hc;clear hc
    go_wp2
    go_ret;refine ⟨_,rfl,?_,grown_drewN (grown_refl _ _) _⟩;have h1:=A.out;rw [<- HL.o1,List.take_length] at h1;rw [h1];have hsl:SliceK (TyD B 134 w) encIt 2 w (.slice (some ⟨g,0,none⟩) k cap) l:=own_sliceT encIt_len (by rw [HL.o1];exact HL.o2);exact hsl.keep fun _ hg _=>⟨hg,rfl⟩
end Go.Proofs.YthiochcpmfkgcaaGreatDoor.Tb
namespace Go.Proofs.YthiochcpmfkgcaaGreatDoor.Tb
open Go Go.RowKit Go.Proofs Mx
theorem infoItem:(Tryz.prog.info? 134).map (fun i=>(i.zero,i.size,i.bytes))=some (some (.agg #[.int .i64 0,.int .i64 0]),2,16):=by kernel_rfl
theorem flat_one:∀ (l:List It),∀ u∈flatK encIt l,u.oneCell'=true
 | [],u,hu=>by simp [flatK] at hu
 | x::l,u,hu=>by
  rw [flatK_cons] at hu
  rcases List.mem_append.1 hu with h | h
  ·exact encIt_one x u h
  ·exact flat_one l u h
theorem flatK_cell {α:Type} {enc:α->List Value} {k:Nat} (hk:∀ x,(enc x).length=k) (hk0:0<k) (l:List α) (t:Nat) (u:Value) (h:(flatK enc l)[t]?=some u):∃ x,l[t / k]?=some x /\ (enc x)[t % k]?=some u:=by
 have ht:t<(flatK enc l).length:=(gS.1 h).1;rw [flatK_len hk] at ht;have h1:t / k<l.length:=Nat.div_lt_of_lt_mul (by rwa [Nat.mul_comm] at ht);have h2:=Nat.mod_lt t hk0;refine ⟨l[t / k],gE h1,?_⟩;have h3:(enc l[t / k])[t % k]?=some ((enc l[t / k])[t % k]'(by rw [hk];exact h2)):=gE _;have h4:=flatK_get hk l (t / k) _ (t % k) _ (gE h1) h3;rw [Nat.mul_comm,Nat.div_add_mod,h] at h4;rw [h3,h4]
theorem addr_add (g o j:Nat):(⟨g,o,none⟩:Addr).add j=⟨g,o+j,none⟩:=by
 unfold Addr.add
 by_cases h:j=0 <;> simp [h]
theorem clone_any (D:Nat->Prop) (l:List It) (v:Value) (w:World) (h:SliceK D encIt 2 w v l) (hn:l.length<=1000000000000) :
  Calls Tryz.prog 106 #[v] w fun e w'=>∃ v',e=.returned v' /\ w'.ownsRow w.heap.size 134 2 v' l.length (flatK encIt l) /\ Below w.heap.size w w':=by
 obtain ⟨a,cap,rfl,hc1,hc2,hK⟩:=h;obtain ⟨i0,hi,hz0,hz1,hz2⟩:=info_parts infoItem;have q50:∀ (w:World) (a:Option Addr) (n c n' c':Nat),(binOp .eql 132 (.slice a n c) (.slice none n' c')).run Tryz.prog w=.ok (.bool a.isNone) w:=fun w a n c n' c'=>Lib.run_eql_slice_nil w _ _ a n c n' c' Tryz.underlying132
 cases a with
 | none =>
  have hl:l=[]:=by
   apply Classical.byContradiction;intro hl;obtain ⟨g,o,e,_⟩:=hK hl
   cases e
  subst hl;clear hK;go_enter Tryz.func106,Tryz.ntmps106
  go_wp2
  go_ret;exact ⟨_,rfl,World.ownsRow_nil _ _ _ _,bR _ _⟩
 | some ad =>
  have hcell:∀ j u,(flatK encIt l)[j]?=some u->w.cell? (ad.add j)=some u:=by
   intro j u hu;have hl:l≠[]:=by rintro rfl;simp [flatK] at hu
   obtain ⟨g,o,e,_,hr⟩:=hK hl;have e:=Option.some.inj e;subst e;obtain ⟨x,hx,hxu⟩:=flatK_cell encIt_len (by decide) l j u hu;have:=hr.cells _ x hx _ u hxu;rw [show o+j / 2 * 2+j % 2=o+j by omega] at this;rw [addr_add];exact this
  have A:=Hd hcell;clear hK hcell;go_enter Tryz.func106,Tryz.ntmps106;go_wp2_with (at_builtin;refine wpList_append_own _ rfl _ _ 132 rfl w.heap.size 134 i0 (.agg #[.int .i64 0,.int .i64 0]) 2 16 Tryz.underlying132 hi hz0 hz1 hz2 rfl (by decide) _ _ _ rfl (World.ownsRow_made w #[] 0 (nR _) (Nat.zero_le _) (by simp)) ad l.length cap (flatK encIt l) rfl ?c0 ?c1 ?c2 ?c3 ?c4 ?c5 ?_)
  case c0=>exact flatK_len encIt_len l
  case c1 =>
   intro j u hj;exact cell_alloc_ (A.out j u hj) _
  case c2=>exact flat_one l
  case c3=>have:=hc1;have:=hc2;omega
  case c4=>omega
  case c5=>simp
  intro v' w1 hown hg _;have H:=Z2.mk hown hg;clear hown hg;go_wp2_with fail
  go_ret;have h1:=H.o1
  first | rw [Nat.zero_add,List.nil_append] at h1 | skip
  refine ⟨_,rfl,h1,?_⟩;exact ((bR _ w).alloc (nR _) _).grown H.o2 (by simp) (fun b hb=>by simp [Value.ownBlock] at hb;omega)
structure SM where
 vi:Value
 ve:Value
 vd:Value
 items:List It
 edges:List (Sy × Nat)
 next:Nat
 done:List Nat
def encSM (s:SM):List Value:=[s.vi,s.ve,.int .u64 (wd s.next 0),.int .u64 (wd s.next 1),.int .u64 (wd s.next 2),.int .u64 (wd s.next 3),s.vd]
theorem encSM_len (s:SM):(encSM s).length=7:=rfl
def encEd (e:Sy × Nat):List Value:=encSy e.1++[.int .i64 e.2]
theorem encEd_len (e:Sy × Nat):(encEd e).length=7:=rfl
structure SMok (g:Gr) (B:Nat) (w:World) (s:SM):Prop where
 items:SliceK (TyD B 134 w) encIt 2 w s.vi s.items
 edges:SliceK (TyD B 173 w) encEd 7 w s.ve s.edges
 done:SliceK (TyD B 3 w) encN 1 w s.vd s.done
 ok:∀ x∈s.items,itemOk g x=true
 len:s.items.length<=10000
structure MkW (g:Gr) (B mb bm:Nat) (sm:List SM) (w:World):Prop where
 mlt:mb<B
 blt:bm<B
 ne:mb≠bm
 size:B<=w.heap.size
 gr:MkR (fun b=>b<B /\ b≠mb /\ b≠bm) w mb g
 met:w.cell? ⟨mb,6,none⟩=some (.map (some bm))
 fz:∀ i,w.frozen? ⟨mb,i,none⟩=false
 all:∃ va,w.cell? ⟨mb,7,none⟩=some va /\ w.ownsRow B 145 7 va sm.length (flatK encSM sm)
 each:∀ s∈sm,SMok g B w s
 map:∃ f,MapV Tryz.prog 9 w bm sm.length f /\ ∀ l,f (.string (keyF l))=((sm.map (·.items)).findIdx? (·==l)).map fun (n:Nat)=>Value.int .i64 n
 many:sm.length<=16384
structure KeepM (mb bm:Nat) (w w':World):Prop where
 os:w'.os=w.os
 tape:w'.tape=w.tape
 output:w'.output=w.output
 size:w.heap.size<=w'.heap.size
 block:∀ b,b<w.heap.size->b≠mb->b≠bm->(∀ c fz,w.heap[b]?≠some (.cells c 145 fz))->w'.heap[b]?=w.heap[b]?
 low:∀ b,b<mb->b<w.heap.size->b≠bm->w'.heap[b]?=w.heap[b]?
theorem KeepM.of {mb bm:Nat} {w w':World} (h:Below w.heap.size w w'):KeepM mb bm w w':=⟨h.os,h.tape,h.output,h.size,fun b hb _ _ _=>h.block b hb,fun b _ hb _=>h.block b hb⟩
theorem KeepM.trans {mb bm:Nat} {w w' w'':World} (h:KeepM mb bm w w') (k:KeepM mb bm w' w''):KeepM mb bm w w'' :=
 ⟨k.os.trans h.os,k.tape.trans h.tape,k.output.trans h.output,Nat.le_trans h.size k.size,fun b hb h1 h2 h3=>by
  have e:=h.block b hb h1 h2 h3;rw [<- e];exact k.block b (nL hb h.size) h1 h2 (by rw [e];exact h3),fun b h0 hb h1=>(k.low b h0 (nL hb h.size) h1).trans (h.low b h0 hb h1)⟩
theorem KeepM.refl (mb bm:Nat) (w:World):KeepM mb bm w w:=⟨rfl,rfl,rfl,nR _,fun _ _ _ _ _=>rfl,fun _ _ _ _=>rfl⟩
theorem KeepM.ty {mb bm B:Nat} {w w':World} (h:KeepM mb bm w w') {t:TypeId} (ht:t≠145) (hm:mb<B) (hb:bm<B):∀ g c fz,w.heap[g]?=some (.cells c t fz)->B<=g->w'.heap[g]?=w.heap[g]?:=by
 intro g c fz e hB;have hg:g<w.heap.size:=(Array.getElem?_eq_some_iff.1 e).1;refine h.block g hg (by omega) (by omega) (fun c' fz' e'=>?_);rw [e] at e';injection e' with e';injection e' with _ e' _;exact ht e'
theorem SMok.keep {g:Gr} {B mb bm:Nat} {w w':World} {s:SM} (h:SMok g B w s) (k:KeepM mb bm w w') (hm:mb<B) (hb:bm<B):SMok g B w' s :=
 ⟨h.items.ty (k.ty (by decide) hm hb),h.edges.ty (k.ty (by decide) hm hb),h.done.ty (k.ty (by decide) hm hb),h.ok,h.len⟩
section
variable {g:Gr} {B mb bm:Nat} {sm:List SM} {w w':World}
theorem MkW.below (h:MkW g B mb bm sm w) (hb:Below w.heap.size w w'):MkW g B mb bm sm w':=by
 have hml:mb<w.heap.size:=nL h.mlt h.size;have hbl:bm<w.heap.size:=nL h.blt h.size;obtain ⟨va,a1,a2⟩:=h.all;obtain ⟨f,f1,f2⟩:=h.map;exact ⟨h.mlt,h.blt,h.ne,Nat.le_trans h.size hb.size,h.gr.below hb,(wB (hb.block mb hml)).trans h.met,fun i=>(World.frozen?_of_block (hb.block mb hml)).trans (h.fz i),
  ⟨va,(wB (hb.block mb hml)).trans a1,a2.kept (row:=none) ⟨hb.os,hb.tape,hb.output,hb.size,fun k hk _=>hb.block k hk⟩ (by cases hv:va.ownBlock <;> simp)⟩,
  fun s hs=>(h.each s hs).keep (KeepM.of (mb:=mb) (bm:=bm) hb) h.mlt h.blt,⟨f,f1.below hb hbl,f2⟩,h.many⟩
end
def freshSM (v:Value) (l:List It):SM:=⟨v,.slice none 0 0,.slice none 0 0,l,[],0,[]⟩
def fullP:List PanicEntry:=[{ v:=.iface 126 (.agg #[]),recovered:=false }]
theorem alloc_cells (w:World) (t:TypeId) (cs:List Value):∀ j u,cs[j]?=some u->(w.alloc (.cells cs.toArray t)).cell? ((⟨w.heap.size,0,none⟩:Addr).add j)=some u:=by
 intro j u hj;have hb:Blk (w.alloc (.cells cs.toArray t)) w.heap.size t cs.toArray:=Blk.new w _ _;rw [addr_add,Nat.zero_add,hb.cell j]
 simpa using hj
theorem encSM_one (s:SM) (h1:s.vi.oneCell'=true) (h2:s.ve.oneCell'=true) (h3:s.vd.oneCell'=true):∀ u∈encSM s,u.oneCell'=true:=by
 intro u hu;simp [encSM] at hu
 rcases hu with rfl | rfl | rfl | rfl | rfl | rfl | rfl <;> first | assumption | rfl
theorem encFresh (v:Value) (l:List It):encSM (freshSM v l)=[v,.slice none 0 0,.int .u64 0,.int .u64 0,.int .u64 0,.int .u64 0,.slice none 0 0]:=by simp [encSM,freshSM,wd]
theorem KeepM.grown {mb bm:Nat} {w w':World} {row:Option Nat} (h:w.grownBy w' row) (hr:∀ r,row=some r->r=mb∨r=bm∨mb<r /\ ∃ c fz,w.heap[r]?=some (.cells c 145 fz)):KeepM mb bm w w' :=
 ⟨h.os,h.tape,h.output,h.size,fun b hb h1 h2 h3=>h.block b hb (fun e=>by
  rcases hr b e.symm with h4 | h4 | ⟨_,c,fz,h4⟩
  ·exact h1 h4
  ·exact h2 h4
  ·exact h3 c fz h4),fun b h0 hb h1=>h.block b hb (fun e=>by
  rcases hr b e.symm with h4 | h4 | ⟨h4,_⟩
  ·omega
  ·exact h1 h4
  ·omega)⟩
theorem grown_trans_opt {w w' w'':World} {row:Option Nat} (h:w.grownBy w' row) (k:w'.grownBy w'' row):w.grownBy w'' row :=
 ⟨k.os.trans h.os,k.tape.trans h.tape,k.output.trans h.output,Nat.le_trans h.size k.size,fun i hi hne=>(k.block i (nL hi h.size) hne).trans (h.block i hi hne)⟩
theorem infoState:(Tryz.prog.info? 145).map (fun i=>(i.zero,i.size,i.bytes))=some (some (.agg #[.slice none 0 0,.slice none 0 0,.int .u64 0,.int .u64 0,.int .u64 0,.int .u64 0,.slice none 0 0]),7,104):=by kernel_rfl
theorem own_ty {w:World} {B:Nat} {e:TypeId} {z:Nat} {v:Value} {n:Nat} {xs:List Value} (h:w.ownsRow B e z v n xs):∀ r,v.ownBlock=some r->B<=r /\ ∃ c fz,w.heap[r]?=some (.cells c e fz):=by
 intro r hr
 rcases h.2 with ⟨rfl,_⟩ | ⟨g,cap,cur,rfl,hB,hh,_⟩
 ·cases hr
 ·injection hr with hr
  subst hr;exact ⟨hB,cur,_,hh⟩
theorem find_push (L:List (List It)) (K l:List It) (h:L.findIdx? (·==K)=none):(L++[K]).findIdx? (·==l)=if l=K then some L.length else L.findIdx? (·==l):=by
 rw [List.findIdx?_append]
 by_cases e:l=K
 ·subst e;rw [h,if_pos rfl];simp
 ·rw [if_neg e];have:([K]:List (List It)).findIdx? (·==l)=none:=by simp [Ne.symm e]
  rw [this]
  cases L.findIdx? (·==l) <;> rfl
section
variable {g:Gr} {B mb bm:Nat} {sm:List SM} {w w5 w7:World}
theorem MkW.push (h:MkW g B mb bm sm w) {K:List It} {v1 va v':Value} {f:Lit->Option Value} (hK:∀ x∈K,itemOk g x=true) (hKl:K.length<=10000) (h16:sm.length<16384)
  (hf:∀ l,f (.string (keyF l))=((sm.map (·.items)).findIdx? (·==l)).map fun (n:Nat)=>Value.int .i64 n) (hnone:(sm.map (·.items)).findIdx? (·==K)=none)
  (k5:KeepM mb bm w w5) (h5:∀ b,b<B->b≠bm->w5.heap[b]?=w.heap[b]?) (hv1:SliceK (TyD B 134 w5) encIt 2 w5 v1 K)
  (hmap:MapV Tryz.prog 9 w5 bm (sm.length+1) (putV f (.string (keyF K)) (.int .i64 sm.length)))
  (hva:w5.ownsRow B 145 7 va sm.length (flatK encSM sm)) (hg7:w5.grownBy w7 va.ownBlock)
  (hrow:w7.ownsRow B 145 7 v' (sm.length+1) (flatK encSM sm++encSM (freshSM v1 K))) :
  MkW g B mb bm (sm++[freshSM v1 K]) (w7.setCell ⟨mb,7,none⟩ v') /\ KeepM mb bm w (w7.setCell ⟨mb,7,none⟩ v'):=by
 have hml:mb<w.heap.size:=nL h.mlt h.size;have hrb:∀ r,va.ownBlock=some r->B<=r:=fun r hr=>(own_ty hva r hr).1;have k7:KeepM mb bm w5 w7:=KeepM.grown hg7 (fun r hr=>.inr (.inr ⟨by have:=(own_ty hva r hr).1;have:=h.mlt;omega,(own_ty hva r hr).2⟩));have h7:∀ b,b<B->b≠bm->w7.heap[b]?=w.heap[b]?:=fun b hb hne=>(hg7.block b (by have:=h.size;have:=k5.size;omega) (by intro e;have:=hrb b e.symm;omega)).trans (h5 b hb hne);have ks:KeepM mb bm w7 (w7.setCell ⟨mb,7,none⟩ v'):=KeepM.grown (grown_set (grown_refl w7 (some mb)) (p:=⟨mb,7,none⟩) rfl v') (fun r hr=>by injection hr with hr;exact .inl hr.symm)
 have kw:=(k5.trans k7).trans ks;have e7:w7.heap[mb]?=w.heap[mb]?:=h7 mb h.mlt h.ne;have hother:∀ i,i≠7->(w7.setCell ⟨mb,7,none⟩ v').cell? ⟨mb,i,none⟩=w.cell? ⟨mb,i,none⟩:=fun i hi=>by
  rw [<- wB (w:=w) (w':=w7) (a:=⟨mb,i,none⟩) e7];apply World.cell?_setCell_other;intro e;injection e with _ e;exact hi e.symm
 obtain ⟨vo,a1,_⟩:=h.all;have hsz:(w7.setCell ⟨mb,7,none⟩ v').heap.size=w7.heap.size:=by simp [World.setCell]
 refine ⟨⟨h.mlt,h.blt,h.ne,Nat.le_trans h.size kw.size,?_,(hother 6 (by decide)).trans h.met,fun i=>?_,⟨v',?_,?_⟩,?_,⟨putV f (.string (keyF K)) (.int .i64 sm.length),?_,?_⟩,?_⟩,kw⟩
 ·exact h.gr.keep (fun b hb _=>⟨hb,(Below.heap_setCell w7 ⟨mb,7,none⟩ v' b hb.2.1).trans (h7 b hb.1 hb.2.2)⟩) kw.size (hother 1 (by decide)) (hother 5 (by decide))
 ·rw [World.frozen?_setCell,World.frozen?_of_block (w:=w) (a:=⟨mb,i,none⟩) e7];exact h.fz i
 ·exact World.cell?_setCell_same' _ _ _ (by rw [wB (w:=w) (a:=⟨mb,7,none⟩) e7,a1];rfl)
 ·have h1:(w7.setCell ⟨mb,7,none⟩ v').ownsRow B 145 7 v' (sm.length+1) (flatK encSM sm++encSM (freshSM v1 K)) :=
   hrow.kept (row:=some mb) (grown_set (grown_refl w7 (some mb)) (p:=⟨mb,7,none⟩) rfl v') (by
    cases e:v'.ownBlock with
    | none=>exact .inl rfl
    | some b=>exact .inr (by have:=(own_ty hrow b e).1;have:=h.mlt;intro e2;injection e2 with e2;omega))
  rw [flatK_snoc] at h1
  simpa using h1
 ·intro s hs
  rcases List.mem_append.1 hs with hs | hs
  ·exact (h.each s hs).keep kw h.mlt h.blt
  ·rw [List.mem_singleton] at hs;subst hs;exact ⟨hv1.ty ((k7.trans ks).ty (by decide) h.mlt h.blt),SliceK.nil,SliceK.nil,hK,hKl⟩
 ·have h1:=(hmap.grown hg7 (by intro e;have:=hrb bm e.symm;have:=h.blt;omega)).setCell (p:=⟨mb,7,none⟩) (Ne.symm h.ne) v'
  simpa using h1
 ·intro l;rw [putV_string,List.map_append,List.map_singleton];show _=Option.map (fun (n:Nat)=>Value.int .i64 n) ((sm.map (·.items)++[K]).findIdx? (·==l));rw [find_push _ _ _ hnone]
  by_cases e:l=K
  ·subst e;rw [if_pos rfl,if_pos rfl,List.length_map];rfl
  ·rw [if_neg (fun e2=>e (key_inj _ _ e2)),if_neg e];exact hf l
 ·simp;omega
end
theorem wd_range (M j:Nat):0<=wd M j /\ wd M j<=18446744073709551615:=by unfold wd;omega
theorem ofInt_nat (a:Nat) (ha:a<2 ^ 64):BitVec.ofInt 64 (a:Int)=BitVec.ofNat 64 a:=by
 apply BitVec.eq_of_toNat_eq;simp
theorem two64:(18446744073709551616:Nat)=2 ^ 64:=by decide
theorem wd_lt (M j:Nat):M / 2 ^ (64 * j) % 18446744073709551616<2 ^ 64:=by omega
theorem wd_bits (M j i:Nat):(M / 2 ^ (64 * j) % 18446744073709551616).testBit i=(decide (i<64)&&M.testBit (64 * j+i)):=by
 rw [two64,Nat.testBit_mod_two_pow,Nat.testBit_div_two_pow,Nat.add_comm i]
theorem and_nat (a b:Nat) (ha:a<2 ^ 64) (hb:b<2 ^ 64):bits .and .u64 (a:Int) (b:Int)=((a &&& b:Nat):Int):=by
 have hab:a &&& b<2 ^ 64:=Nat.lt_of_le_of_lt Nat.and_le_left ha;show IntKind.u64.wrap ((BitVec.ofInt 64 (a:Int) &&& BitVec.ofInt 64 (b:Int)).toNat:Int)=_;rw [ofInt_nat a ha,ofInt_nat b hb,BitVec.toNat_and,BitVec.toNat_ofNat,BitVec.toNat_ofNat,Nat.mod_eq_of_lt ha,Nat.mod_eq_of_lt hb,IntKind.wrap_u64];omega
theorem or_nat (a b:Nat) (ha:a<2 ^ 64) (hb:b<2 ^ 64):bits .or .u64 (a:Int) (b:Int)=((a ||| b:Nat):Int):=by
 have hab:a ||| b<2 ^ 64:=Nat.or_lt_two_pow ha hb
 show IntKind.u64.wrap ((BitVec.ofInt 64 (a:Int) ||| BitVec.ofInt 64 (b:Int)).toNat:Int)=_;rw [ofInt_nat a ha,ofInt_nat b hb,BitVec.toNat_or,BitVec.toNat_ofNat,BitVec.toNat_ofNat,Nat.mod_eq_of_lt ha,Nat.mod_eq_of_lt hb,IntKind.wrap_u64];omega
theorem xor_nat (a b:Nat) (ha:a<2 ^ 64) (hb:b<2 ^ 64):bits .xor .u64 (a:Int) (b:Int)=((a ^^^ b:Nat):Int):=by
 have hab:a ^^^ b<2 ^ 64:=Nat.xor_lt_two_pow ha hb;show IntKind.u64.wrap ((BitVec.ofInt 64 (a:Int) ^^^ BitVec.ofInt 64 (b:Int)).toNat:Int)=_;rw [ofInt_nat a ha,ofInt_nat b hb,BitVec.toNat_xor,BitVec.toNat_ofNat,BitVec.toNat_ofNat,Nat.mod_eq_of_lt ha,Nat.mod_eq_of_lt hb,IntKind.wrap_u64];omega
theorem wd_and (M N j:Nat):bits .and .u64 (wd M j) (wd N j)=wd (M &&& N) j:=by
 unfold wd;rw [and_nat _ _ (wd_lt M j) (wd_lt N j)];congr 1;apply Nat.eq_of_testBit_eq;intro i;simp only [Nat.testBit_and,wd_bits]
 cases decide (i<64) <;> simp
theorem wd_or (M N j:Nat):bits .or .u64 (wd M j) (wd N j)=wd (M ||| N) j:=by
 unfold wd;rw [or_nat _ _ (wd_lt M j) (wd_lt N j)];congr 1;apply Nat.eq_of_testBit_eq;intro i;simp only [Nat.testBit_or,wd_bits]
 cases decide (i<64) <;> simp
theorem andNot_nat (a b:Nat) (ha:a<2 ^ 64) (hb:b<2 ^ 64):bits .andNot .u64 (a:Int) (b:Int)=((a &&& (18446744073709551615 ^^^ b):Nat):Int):=by
 have hab:a &&& (18446744073709551615 ^^^ b)<2 ^ 64:=Nat.lt_of_le_of_lt Nat.and_le_left ha;show IntKind.u64.wrap ((BitVec.ofInt 64 (a:Int) &&& ~~~ BitVec.ofInt 64 (b:Int)).toNat:Int)=_;rw [ofInt_nat a ha,ofInt_nat b hb,BitVec.not_def,BitVec.toNat_and,BitVec.toNat_xor,BitVec.toNat_allOnes,BitVec.toNat_ofNat,BitVec.toNat_ofNat,Nat.mod_eq_of_lt ha,Nat.mod_eq_of_lt hb,IntKind.wrap_u64];have:(2:Nat) ^ 64 - 1=18446744073709551615:=by decide
 rw [this];omega
def fullM:Nat:=2 ^ 256 - 1
def notM (M:Nat):Nat:=fullM ^^^ M
theorem wd_full (j:Nat) (hj:j<4):wd fullM j=IntKind.u64.max:=by
 rcases (show j=0∨j=1∨j=2∨j=3 by omega) with rfl | rfl | rfl | rfl <;> decide
theorem wd_not (M j:Nat) (hj:j<4):bits .xor .u64 IntKind.u64.max (wd M j)=wd (notM M) j:=by
 rw [<- wd_full j hj];unfold wd;rw [xor_nat _ _ (wd_lt _ j) (wd_lt M j)];congr 1;apply Nat.eq_of_testBit_eq;intro i;simp only [notM,Nat.testBit_xor,wd_bits]
 cases decide (i<64) <;> simp
theorem wd_andNot (M N j:Nat) (hj:j<4):bits .andNot .u64 (wd M j) (wd N j)=wd (M &&& notM N) j:=by
 rw [<- wd_and,<- wd_not N j hj,<- wd_full j hj];unfold wd;rw [andNot_nat _ _ (wd_lt M j) (wd_lt N j),xor_nat _ _ (wd_lt _ j) (wd_lt N j),and_nat _ _ (wd_lt M j) (Nat.xor_lt_two_pow (wd_lt _ j) (wd_lt N j))];congr 2
 rcases (show j=0∨j=1∨j=2∨j=3 by omega) with rfl | rfl | rfl | rfl <;> rfl
def mix (M R i:Nat):Array Value:=#[.int .u64 (if 0<i then wd R 0 else wd M 0),.int .u64 (if 1<i then wd R 1 else wd M 1),.int .u64 (if 2<i then wd R 2 else wd M 2),.int .u64 (if 3<i then wd R 3 else wd M 3)]
theorem meet_any (M N:Nat) (w:World) :
  Calls Tryz.prog 115 #[setV M,setV N] w fun e w'=>e=.returned (setV (M &&& N)) /\ Below w.heap.size w w':=by
 obtain ⟨R,hR⟩:=eX (M &&& N);rw [hR];have l0:=wd_and M N 0;have l1:=wd_and M N 1;have l2:=wd_and M N 2;have l3:=wd_and M N 3;rw [hR] at l0 l1 l2 l3;clear hR;unfold setV;go_enter Tryz.func115,Tryz.ntmps115;go_wp2_with fail
 have hB0:Blk (((w.alloc (.cells #[.int .u64 (wd M 0),.int .u64 (wd M 1),.int .u64 (wd M 2),.int .u64 (wd M 3)] 33)).alloc (.cells #[.int .u64 (wd N 0),.int .u64 (wd N 1),.int .u64 (wd N 2),.int .u64 (wd N 3)] 33)).alloc (.cells #[.int .u64 0,.int .u64 0,.int .u64 0,.int .u64 0] 33)) w.heap.size 33 (mix M R 0):=((Blk.new_ rfl _ _).alloc _).alloc _;have hB1:Blk (((w.alloc (.cells #[.int .u64 (wd M 0),.int .u64 (wd M 1),.int .u64 (wd M 2),.int .u64 (wd M 3)] 33)).alloc (.cells #[.int .u64 (wd N 0),.int .u64 (wd N 1),.int .u64 (wd N 2),.int .u64 (wd N 3)] 33)).alloc (.cells #[.int .u64 0,.int .u64 0,.int .u64 0,.int .u64 0] 33)) (w.heap.size+1) 33 #[.int .u64 (wd N 0),.int .u64 (wd N 1),.int .u64 (wd N 2),.int .u64 (wd N 3)]:=(Blk.new_ (by simp) _ _).alloc _;have hB2:Blk (((w.alloc (.cells #[.int .u64 (wd M 0),.int .u64 (wd M 1),.int .u64 (wd M 2),.int .u64 (wd M 3)] 33)).alloc (.cells #[.int .u64 (wd N 0),.int .u64 (wd N 1),.int .u64 (wd N 2),.int .u64 (wd N 3)] 33)).alloc (.cells #[.int .u64 0,.int .u64 0,.int .u64 0,.int .u64 0] 33)) (w.heap.size+2) 33 #[.int .u64 0,.int .u64 0,.int .u64 0,.int .u64 0]:=Blk.new_ (by simp) _ _;have hbl:=(((bR w.heap.size w).alloc (nR _) (.cells #[.int .u64 (wd M 0),.int .u64 (wd M 1),.int .u64 (wd M 2),.int .u64 (wd M 3)] 33)).alloc (by simp) (.cells #[.int .u64 (wd N 0),.int .u64 (wd N 1),.int .u64 (wd N 2),.int .u64 (wd N 3)] 33)).alloc (by simp;omega) (.cells #[.int .u64 0,.int .u64 0,.int .u64 0,.int .u64 0] 33);generalize (((w.alloc (.cells #[.int .u64 (wd M 0),.int .u64 (wd M 1),.int .u64 (wd M 2),.int .u64 (wd M 3)] 33)).alloc (.cells #[.int .u64 (wd N 0),.int .u64 (wd N 1),.int .u64 (wd N 2),.int .u64 (wd N 3)] 33)).alloc (.cells #[.int .u64 0,.int .u64 0,.int .u64 0,.int .u64 0] 33))=w2 at hB0 hB1 hB2 hbl ⊢
 go_loopg [6] 4 (fun m v wr=>∃ i:Nat,i<=4 /\ m=4 - i /\ v=.int .i64 i /\ Blk wr w.heap.size 33 (mix M R i) /\ Blk wr (w.heap.size+1) 33 #[.int .u64 (wd N 0),.int .u64 (wd N 1),.int .u64 (wd N 2),.int .u64 (wd N 3)] /\
  Blk wr (w.heap.size+2) 33 #[.int .u64 0,.int .u64 0,.int .u64 0,.int .u64 0] /\ Below w.heap.size w wr)
 case atStart=>exact ⟨0,by omega,rfl,rfl,hB0,hB1,hB2,hbl⟩
 case round =>
  obtain ⟨i,hi,hm,rfl,h0,h1,h2,h3⟩:=hrel;have A:=Z5.mk hm h0 h1 h2 h3;obtain ⟨e0,e1,e2,e3,ef⟩:=h0.facts4;obtain ⟨f0,f1,f2,f3,ff⟩:=h1.facts4;obtain ⟨g0,g1,g2,g3,gf⟩:=h2.facts4;clear hB0 hB1 hB2 hbl hm h0 h1 h2 h3
  rcases (show i=0∨i=1∨i=2∨i=3∨i=4 by omega) with rfl | rfl | rfl | rfl | rfl
  ·simp only [Nat.lt_irrefl,if_true,Nat.reduceLT,if_false] at e0 e1 e2 e3;go_wp2_with fail
   apply via
   ·intro K
    go_region
    all_goals (try go_simp)
    all_goals exact K.out
   go_wp2_with fail
   go_roundg 3
   case measure=>have:=A.o1;omega
   case rel=>exact ⟨1,by omega,rfl,rfl,A.o2.set_ 0 _,A.o3.far (p:=⟨w.heap.size,0,none⟩) (by simp) _,A.o4.far (p:=⟨w.heap.size,0,none⟩) (by simp) _,(A.o5.setCell (p:=⟨w.heap.size,0,none⟩) (nR _) _).drew⟩
  ·simp only [Nat.lt_irrefl,if_true,Nat.reduceLT,if_false] at e0 e1 e2 e3;go_wp2_with fail
   apply via
   ·intro K
    go_region
    all_goals (try go_simp)
    all_goals exact K.out
   go_wp2_with fail
   go_roundg 2
   case measure=>have:=A.o1;omega
   case rel=>exact ⟨2,by omega,rfl,rfl,A.o2.set_ 1 _,A.o3.far (p:=⟨w.heap.size,1,none⟩) (by simp) _,A.o4.far (p:=⟨w.heap.size,1,none⟩) (by simp) _,(A.o5.setCell (p:=⟨w.heap.size,1,none⟩) (nR _) _).drew⟩
  ·simp only [Nat.lt_irrefl,if_true,Nat.reduceLT,if_false] at e0 e1 e2 e3;go_wp2_with fail
   apply via
   ·intro K
    go_region
    all_goals (try go_simp)
    all_goals exact K.out
   go_wp2_with fail
   go_roundg 1
   case measure=>have:=A.o1;omega
   case rel=>exact ⟨3,by omega,rfl,rfl,A.o2.set_ 2 _,A.o3.far (p:=⟨w.heap.size,2,none⟩) (by simp) _,A.o4.far (p:=⟨w.heap.size,2,none⟩) (by simp) _,(A.o5.setCell (p:=⟨w.heap.size,2,none⟩) (nR _) _).drew⟩
  ·simp only [Nat.lt_irrefl,if_true,Nat.reduceLT,if_false] at e0 e1 e2 e3;go_wp2_with fail
   apply via
   ·intro K
    go_region
    all_goals (try go_simp)
    all_goals exact K.out
   go_wp2_with fail
   go_roundg 0
   case measure=>have:=A.o1;omega
   case rel=>exact ⟨4,by omega,rfl,rfl,A.o2.set_ 3 _,A.o3.far (p:=⟨w.heap.size,3,none⟩) (by simp) _,A.o4.far (p:=⟨w.heap.size,3,none⟩) (by simp) _,(A.o5.setCell (p:=⟨w.heap.size,3,none⟩) (nR _) _).drew⟩
  ·simp only [Nat.lt_irrefl,if_true,Nat.reduceLT,if_false] at e0 e1 e2 e3;go_wp2_with fail
   have hbk:=(((A.o4.set_ 0 (.int .u64 (wd R 0))).set_ 1 (.int .u64 (wd R 1))).set_ 2 (.int .u64 (wd R 2))).set_ 3 (.int .u64 (wd R 3));refine bodyPost_ret (results_cell_row (by rfl) _ _ (w.heap.size+2) 33 _ (0,0) _ (by rfl) hbk Tryz.underlying33 (by rfl) (by kernel_rfl)) rfl ?_;refine ⟨rfl,(((A.o5.setCell ?_ _).setCell ?_ _).setCell ?_ _).setCell ?_ _⟩ <;> (simp;try omega)
theorem without_any (M N:Nat) (w:World) :
  Calls Tryz.prog 116 #[setV M,setV N] w fun e w'=>e=.returned (setV (M &&& notM N)) /\ Below w.heap.size w w':=by
 obtain ⟨R,hR⟩:=eX (M &&& notM N);rw [hR];have l0:=wd_andNot M N 0 (by decide);have l1:=wd_andNot M N 1 (by decide);have l2:=wd_andNot M N 2 (by decide);have l3:=wd_andNot M N 3 (by decide);rw [hR] at l0 l1 l2 l3;clear hR;unfold setV;go_enter Tryz.func116,Tryz.ntmps116;go_wp2_with fail
 have hB0:Blk (((w.alloc (.cells #[.int .u64 (wd M 0),.int .u64 (wd M 1),.int .u64 (wd M 2),.int .u64 (wd M 3)] 33)).alloc (.cells #[.int .u64 (wd N 0),.int .u64 (wd N 1),.int .u64 (wd N 2),.int .u64 (wd N 3)] 33)).alloc (.cells #[.int .u64 0,.int .u64 0,.int .u64 0,.int .u64 0] 33)) w.heap.size 33 (mix M R 0):=((Blk.new_ rfl _ _).alloc _).alloc _;have hB1:Blk (((w.alloc (.cells #[.int .u64 (wd M 0),.int .u64 (wd M 1),.int .u64 (wd M 2),.int .u64 (wd M 3)] 33)).alloc (.cells #[.int .u64 (wd N 0),.int .u64 (wd N 1),.int .u64 (wd N 2),.int .u64 (wd N 3)] 33)).alloc (.cells #[.int .u64 0,.int .u64 0,.int .u64 0,.int .u64 0] 33)) (w.heap.size+1) 33 #[.int .u64 (wd N 0),.int .u64 (wd N 1),.int .u64 (wd N 2),.int .u64 (wd N 3)]:=(Blk.new_ (by simp) _ _).alloc _;have hB2:Blk (((w.alloc (.cells #[.int .u64 (wd M 0),.int .u64 (wd M 1),.int .u64 (wd M 2),.int .u64 (wd M 3)] 33)).alloc (.cells #[.int .u64 (wd N 0),.int .u64 (wd N 1),.int .u64 (wd N 2),.int .u64 (wd N 3)] 33)).alloc (.cells #[.int .u64 0,.int .u64 0,.int .u64 0,.int .u64 0] 33)) (w.heap.size+2) 33 #[.int .u64 0,.int .u64 0,.int .u64 0,.int .u64 0]:=Blk.new_ (by simp) _ _;have hbl:=(((bR w.heap.size w).alloc (nR _) (.cells #[.int .u64 (wd M 0),.int .u64 (wd M 1),.int .u64 (wd M 2),.int .u64 (wd M 3)] 33)).alloc (by simp) (.cells #[.int .u64 (wd N 0),.int .u64 (wd N 1),.int .u64 (wd N 2),.int .u64 (wd N 3)] 33)).alloc (by simp;omega) (.cells #[.int .u64 0,.int .u64 0,.int .u64 0,.int .u64 0] 33);generalize (((w.alloc (.cells #[.int .u64 (wd M 0),.int .u64 (wd M 1),.int .u64 (wd M 2),.int .u64 (wd M 3)] 33)).alloc (.cells #[.int .u64 (wd N 0),.int .u64 (wd N 1),.int .u64 (wd N 2),.int .u64 (wd N 3)] 33)).alloc (.cells #[.int .u64 0,.int .u64 0,.int .u64 0,.int .u64 0] 33))=w2 at hB0 hB1 hB2 hbl ⊢
 go_loopg [6] 4 (fun m v wr=>∃ i:Nat,i<=4 /\ m=4 - i /\ v=.int .i64 i /\ Blk wr w.heap.size 33 (mix M R i) /\ Blk wr (w.heap.size+1) 33 #[.int .u64 (wd N 0),.int .u64 (wd N 1),.int .u64 (wd N 2),.int .u64 (wd N 3)] /\
  Blk wr (w.heap.size+2) 33 #[.int .u64 0,.int .u64 0,.int .u64 0,.int .u64 0] /\ Below w.heap.size w wr)
 case atStart=>exact ⟨0,by omega,rfl,rfl,hB0,hB1,hB2,hbl⟩
 case round =>
  obtain ⟨i,hi,hm,rfl,h0,h1,h2,h3⟩:=hrel;have A:=Z5.mk hm h0 h1 h2 h3;obtain ⟨e0,e1,e2,e3,ef⟩:=h0.facts4;obtain ⟨f0,f1,f2,f3,ff⟩:=h1.facts4;obtain ⟨g0,g1,g2,g3,gf⟩:=h2.facts4;clear hB0 hB1 hB2 hbl hm h0 h1 h2 h3
  rcases (show i=0∨i=1∨i=2∨i=3∨i=4 by omega) with rfl | rfl | rfl | rfl | rfl
  ·simp only [Nat.lt_irrefl,if_true,Nat.reduceLT,if_false] at e0 e1 e2 e3;go_wp2_with fail
   apply via
   ·intro K
    go_region
    all_goals (try go_simp)
    all_goals exact K.out
   go_wp2_with fail
   go_roundg 3
   case measure=>have:=A.o1;omega
   case rel=>exact ⟨1,by omega,rfl,rfl,A.o2.set_ 0 _,A.o3.far (p:=⟨w.heap.size,0,none⟩) (by simp) _,A.o4.far (p:=⟨w.heap.size,0,none⟩) (by simp) _,(A.o5.setCell (p:=⟨w.heap.size,0,none⟩) (nR _) _).drew⟩
  ·simp only [Nat.lt_irrefl,if_true,Nat.reduceLT,if_false] at e0 e1 e2 e3;go_wp2_with fail
   apply via
   ·intro K
    go_region
    all_goals (try go_simp)
    all_goals exact K.out
   go_wp2_with fail
   go_roundg 2
   case measure=>have:=A.o1;omega
   case rel=>exact ⟨2,by omega,rfl,rfl,A.o2.set_ 1 _,A.o3.far (p:=⟨w.heap.size,1,none⟩) (by simp) _,A.o4.far (p:=⟨w.heap.size,1,none⟩) (by simp) _,(A.o5.setCell (p:=⟨w.heap.size,1,none⟩) (nR _) _).drew⟩
  ·simp only [Nat.lt_irrefl,if_true,Nat.reduceLT,if_false] at e0 e1 e2 e3;go_wp2_with fail
   apply via
   ·intro K
    go_region
    all_goals (try go_simp)
    all_goals exact K.out
   go_wp2_with fail
   go_roundg 1
   case measure=>have:=A.o1;omega
   case rel=>exact ⟨3,by omega,rfl,rfl,A.o2.set_ 2 _,A.o3.far (p:=⟨w.heap.size,2,none⟩) (by simp) _,A.o4.far (p:=⟨w.heap.size,2,none⟩) (by simp) _,(A.o5.setCell (p:=⟨w.heap.size,2,none⟩) (nR _) _).drew⟩
  ·simp only [Nat.lt_irrefl,if_true,Nat.reduceLT,if_false] at e0 e1 e2 e3;go_wp2_with fail
   apply via
   ·intro K
    go_region
    all_goals (try go_simp)
    all_goals exact K.out
   go_wp2_with fail
   go_roundg 0
   case measure=>have:=A.o1;omega
   case rel=>exact ⟨4,by omega,rfl,rfl,A.o2.set_ 3 _,A.o3.far (p:=⟨w.heap.size,3,none⟩) (by simp) _,A.o4.far (p:=⟨w.heap.size,3,none⟩) (by simp) _,(A.o5.setCell (p:=⟨w.heap.size,3,none⟩) (nR _) _).drew⟩
  ·simp only [Nat.lt_irrefl,if_true,Nat.reduceLT,if_false] at e0 e1 e2 e3;go_wp2_with fail
   have hbk:=(((A.o4.set_ 0 (.int .u64 (wd R 0))).set_ 1 (.int .u64 (wd R 1))).set_ 2 (.int .u64 (wd R 2))).set_ 3 (.int .u64 (wd R 3));refine bodyPost_ret (results_cell_row (by rfl) _ _ (w.heap.size+2) 33 _ (0,0) _ (by rfl) hbk Tryz.underlying33 (by rfl) (by kernel_rfl)) rfl ?_;refine ⟨rfl,(((A.o5.setCell ?_ _).setCell ?_ _).setCell ?_ _).setCell ?_ _⟩ <;> (simp;try omega)
@[local go_sem] theorem eqSet (a b c d e f g h:Int) (w:World):(Op.equalIn 10000 33 (.agg #[.int .u64 a,.int .u64 b,.int .u64 c,.int .u64 d]) (.agg #[.int .u64 e,.int .u64 f,.int .u64 g,.int .u64 h])).run Tryz.prog w=.ok (decide (a=e /\ b=f /\ c=g /\ d=h)) w:=by
 have u24:=Tryz.underlying31;have a24:=Tryz.isAgg31;have z24:=Tryz.sizeOf31;rw [show (10000:Nat)=9999+1 from rfl,Op.equalIn];simp only [Sem.run_bind,run_underlying Tryz.underlying33,Result.andThen_ok];simp only [Std.Legacy.Range.forIn_eq_forIn_range',Std.Legacy.Range.size,Nat.sub_zero,Nat.add_sub_cancel,Nat.div_one,List.range'_succ,List.range'_zero,List.forIn_cons,List.forIn_nil];go_simp
 by_cases h1:a=e <;> by_cases h2:b=f <;> by_cases h3:c=g <;> by_cases h4:d=h <;> simp [h1,h2,h3,h4]
@[local go_sem] theorem guardSet:Tryz.prog.eqGuardType Tryz.prog.depth 33=false:=by kernel_rfl
theorem wd_zero_iff (M:Nat) (h:M<2 ^ 256):(wd M 0=0 /\ wd M 1=0 /\ wd M 2=0 /\ wd M 3=0)↔M=0:=by
 constructor
 ·rintro ⟨h0,h1,h2,h3⟩;apply Nat.eq_of_testBit_eq;intro i;rw [Nat.zero_testBit]
  rcases Nat.lt_or_ge i 256 with hi | hi
  ·have hz:∀ j,wd M j=0->M / 2 ^ (64 * j) % 18446744073709551616=0:=fun j hj=>by unfold wd at hj;omega
   have hb:∀ j,wd M j=0->∀ t,t<64->M.testBit (64 * j+t)=false:=fun j hj t ht=>by
    have:=wd_bits M j t;rw [hz j hj,Nat.zero_testBit] at this
    simpa [ht] using this.symm
   rcases (show i<64∨(64<=i /\ i<128)∨(128<=i /\ i<192)∨(192<=i /\ i<256) by omega) with hh | hh | hh | hh
   ·have:=hb 0 h0 i hh;rwa [Nat.mul_zero,Nat.zero_add] at this
   ·have:=hb 1 h1 (i - 64) (by omega);rwa [show 64 * 1+(i - 64)=i by omega] at this
   ·have:=hb 2 h2 (i - 128) (by omega);rwa [show 64 * 2+(i - 128)=i by omega] at this
   ·have:=hb 3 h3 (i - 192) (by omega);rwa [show 64 * 3+(i - 192)=i by omega] at this
  ·exact Nat.testBit_lt_two_pow (nL h (Nat.pow_le_pow_right (by decide) hi))
 ·rintro rfl;simp [wd]
theorem within_any (M N:Nat) (hM:M<2 ^ 256) (w:World) :
  Calls Tryz.prog 88 #[setV M,setV N] w fun e w'=>e=.returned (.bool (decide (M &&& notM N=0))) /\ Below w.heap.size w w':=by
 have hw:=without_any M N;have hR:M &&& notM N<2 ^ 256:=Nat.lt_of_le_of_lt Nat.and_le_left hM;have hz:=wd_zero_iff _ hR;generalize M &&& notM N=R at *;have HZ:=Hd hz;clear hz;unfold setV at hw ⊢;go_enter Tryz.func88,Tryz.ntmps88;go_wp2_with fail
 refine (hw _).mono ?_;rintro e w1 ⟨rfl,hb⟩;have hb1:Below w.heap.size w w1:=(((bR w.heap.size w).alloc (nR _) _).alloc (by simp) _).trans (hb.mono (by simp;omega));have H1:=Hd hb1;clear hb hb1 hw
 by_cases hr:R=0
 ·obtain ⟨z0,z1,z2,z3⟩:=HZ.out.2 hr;subst hr;go_wp2_with fail
  go_ret;exact ⟨by simp [z0,z1,z2,z3],H1.out⟩
 ·have hn:decide (wd R 0=0 /\ wd R 1=0 /\ wd R 2=0 /\ wd R 3=0)=false:=by rw [decide_eq_false_iff_not];exact fun h=>hr (HZ.out.1 h)
  have HR:=Hd hr;clear hr;go_wp2_with fail
  all_goals (try go_ret)
  all_goals exact ⟨by simp [HR.out,hn],H1.out⟩
def notI (x:Int):Int:=bits .xor .u64 IntKind.u64.max x
def nw (b:Bool) (x:Int):Value:=.int .u64 (if b then notI x else x)
def nrow (a b c d:Int) (i:Nat):Array Value:=#[nw (decide (0<i)) a,nw (decide (1<i)) b,nw (decide (2<i)) c,nw (decide (3<i)) d]
theorem not_any (a b c d:Int) (ha:0<=a /\ a<=18446744073709551615) (hb:0<=b /\ b<=18446744073709551615) (hc:0<=c /\ c<=18446744073709551615) (hd:0<=d /\ d<=18446744073709551615) (w:World) :
  Calls Tryz.prog 144 #[.agg #[.int .u64 a,.int .u64 b,.int .u64 c,.int .u64 d]] w fun e w'=>e=.returned (.agg (nrow a b c d 4)) /\ Below w.heap.size w w':=by
 obtain ⟨a0,a1⟩:=ha;obtain ⟨b0,b1⟩:=hb;obtain ⟨c0,c1⟩:=hc;obtain ⟨d0,d1⟩:=hd;go_enter Tryz.func144,Tryz.ntmps144;go_wp2_with fail
 have hB0:Blk ((w.alloc (.cells #[.int .u64 a,.int .u64 b,.int .u64 c,.int .u64 d] 33)).alloc (.cells #[.int .u64 0,.int .u64 0,.int .u64 0,.int .u64 0] 33)) w.heap.size 33 (nrow a b c d 0) :=
  (Blk.new_ rfl _ _).alloc _
 have hB1:Blk ((w.alloc (.cells #[.int .u64 a,.int .u64 b,.int .u64 c,.int .u64 d] 33)).alloc (.cells #[.int .u64 0,.int .u64 0,.int .u64 0,.int .u64 0] 33)) (w.heap.size+1) 33 #[.int .u64 0,.int .u64 0,.int .u64 0,.int .u64 0] :=
  Blk.new_ (by simp) _ _
 have hbl:=((bR w.heap.size w).alloc (nR _) (.cells #[.int .u64 a,.int .u64 b,.int .u64 c,.int .u64 d] 33)).alloc (by simp) (.cells #[.int .u64 0,.int .u64 0,.int .u64 0,.int .u64 0] 33);generalize ((w.alloc (.cells #[.int .u64 a,.int .u64 b,.int .u64 c,.int .u64 d] 33)).alloc (.cells #[.int .u64 0,.int .u64 0,.int .u64 0,.int .u64 0] 33))=w2 at hB0 hB1 hbl ⊢
 go_loopg [4] 4 (fun m v wr=>∃ i:Nat,i<=4 /\ m=4 - i /\ v=.int .i64 i /\ Blk wr w.heap.size 33 (nrow a b c d i) /\ Blk wr (w.heap.size+1) 33 #[.int .u64 0,.int .u64 0,.int .u64 0,.int .u64 0] /\ Below w.heap.size w wr)
 case atStart=>exact ⟨0,by omega,rfl,rfl,hB0,hB1,hbl⟩
 case round =>
  obtain ⟨i,hi,hm,rfl,h0,h1,h2⟩:=hrel;have A:=Z4.mk hm h0 h1 h2;obtain ⟨e0,e1,e2,e3,ef⟩:=h0.facts4;obtain ⟨f0,f1,f2,f3,ff⟩:=h1.facts4;clear hB0 hB1 hbl hm h0 h1 h2
  rcases (show i=0∨i=1∨i=2∨i=3∨i=4 by omega) with rfl | rfl | rfl | rfl | rfl
  ·simp only [nw,Nat.lt_irrefl,decide_false,decide_true,if_true,Nat.reduceLT,Bool.false_eq_true,if_false] at e0 e1 e2 e3;go_wp2_with fail
   go_roundg 3
   case measure=>have:=A.o1;omega
   case rel=>exact ⟨1,by omega,rfl,rfl,A.o2.set_ 0 _,A.o3.far (p:=⟨w.heap.size,0,none⟩) (by simp) _,A.o4.setCell (p:=⟨w.heap.size,0,none⟩) (nR _) _⟩
  ·simp only [nw,Nat.lt_irrefl,decide_false,decide_true,if_true,Nat.reduceLT,Bool.false_eq_true,if_false] at e0 e1 e2 e3;go_wp2_with fail
   go_roundg 2
   case measure=>have:=A.o1;omega
   case rel=>exact ⟨2,by omega,rfl,rfl,A.o2.set_ 1 _,A.o3.far (p:=⟨w.heap.size,1,none⟩) (by simp) _,A.o4.setCell (p:=⟨w.heap.size,1,none⟩) (nR _) _⟩
  ·simp only [nw,Nat.lt_irrefl,decide_false,decide_true,if_true,Nat.reduceLT,Bool.false_eq_true,if_false] at e0 e1 e2 e3;go_wp2_with fail
   go_roundg 1
   case measure=>have:=A.o1;omega
   case rel=>exact ⟨3,by omega,rfl,rfl,A.o2.set_ 2 _,A.o3.far (p:=⟨w.heap.size,2,none⟩) (by simp) _,A.o4.setCell (p:=⟨w.heap.size,2,none⟩) (nR _) _⟩
  ·simp only [nw,Nat.lt_irrefl,decide_false,decide_true,if_true,Nat.reduceLT,Bool.false_eq_true,if_false] at e0 e1 e2 e3;go_wp2_with fail
   go_roundg 0
   case measure=>have:=A.o1;omega
   case rel=>exact ⟨4,by omega,rfl,rfl,A.o2.set_ 3 _,A.o3.far (p:=⟨w.heap.size,3,none⟩) (by simp) _,A.o4.setCell (p:=⟨w.heap.size,3,none⟩) (nR _) _⟩
  ·simp only [nw,Nat.lt_irrefl,decide_false,decide_true,if_true,Nat.reduceLT,Bool.false_eq_true,if_false] at e0 e1 e2 e3;go_wp2_with fail
   have hbk:=(((A.o3.set_ 0 (.int .u64 (notI a))).set_ 1 (.int .u64 (notI b))).set_ 2 (.int .u64 (notI c))).set_ 3 (.int .u64 (notI d));refine bodyPost_ret (results_cell_row (by rfl) _ _ (w.heap.size+1) 33 _ (0,0) _ (by rfl) hbk Tryz.underlying33 (by rfl) (by kernel_rfl)) rfl ?_;refine ⟨rfl,(((A.o4.setCell ?_ _).setCell ?_ _).setCell ?_ _).setCell ?_ _⟩ <;> simp
theorem all_any (w:World):Calls Tryz.prog 114 #[] w fun e w'=>e=.returned (setV fullM) /\ Below w.heap.size w w':=by
 have hn:=fun W=>not_any 0 0 0 0 (by decide) (by decide) (by decide) (by decide) W
 have e:(Value.agg (nrow 0 0 0 0 4))=setV fullM:=by
  show (Value.agg #[.int .u64 (notI 0),.int .u64 (notI 0),.int .u64 (notI 0),.int .u64 (notI 0)])=setV fullM;unfold setV;rw [wd_full 0 (by decide),wd_full 1 (by decide),wd_full 2 (by decide),wd_full 3 (by decide)];have h0:notI 0=IntKind.u64.max:=by decide
  rw [h0]
 rw [e] at hn;obtain ⟨a,b,c,d,hfm⟩:∃ a b c d:Int,setV fullM=.agg #[.int .u64 a,.int .u64 b,.int .u64 c,.int .u64 d]:=⟨_,_,_,_,rfl⟩;rw [hfm] at hn ⊢;clear hfm e;go_enter Tryz.func114,Tryz.ntmps114;go_wp2_with fail
 refine (hn _).mono ?_;rintro e w1 ⟨rfl,hb⟩;have hB:=(Blk.new w 33 #[.int .u64 0,.int .u64 0,.int .u64 0,.int .u64 0]).below hb (by simp);obtain ⟨c0,c1,c2,c3,cf⟩:=hB.facts4;have hb1:Below w.heap.size w w1:=((bR w.heap.size w).alloc (nR _) _).trans (hb.mono (by simp));have H:=Z2.mk hB hb1;clear hb hb1 hB hn;go_wp2_with fail
 have hbk:=(((H.o1.set_ 0 (.int .u64 a)).set_ 1 (.int .u64 b)).set_ 2 (.int .u64 c)).set_ 3 (.int .u64 d);refine bodyPost_ret (results_cell_row (by rfl) _ _ w.heap.size 33 _ (0,0) _ (by rfl) hbk Tryz.underlying33 (by rfl) (by kernel_rfl)) rfl ?_;refine ⟨rfl,(((H.o2.setCell ?_ _).setCell ?_ _).setCell ?_ _).setCell ?_ _⟩ <;> (simp;try omega)
end Go.Proofs.YthiochcpmfkgcaaGreatDoor.Tb
namespace Go.Proofs.YthiochcpmfkgcaaGreatDoor.Tb
open Go Go.RowKit Go.Proofs Mx
theorem foldl_or_snoc (l:List Nat) (x:Nat):(l++[x]).foldl (· ||| ·) 0=l.foldl (· ||| ·) 0 ||| x:=by simp
theorem union_any (D:Nat->Prop) (l:List Nat) (v:Value) (w:World) (hv:SliceK D encSet 4 w v l) :
  Calls Tryz.prog 55 #[v] w fun e w'=>e=.returned (setV (l.foldl (· ||| ·) 0)) /\ Below w.heap.size w w':=by
 obtain ⟨a,c,rfl,hc1,hc2,hk⟩:=hv;have hmx:l.length<=9223372036854775807:=by unfold maxLen at hc2;omega
 have HK:=Hd hk;clear hk;go_enter Tryz.func55,Tryz.ntmps55;go_wp2_with fail
 have hB0:Blk ((w.alloc (.cells #[.int .u64 0,.int .u64 0,.int .u64 0,.int .u64 0] 33)).alloc (.cells #[.int .u64 0,.int .u64 0,.int .u64 0,.int .u64 0] 33)) w.heap.size 33 #[.int .u64 0,.int .u64 0,.int .u64 0,.int .u64 0]:=(Blk.new_ rfl _ _).alloc _;have hz0:setC ((l.take 0).foldl (· ||| ·) 0)=#[.int .u64 0,.int .u64 0,.int .u64 0,.int .u64 0]:=by
  rw [List.take_zero];show setC 0=#[.int .u64 0,.int .u64 0,.int .u64 0,.int .u64 0];unfold setC wd;simp
 have hB1:Blk ((w.alloc (.cells #[.int .u64 0,.int .u64 0,.int .u64 0,.int .u64 0] 33)).alloc (.cells #[.int .u64 0,.int .u64 0,.int .u64 0,.int .u64 0] 33)) (w.heap.size+1) 33 (setC ((l.take 0).foldl (· ||| ·) 0)):=by rw [hz0];exact Blk.new_ (by simp) _ _
 have hbl:=((bR w.heap.size w).alloc (nR _) (.cells #[.int .u64 0,.int .u64 0,.int .u64 0,.int .u64 0] 33)).alloc (by simp) (.cells #[.int .u64 0,.int .u64 0,.int .u64 0,.int .u64 0] 33);generalize ((w.alloc (.cells #[.int .u64 0,.int .u64 0,.int .u64 0,.int .u64 0] 33)).alloc (.cells #[.int .u64 0,.int .u64 0,.int .u64 0,.int .u64 0] 33))=w2 at hB0 hB1 hbl ⊢
 go_loopg [9] l.length (fun m v wr=>∃ i:Nat,i<=l.length /\ m=l.length - i /\ v=.int .i64 i /\ Blk wr w.heap.size 33 #[.int .u64 0,.int .u64 0,.int .u64 0,.int .u64 0] /\ Blk wr (w.heap.size+1) 33 (setC ((l.take i).foldl (· ||| ·) 0)) /\ Below w.heap.size w wr)
 case atStart=>exact ⟨0,by omega,rfl,rfl,hB0,hB1,hbl⟩
 case round =>
  obtain ⟨i,hi,hm,rfl,h0,h1,h2⟩:=hrel;clear hB0 hB1 hbl hz0
  by_cases hlt:i<l.length
  ·obtain ⟨x,hx⟩:∃ x,l[i]?=some x:=⟨_,gE hlt⟩;obtain ⟨kg,ko,rfl,_,hkr⟩:=HK.out (by rintro rfl;simp at hlt)
   have k0:=hkr.cells i _ hx 0 _ rfl;have k1:=hkr.cells i _ hx 1 _ rfl;have k2:=hkr.cells i _ hx 2 _ rfl;have k3:=hkr.cells i _ hx 3 _ rfl;simp only [Nat.add_zero] at k0;have k0:=(h2.cell (p:=⟨kg,ko+i * 4,none⟩) (wL _ _ k0)).trans k0;have k1:=(h2.cell (p:=⟨kg,ko+i * 4+1,none⟩) (wL _ _ k1)).trans k1;have k2:=(h2.cell (p:=⟨kg,ko+i * 4+2,none⟩) (wL _ _ k2)).trans k2;have k3:=(h2.cell (p:=⟨kg,ko+i * 4+3,none⟩) (wL _ _ k3)).trans k3;have hnext:(l.take (i+1)).foldl (· ||| ·) 0=(l.take i).foldl (· ||| ·) 0 ||| x:=by
    rw [List.take_add_one,hx];exact foldl_or_snoc _ _
   obtain ⟨M,hM⟩:=eX ((l.take i).foldl (· ||| ·) 0);rw [hM] at h1 hnext;obtain ⟨R,hR⟩:=eX (M ||| x);have l0:=wd_or M x 0;have l1:=wd_or M x 1;have l2:=wd_or M x 2;have l3:=wd_or M x 3;rw [hR] at l0 l1 l2 l3 hnext;have hi0:(0:Int)<=i:=by omega
   have hi1:(i:Int)<l.length:=by omega
   have A:=Z6.mk hm h0 h1 h2 hnext hR

   clear hm h0 h1 h2 hnext hM hR hx hkr;go_wp2_with fail
   have g0:Blk (wr.alloc (.cells #[.int .u64 (wd x 0),.int .u64 (wd x 1),.int .u64 (wd x 2),.int .u64 (wd x 3)] 33)) w.heap.size 33 #[.int .u64 0,.int .u64 0,.int .u64 0,.int .u64 0]:=A.o2.alloc _;have g1:Blk (wr.alloc (.cells #[.int .u64 (wd x 0),.int .u64 (wd x 1),.int .u64 (wd x 2),.int .u64 (wd x 3)] 33)) (w.heap.size+1) 33 (mix M R 0):=A.o3.alloc _;have g2:Blk (wr.alloc (.cells #[.int .u64 (wd x 0),.int .u64 (wd x 1),.int .u64 (wd x 2),.int .u64 (wd x 3)] 33)) wr.heap.size 33 #[.int .u64 (wd x 0),.int .u64 (wd x 1),.int .u64 (wd x 2),.int .u64 (wd x 3)]:=Blk.new _ _ _;have g3:Below w.heap.size w (wr.alloc (.cells #[.int .u64 (wd x 0),.int .u64 (wd x 1),.int .u64 (wd x 2),.int .u64 (wd x 3)] 33)):=A.o4.alloc A.o4.size _;have hz1:w.heap.size+1<wr.heap.size:=A.o3.lt;generalize wr.alloc (.cells #[.int .u64 (wd x 0),.int .u64 (wd x 1),.int .u64 (wd x 2),.int .u64 (wd x 3)] 33)=w3 at g0 g1 g2 g3 ⊢;generalize wr.heap.size=xb at g2 hz1 ⊢;clear k0 k1 k2 k3
   go_loopg [13] 4 (fun m v wq=>∃ j:Nat,j<=4 /\ m=4 - j /\ v=.int .i64 j /\ Blk wq w.heap.size 33 #[.int .u64 0,.int .u64 0,.int .u64 0,.int .u64 0] /\ Blk wq (w.heap.size+1) 33 (mix M R j) /\ Blk wq xb 33 #[.int .u64 (wd x 0),.int .u64 (wd x 1),.int .u64 (wd x 2),.int .u64 (wd x 3)] /\ Below w.heap.size w wq)
   case atStart=>exact ⟨0,by omega,rfl,rfl,g0,g1,g2,g3⟩
   case round =>
    obtain ⟨j,hj,hm,rfl,h0,h1,h2,h3⟩:=hrel;have Q:=Z5.mk hm h0 h1 h2 h3;obtain ⟨e0,e1,e2,e3,ef⟩:=h1.facts4;obtain ⟨f0,f1,f2,f3,ff⟩:=h2.facts4;clear g0 g1 g2 g3 hm h0 h1 h2 h3
    rcases (show j=0∨j=1∨j=2∨j=3∨j=4 by omega) with rfl | rfl | rfl | rfl | rfl
    ·simp only [Nat.lt_irrefl,if_true,Nat.reduceLT,if_false] at e0 e1 e2 e3;go_wp2_with fail
     apply via
     ·intro K
      go_region
      all_goals (try go_simp)
      all_goals exact K.out
     go_wp2_with fail
     go_roundg 3
     case measure=>have:=Q.o1;omega
     case rel=>exact ⟨1,by omega,rfl,rfl,Q.o2.far (p:=⟨w.heap.size+1,0,none⟩) (by simp) _,Q.o3.set_ 0 _,Q.o4.far (p:=⟨w.heap.size+1,0,none⟩) (by simp;omega) _,(Q.o5.setCell (p:=⟨w.heap.size+1,0,none⟩) (by simp) _).drew⟩
    ·simp only [Nat.lt_irrefl,if_true,Nat.reduceLT,if_false] at e0 e1 e2 e3;go_wp2_with fail
     apply via
     ·intro K
      go_region
      all_goals (try go_simp)
      all_goals exact K.out
     go_wp2_with fail
     go_roundg 2
     case measure=>have:=Q.o1;omega
     case rel=>exact ⟨2,by omega,rfl,rfl,Q.o2.far (p:=⟨w.heap.size+1,1,none⟩) (by simp) _,Q.o3.set_ 1 _,Q.o4.far (p:=⟨w.heap.size+1,1,none⟩) (by simp;omega) _,(Q.o5.setCell (p:=⟨w.heap.size+1,1,none⟩) (by simp) _).drew⟩
    ·simp only [Nat.lt_irrefl,if_true,Nat.reduceLT,if_false] at e0 e1 e2 e3;go_wp2_with fail
     apply via
     ·intro K
      go_region
      all_goals (try go_simp)
      all_goals exact K.out
     go_wp2_with fail
     go_roundg 1
     case measure=>have:=Q.o1;omega
     case rel=>exact ⟨3,by omega,rfl,rfl,Q.o2.far (p:=⟨w.heap.size+1,2,none⟩) (by simp) _,Q.o3.set_ 2 _,Q.o4.far (p:=⟨w.heap.size+1,2,none⟩) (by simp;omega) _,(Q.o5.setCell (p:=⟨w.heap.size+1,2,none⟩) (by simp) _).drew⟩
    ·simp only [Nat.lt_irrefl,if_true,Nat.reduceLT,if_false] at e0 e1 e2 e3;go_wp2_with fail
     apply via
     ·intro K
      go_region
      all_goals (try go_simp)
      all_goals exact K.out
     go_wp2_with fail
     go_roundg 0
     case measure=>have:=Q.o1;omega
     case rel=>exact ⟨4,by omega,rfl,rfl,Q.o2.far (p:=⟨w.heap.size+1,3,none⟩) (by simp) _,Q.o3.set_ 3 _,Q.o4.far (p:=⟨w.heap.size+1,3,none⟩) (by simp;omega) _,(Q.o5.setCell (p:=⟨w.heap.size+1,3,none⟩) (by simp) _).drew⟩
    ·go_wp2_with fail
     go_roundg (l.length - (i+1))
     case measure=>have:=A.o1;omega
     case rel=>exact ⟨i+1,by omega,rfl,rfl,Q.o2,by rw [A.o5];exact Q.o3,Q.o5⟩
  ·obtain rfl:i=l.length:=by omega
   rw [List.take_length] at h1;obtain ⟨R,hR⟩:=eX (l.foldl (· ||| ·) 0);rw [hR] at h1;have HR:=Hd hR;clear hR;obtain ⟨e0,e1,e2,e3,ef⟩:=Blk.facts4 (v0:=.int .u64 (wd R 0)) (v1:=.int .u64 (wd R 1)) (v2:=.int .u64 (wd R 2)) (v3:=.int .u64 (wd R 3)) h1;obtain ⟨f0,f1,f2,f3,ff⟩:=h0.facts4;have A:=Z2.mk h0 h2;clear h0 h1 h2 hm;go_wp2_with fail
   have hbk:=(((A.o1.set_ 0 (.int .u64 (wd R 0))).set_ 1 (.int .u64 (wd R 1))).set_ 2 (.int .u64 (wd R 2))).set_ 3 (.int .u64 (wd R 3));refine bodyPost_ret (results_cell_row (by rfl) _ _ w.heap.size 33 _ (0,0) _ (by rfl) hbk Tryz.underlying33 (by rfl) (by kernel_rfl)) rfl ?_;refine ⟨by rw [HR.out];rfl,(((A.o2.setCell ?_ _).setCell ?_ _).setCell ?_ _).setCell ?_ _⟩ <;> (simp;try omega)
open Go.Maps
theorem ret_bool {a b:Bool} (h:a=b):Ending.returned (.bool a)=.returned (.bool b):=by rw [h]
theorem wd_test (M b q m:Nat) (hq:b / 64=q) (hm:b % 64=m):((wd M q / 2 ^ m).tmod 2==1)=M.testBit b:=by
 obtain ⟨N,hN⟩:∃ N:Nat,M / 2 ^ (64 * q) % 18446744073709551616=N:=⟨_,rfl⟩;have h1:wd M q=(N:Int):=by rw [wd,hN]
 have h2:M.testBit b=N.testBit m:=by
  rw [<- hN,two64,Nat.testBit_mod_two_pow,Nat.testBit_div_two_pow];have:m<64:=by omega
  simp only [this,decide_true,Bool.true_and];congr 1;omega
 rw [h1,h2,Nat.testBit_eq_decide_div_mod_eq];have h3:((N:Int) / 2 ^ m).tmod 2=((N / 2 ^ m % 2:Nat):Int):=by
  rw [show ((2:Int) ^ m)=((2 ^ m:Nat):Int) by simp,<- Int.natCast_ediv,show (2:Int)=((2:Nat):Int) from rfl,<- Int.ofNat_tmod]
 rw [h3];have h4:N / 2 ^ m % 2<2:=Nat.mod_lt _ (by decide);generalize N / 2 ^ m % 2=x at h4 ⊢
 match x,h4 with
 | 0,_=>rfl
 | 1,_=>rfl
theorem and63 (b:Nat) (hb:b<256):bits .and .u8 (b:Int) 63=((b % 64:Nat):Int):=by
 have h:(List.range 256).all (fun b=>decide (bits .and .u8 (b:Int) 63=((b % 64:Nat):Int)))=true:=by decide +kernel
 simpa using List.all_eq_true.1 h b (by simp;omega)
theorem and_one (M b q m:Nat) (hq:b / 64=q) (hm:b % 64=m):(bits .and .u64 (wd M q / 2 ^ m) 1==1)=M.testBit b:=by
 obtain ⟨N,hN⟩:∃ N:Nat,M / 2 ^ (64 * q) % 18446744073709551616=N:=⟨_,rfl⟩;have h1:wd M q=(N:Int):=by rw [wd,hN]
 have hlt:N<2 ^ 64:=by rw [<- hN];exact Nat.mod_lt _ (by decide)
 have h2:M.testBit b=N.testBit m:=by
  rw [<- hN,two64,Nat.testBit_mod_two_pow,Nat.testBit_div_two_pow];have:m<64:=by omega
  simp only [this,decide_true,Bool.true_and];congr 1;omega
 rw [h1,h2,Nat.testBit_eq_decide_div_mod_eq,show ((2:Int) ^ m)=((2 ^ m:Nat):Int) by simp,<- Int.natCast_ediv,show (1:Int)=((1:Nat):Int) from rfl,
  and_nat _ _ (Nat.lt_of_le_of_lt (Nat.div_le_self _ _) hlt) (by decide),Nat.and_one_is_mod]
 have h4:N / 2 ^ m % 2<2:=Nat.mod_lt _ (by decide);generalize N / 2 ^ m % 2=x at h4 ⊢
 match x,h4 with
 | 0,_=>rfl
 | 1,_=>rfl
theorem has_any (M:Nat) (b:Nat) (hb:b<256) (w:World) :
  Calls Tryz.prog 126 #[setV M,.int .u8 (b:Int)] w fun e w'=>e=.returned (.bool (M.testBit b)) /\ Below w.heap.size w w':=by
 unfold setV;have hb0:(0:Int)<=b:=by omega
 have ha:=and63 b hb;obtain ⟨m,hm⟩:∃ m:Nat,b % 64=m:=⟨_,rfl⟩;rw [hm] at ha;have hm64:(m:Int)<64:=by omega
 have hm0:(0:Int)<=m:=by omega
 have w0:=wd_range M 0;have w1:=wd_range M 1;have w2:=wd_range M 2;have w3:=wd_range M 3
 rcases (show b / 64=0∨b / 64=1∨b / 64=2∨b / 64=3 by omega) with hq | hq | hq | hq
 ·have hq':(b:Int) / 64=0:=by omega
  have HX:=Hd (and_one M b 0 m hq hm);clear hm;go_enter Tryz.func126,Tryz.ntmps126;go_wp2_with fail
  go_ret;exact ⟨ret_bool HX.out,(bR _ w).alloc (nR _) _⟩
 ·have hq':(b:Int) / 64=1:=by omega
  have HX:=Hd (and_one M b 1 m hq hm);clear hm;go_enter Tryz.func126,Tryz.ntmps126;go_wp2_with fail
  go_ret;exact ⟨ret_bool HX.out,(bR _ w).alloc (nR _) _⟩
 ·have hq':(b:Int) / 64=2:=by omega
  have HX:=Hd (and_one M b 2 m hq hm);clear hm;go_enter Tryz.func126,Tryz.ntmps126;go_wp2_with fail
  go_ret;exact ⟨ret_bool HX.out,(bR _ w).alloc (nR _) _⟩
 ·have hq':(b:Int) / 64=3:=by omega
  have HX:=Hd (and_one M b 3 m hq hm);clear hm;go_enter Tryz.func126,Tryz.ntmps126;go_wp2_with fail
  go_ret;exact ⟨ret_bool HX.out,(bR _ w).alloc (nR _) _⟩
def symV (s:Sy):Value:=.agg #[.int .i64 s.kind,.int .u64 (wd s.set 0),.int .u64 (wd s.set 1),.int .u64 (wd s.set 2),.int .u64 (wd s.set 3),.int .i64 s.sort]
end Go.Proofs.YthiochcpmfkgcaaGreatDoor.Tb
