/- Walks and plain laws that the last text stands on: GlB, GlC, TbMakeL, TbPureB, GlD, GlE, GlG, GlH, GlI. -/
import Derived.Test.YthiochcpmfkgcaaGreatDoorSo2
set_option linter.unusedVariables false
set_option linter.unusedSimpArgs false
set_option maxRecDepth 100000
set_option maxHeartbeats 16000000
/-
  PLAIN LAWS of package glr: what the run ends with is the least closed sets;it gives up just if there is too much.
-/
namespace Go.Proofs.YthiochcpmfkgcaaGreatDoor.Gl
structure Inv (T:Tab) (w:List UInt8) (B:Nat) (r:Rn):Prop where
 tot:r.left+r.edges.length+r.alts.length=B
 nd:r.nodes.Nodup
 ed:r.edges.Nodup
 ad:r.alts.Nodup
 sn:∀ x∈r.nodes,LN T w x
 se:∀ e∈r.edges,LE T w e.1 e.2
 sa:∀ a∈r.alts,LA T w a
 ends:∀ e∈r.edges,e.1∈r.nodes /\ e.2∈r.nodes /\ e.2.2<=e.1.2
def Above (T:Tab) (w:List UInt8) (B:Nat):Prop :=
 ∃ (es:List (Nd × Nd)) (al_:List Al),es.Nodup /\ al_.Nodup /\ (∀ e∈es,LE T w e.1 e.2) /\ (∀ a∈al_,LA T w a) /\ es.length+al_.length=B+1
structure Grow (j:Nat) (r r':Rn) (f:Bool):Prop where
 nodes:∃ n,r'.nodes=r.nodes++n /\ ∀ x∈n,x.2=j
 edges:∃ n,r'.edges=r.edges++n /\ ∀ e∈n,e.1.2=j
 alts:∃ n,r'.alts=r.alts++n /\ ∀ a∈n,a.til=j
 le:r'.left<=r.left
 less:f=true->r'.left<r.left
 same:f=false->r'.nodes=r.nodes /\ r'.edges=r.edges /\ r'.alts=r.alts
theorem Grow.refl (j:Nat) (r:Rn):Grow j r r false :=
 ⟨⟨[],by simp⟩,⟨[],by simp⟩,⟨[],by simp⟩,nR _,(fun h=>by cases h),fun _=>⟨rfl,rfl,rfl⟩⟩
theorem Grow.trans {j:Nat} {r r1 r2:Rn} {f g:Bool} (h:Grow j r r1 f) (k:Grow j r1 r2 g):Grow j r r2 (f || g):=by
 obtain ⟨n1,a1,a2⟩:=h.nodes;obtain ⟨n2,a3,a4⟩:=k.nodes;obtain ⟨e1,b1,b2⟩:=h.edges;obtain ⟨e2,b3,b4⟩:=k.edges;obtain ⟨l1,c1,c2⟩:=h.alts;obtain ⟨l2,c3,c4⟩:=k.alts;refine ⟨⟨n1++n2,by rw [a3,a1,List.append_assoc],fun x hx=>?_⟩,⟨e1++e2,by rw [b3,b1,List.append_assoc],fun x hx=>?_⟩,⟨l1++l2,by rw [c3,c1,List.append_assoc],fun x hx=>?_⟩,Nat.le_trans k.le h.le,fun hf=>?_,fun hf=>?_⟩
 ·rcases List.mem_append.1 hx with hx | hx
  ·exact a2 x hx
  ·exact a4 x hx
 ·rcases List.mem_append.1 hx with hx | hx
  ·exact b2 x hx
  ·exact b4 x hx
 ·rcases List.mem_append.1 hx with hx | hx
  ·exact c2 x hx
  ·exact c4 x hx
 ·rcases Bool.or_eq_true _ _ ▸ hf with hf | hf
  ·exact Nat.lt_of_le_of_lt k.le (h.less hf)
  ·exact nL (k.less hf) h.le
 ·rw [Bool.or_eq_false_iff] at hf;obtain ⟨p1,p2,p3⟩:=h.same hf.1;obtain ⟨q1,q2,q3⟩:=k.same hf.2;exact ⟨q1.trans p1,q2.trans p2,q3.trans p3⟩
theorem Grow.nodeIn {j:Nat} {r r':Rn} {f:Bool} (h:Grow j r r' f) {x:Nd} (hx:x∈r.nodes):x∈r'.nodes:=by
 obtain ⟨n,a,_⟩:=h.nodes;rw [a];exact List.mem_append_left _ hx
theorem Grow.edgeIn {j:Nat} {r r':Rn} {f:Bool} (h:Grow j r r' f) {x:Nd × Nd} (hx:x∈r.edges):x∈r'.edges:=by
 obtain ⟨n,a,_⟩:=h.edges;rw [a];exact List.mem_append_left _ hx
theorem Grow.altIn {j:Nat} {r r':Rn} {f:Bool} (h:Grow j r r' f) {x:Al} (hx:x∈r.alts):x∈r'.alts:=by
 obtain ⟨n,a,_⟩:=h.alts;rw [a];exact List.mem_append_left _ hx
theorem altF_law {T:Tab} {w:List UInt8} {B j:Nat} {r:Rn} {a:Al} (hI:Inv T w B r) (ha:LA T w a) (hj:a.til=j) :
  match altF r a with
  | .stop _=>Above T w B
  | .ok (r',f)=>Inv T w B r' /\ Grow j r r' f /\ a∈r'.alts:=by
 unfold altF
 by_cases hm:a∈r.alts
 ·rw [if_pos hm];exact ⟨hI,Grow.refl j r,hm⟩
 ·rw [if_neg hm];have hnd:(r.alts++[a]).Nodup:=List.nodup_append.2 ⟨hI.ad,by simp,fun x hx y hy=>by rw [List.mem_singleton] at hy;subst hy;rintro rfl;exact hm hx⟩
  have hall:∀ x∈r.alts++[a],LA T w x:=fun x hx=>by
   rcases List.mem_append.1 hx with hx | hx
   ·exact hI.sa x hx
   ·rw [List.mem_singleton] at hx;subst hx;exact ha
  by_cases h0:r.left=0
  ·rw [if_pos h0];refine ⟨r.edges,r.alts++[a],hI.ed,hnd,hI.se,hall,?_⟩;have:=hI.tot;simp;omega
  ·rw [if_neg h0];refine ⟨⟨?_,hI.nd,hI.ed,hnd,hI.sn,hI.se,hall,hI.ends⟩,⟨⟨[],by simp⟩,⟨[],by simp⟩,⟨[a],rfl,by simpa using hj⟩,by simp,fun _=>by simp;omega,fun h=>by cases h⟩,by simp⟩;have:=hI.tot;simp;omega
theorem linkF_law {T:Tab} {w:List UInt8} {B j:Nat} {r:Rn} {x y:Nd} (hI:Inv T w B r) (he:LE T w x y) (hy:y∈r.nodes) (hj:x.2=j) (hle:y.2<=j) :
  match linkF r x y with
  | .stop _=>Above T w B
  | .ok (r',f)=>Inv T w B r' /\ Grow j r r' f /\ (x,y)∈r'.edges:=by
 unfold linkF
 by_cases hm:(x,y)∈r.edges
 ·rw [if_pos hm];exact ⟨⟨hI.tot,hI.nd,hI.ed,hI.ad,hI.sn,hI.se,hI.sa,hI.ends⟩,⟨⟨[],by simp⟩,⟨[],by simp⟩,⟨[],by simp⟩,nR _,(fun h=>by cases h),fun _=>⟨rfl,rfl,rfl⟩⟩,hm⟩
 ·rw [if_neg hm];have hnd:(r.edges++[(x,y)]).Nodup:=List.nodup_append.2 ⟨hI.ed,by simp,fun u hu v hv=>by rw [List.mem_singleton] at hv;subst hv;rintro rfl;exact hm hu⟩
  have hall:∀ e∈r.edges++[(x,y)],LE T w e.1 e.2:=fun e hx=>by
   rcases List.mem_append.1 hx with hx | hx
   ·exact hI.se e hx
   ·rw [List.mem_singleton] at hx;subst hx;exact he
  by_cases h0:r.left=0
  ·rw [if_pos h0];refine ⟨r.edges++[(x,y)],r.alts,hnd,hI.ad,hall,hI.sa,?_⟩;have:=hI.tot;simp;omega
  ·rw [if_neg h0]
   have hlx:LN T w x:=(least_closed T w).node x y he;have hpush:∃ n,(pushF r x).nodes=r.nodes++n /\ (∀ u∈n,u=x) /\ (pushF r x).nodes.Nodup /\ x∈(pushF r x).nodes /\ (pushF r x).edges=r.edges /\ (pushF r x).alts=r.alts:=by
    unfold pushF
    by_cases hx:x∈r.nodes
    ·rw [if_pos hx];exact ⟨[],by simp,by simp,hI.nd,hx,rfl,rfl⟩
    ·rw [if_neg hx];exact ⟨[x],rfl,by simp,List.nodup_append.2 ⟨hI.nd,by simp,fun u hu v hv=>by rw [List.mem_singleton] at hv;subst hv;rintro rfl;exact hx hu⟩,by simp,rfl,rfl⟩
   obtain ⟨n,p1,p2,p3,p4,p5,p6⟩:=hpush;have hin:∀ u∈r.nodes,u∈(pushF r x).nodes:=fun u hu=>by rw [p1];exact List.mem_append_left _ hu
   refine ⟨⟨?_,p3,hnd,?_,?_,hall,?_,?_⟩,⟨⟨n,p1,fun u hu=>by rw [p2 u hu];exact hj⟩,⟨[(x,y)],rfl,by simpa using hj⟩,⟨[],by simp [p6]⟩,by simp,fun _=>by simp;omega,fun h=>by cases h⟩,by simp⟩
   ·have:=hI.tot;simp only [List.length_append,List.length_singleton,p6];omega
   ·show (pushF r x).alts.Nodup;rw [p6];exact hI.ad
   ·intro u hu;have hu':u∈r.nodes++n:=by rw [<- p1];exact hu
    rcases List.mem_append.1 hu' with hu | hu
    ·exact hI.sn u hu
    ·rw [p2 u hu];exact hlx
   ·show ∀ a∈(pushF r x).alts,LA T w a;rw [p6];exact hI.sa
   ·intro e hx
    rcases List.mem_append.1 (show e∈r.edges++[(x,y)] from hx) with hx | hx
    ·obtain ⟨q1,q2,q3⟩:=hI.ends e hx;exact ⟨hin _ q1,hin _ q2,q3⟩
    ·rw [List.mem_singleton] at hx;subst hx;exact ⟨p4,hin _ hy,by rw [hj];exact hle⟩
def DoneBy (T:Tab) (r:Rn) (x:Nd) (p:Nat) (l:List (Nd × List Nat)):Prop :=
 ∀ y∈l,(⟨p,y.1.2,x.2,y.2⟩:Al)∈r.alts /\ ∀ t,T.goto_ y.1.1 (T.left p)=some t->((t,x.2),y.1)∈r.edges
theorem foundF_law {T:Tab} {w:List UInt8} {B:Nat} {x:Nd} {p:Nat} (hx:LN T w x) (hw:x.2<=w.length) (hp:p∈T.done x.1) :
  ∀ (l:List (Nd × List Nat)) (r:Rn) (f:Bool),Inv T w B r->(∀ y∈l,Way (LE T w) (T.len p) x y.1 y.2 /\ y.1∈r.nodes /\ y.1.2<=x.2) ->
  match foundF T x.2 p l r f with
  | .stop _=>Above T w B
  | .ok (r',f')=>Inv T w B r' /\ (∃ g,f'=(f || g) /\ Grow x.2 r r' g) /\ DoneBy T r' x p l
 | [],r,f,hI,_=>⟨hI,⟨false,by simp,Grow.refl _ r⟩,fun y hy=>by cases hy⟩
 | y::l,r,f,hI,hl=>by
  obtain ⟨h1,h2,h3⟩:=hl y (by simp);rw [foundF];have hA:=altF_law (j:=x.2) hI ((least_closed T w).alt x.1 x.2 p y.1 y.2 hx hw hp h1) rfl
  cases ha:altF r ⟨p,y.1.2,x.2,y.2⟩ with
  | stop r1=>rw [ha] at hA;exact hA
  | ok v =>
   obtain ⟨r1,f1⟩:=v;rw [ha] at hA;obtain ⟨i1,g1,m1⟩:=hA;have hl':∀ {r2:Rn} {g:Bool},Grow x.2 r r2 g->∀ z∈l,Way (LE T w) (T.len p) x z.1 z.2 /\ z.1∈r2.nodes /\ z.1.2<=x.2:=fun hg z hz =>
    ⟨(hl z (by simp [hz])).1,hg.nodeIn (hl z (by simp [hz])).2.1,(hl z (by simp [hz])).2.2⟩
   cases hg:T.goto_ y.1.1 (T.left p) with
   | none =>
    dsimp only;have hR:=foundF_law hx hw hp l r1 (f || f1) i1 (hl' g1)
    cases hr:foundF T x.2 p l r1 (f || f1) with
    | stop r2=>rw [hr] at hR;exact hR
    | ok v =>
     obtain ⟨r2,f2⟩:=v;rw [hr] at hR;obtain ⟨i2,⟨g,e2,g2⟩,d2⟩:=hR;refine ⟨i2,⟨f1 || g,by rw [e2,Bool.or_assoc],g1.trans g2⟩,fun z hz=>?_⟩
     rcases List.mem_cons.1 hz with rfl | hz
     ·exact ⟨g2.altIn m1,fun t ht=>by rw [hg] at ht;cases ht⟩
     ·exact d2 z hz
   | some t =>
    dsimp only;have hL:=linkF_law (j:=x.2) (x:=(t,x.2)) (y:=y.1) i1 ((least_closed T w).goto_ x.1 x.2 p y.1 y.2 t hx hw hp h1 hg) (g1.nodeIn h2) rfl h3
    cases hlk:linkF r1 (t,x.2) y.1 with
    | stop r2=>rw [hlk] at hL;exact hL
    | ok v =>
     obtain ⟨r2,f2⟩:=v;rw [hlk] at hL;obtain ⟨i2,g2,m2⟩:=hL;dsimp only;have hR:=foundF_law hx hw hp l r2 (f || f1 || f2) i2 (hl' (g1.trans g2))
     cases hr:foundF T x.2 p l r2 (f || f1 || f2) with
     | stop r3=>rw [hr] at hR;exact hR
     | ok v =>
      obtain ⟨r3,f3⟩:=v;rw [hr] at hR;obtain ⟨i3,⟨g,e3,g3⟩,d3⟩:=hR;refine ⟨i3,⟨f1 || f2 || g,by rw [e3];simp only [Bool.or_assoc],(g1.trans g2).trans g3⟩,fun z hz=>?_⟩
      rcases List.mem_cons.1 hz with rfl | hz
      ·refine ⟨g3.altIn (g2.altIn m1),fun u hu=>?_⟩;rw [hg] at hu;cases hu;exact g3.edgeIn m2
      ·exact d3 z hz
end Go.Proofs.YthiochcpmfkgcaaGreatDoor.Gl
/-
  PLAIN LAWS of package glr: whole places,the whole run.
-/
namespace Go.Proofs.YthiochcpmfkgcaaGreatDoor.Gl
theorem way_ends {T:Tab} {w:List UInt8} {B:Nat} {r:Rn} (hI:Inv T w B r):∀ {n:Nat} {x y:Nd} {c:List Nat},x∈r.nodes->Way (eP r.edges) n x y c->y∈r.nodes /\ y.2<=x.2
 | 0,x,y,c,hx,h=>by obtain ⟨h1,_⟩:=h;subst h1;exact ⟨hx,nR _⟩
 | n+1,x,y,c,hx,⟨z,d,h1,h2,_⟩=>by
  obtain ⟨q1,q2,q3⟩:=hI.ends (x,z) h1;obtain ⟨p1,p2⟩:=way_ends hI q2 h2;exact ⟨p1,Nat.le_trans p2 q3⟩
theorem way_least {T:Tab} {w:List UInt8} {B:Nat} {r:Rn} (hI:Inv T w B r) {n:Nat} {x y:Nd} {c:List Nat} (h:Way (eP r.edges) n x y c):Way (LE T w) n x y c :=
 h.mono fun _ _ k=>hI.se _ k
def DoneAt (T:Tab) (r:Rn) (x:Nd):Prop:=∀ p∈T.done x.1,DoneBy T r x p (waysF r.edges (T.len p) x)
theorem prodsF_law {T:Tab} {w:List UInt8} {B:Nat} {x:Nd} (hx:LN T w x) (hw:x.2<=w.length) :
  ∀ (l:List Nat) (r:Rn) (f:Bool),(∀ p∈l,p∈T.done x.1)->Inv T w B r->x∈r.nodes ->
  match prodsF T x l r f with
  | .stop _=>Above T w B
  | .ok (r',f')=>Inv T w B r' /\ ∃ g,f'=(f || g) /\ Grow x.2 r r' g /\ (g=false->∀ p∈l,DoneBy T r' x p (waysF r'.edges (T.len p) x))
 | [],r,f,_,hI,_=>⟨hI,false,by simp,Grow.refl _ r,fun _ p hp=>by cases hp⟩
 | p::l,r,f,hl,hI,hn=>by
  rw [prodsF];have hF:=foundF_law hx hw (hl p (by simp)) (waysF r.edges (T.len p) x) r f hI (fun y hy=>by
   have h:=waysF_mem.1 hy;exact ⟨way_least hI h,way_ends hI hn h⟩)
  cases hf:foundF T x.2 p (waysF r.edges (T.len p) x) r f with
  | stop r1=>rw [hf] at hF;exact hF
  | ok v =>
   obtain ⟨r1,f1⟩:=v;rw [hf] at hF;obtain ⟨i1,⟨g,e1,g1⟩,d1⟩:=hF;dsimp only;have hR:=prodsF_law hx hw l r1 f1 (fun q hq=>hl q (by simp [hq])) i1 (g1.nodeIn hn)
   cases hr:prodsF T x l r1 f1 with
   | stop r2=>rw [hr] at hR;exact hR
   | ok v =>
    obtain ⟨r2,f2⟩:=v;rw [hr] at hR;obtain ⟨i2,h,e2,g2,d2⟩:=hR;refine ⟨i2,g || h,by rw [e2,e1,Bool.or_assoc],g1.trans g2,fun hgh=>?_⟩;rw [Bool.or_eq_false_iff] at hgh;intro q hq
    rcases List.mem_cons.1 hq with rfl | hq
    ·have hs:=(g1.trans g2).same (by rw [hgh.1,hgh.2];rfl);rw [hs.2.1];exact fun y hy=>⟨g2.altIn (d1 y hy).1,fun t ht=>g2.edgeIn ((d1 y hy).2 t ht)⟩
    ·exact d2 hgh.2 q hq
theorem reduceF_law {T:Tab} {w:List UInt8} {B:Nat} {x:Nd} {r:Rn} (hw:x.2<=w.length) (hI:Inv T w B r) (hn:x∈r.nodes) :
  match reduceF T r x with
  | .stop _=>Above T w B
  | .ok (r',f')=>Inv T w B r' /\ Grow x.2 r r' f' /\ (f'=false->DoneAt T r' x):=by
 have h:=prodsF_law (hI.sn x hn) hw (T.done x.1) r false (fun p hp=>hp) hI hn;unfold reduceF
 cases hr:prodsF T x (T.done x.1) r false with
 | stop r1=>rw [hr] at h;exact h
 | ok v =>
  obtain ⟨r1,f1⟩:=v;rw [hr] at h;obtain ⟨i1,g,e1,g1,d1⟩:=h;rw [Bool.false_or] at e1;subst e1;exact ⟨i1,g1,d1⟩
theorem DoneAt.same {T:Tab} {r r':Rn} {x:Nd} (h:DoneAt T r x) (he:r'.edges=r.edges) (ha:r'.alts=r.alts):DoneAt T r' x:=by
 intro p hp y hy;rw [he] at hy ⊢;rw [ha];exact h p hp y hy
theorem passF_law {T:Tab} {w:List UInt8} {B j:Nat} (hw:j<=w.length) :
  ∀ (l:List Nat) (r:Rn),(∀ s∈l,(s,j)∈r.nodes)->Inv T w B r ->
  match passF T j l r with
  | .stop _=>Above T w B
  | .ok (r',f')=>Inv T w B r' /\ Grow j r r' f' /\ (f'=false->∀ s∈l,DoneAt T r' (s,j))
 | [],r,_,hI=>⟨hI,Grow.refl _ r,fun _ s hs=>by cases hs⟩
 | s::l,r,hl,hI=>by
  rw [passF];have hF:=reduceF_law (x:=(s,j)) hw hI (hl s (by simp))
  cases hf:reduceF T r (s,j) with
  | stop r1=>rw [hf] at hF;exact hF
  | ok v =>
   obtain ⟨r1,f1⟩:=v;rw [hf] at hF;obtain ⟨i1,g1,d1⟩:=hF
   cases f1 with
   | true=>exact ⟨i1,g1,fun h=>by cases h⟩
   | false =>
    dsimp only;have hR:=passF_law hw l r1 (fun t ht=>g1.nodeIn (hl t (by simp [ht]))) i1
    cases hr:passF T j l r1 with
    | stop r2=>rw [hr] at hR;exact hR
    | ok v =>
     obtain ⟨r2,f2⟩:=v;rw [hr] at hR;obtain ⟨i2,g2,d2⟩:=hR;refine ⟨i2,by simpa using g1.trans g2,fun h t ht=>?_⟩
     rcases List.mem_cons.1 ht with rfl | ht
     ·have hs:=g2.same h;exact (d1 rfl).same hs.2.1 hs.2.2
     ·exact d2 h t ht
theorem againF_law {T:Tab} {w:List UInt8} {B j:Nat} (hw:j<=w.length) :
  ∀ (f:Nat) (r:Rn),r.left<f->Inv T w B r ->
  match againF T j f r with
  | .stop _=>Above T w B
  | .ok r'=>Inv T w B r' /\ (∃ g,Grow j r r' g) /\ ∀ s,(s,j)∈r'.nodes->DoneAt T r' (s,j)
 | 0,r,hf,_=>by omega
 | f+1,r,hf,hI=>by
  rw [againF];have hF:=passF_law hw (rowF r j) r (fun s hs=>rowF_mem.1 hs) hI
  cases hp:passF T j (rowF r j) r with
  | stop r1=>rw [hp] at hF;exact hF
  | ok v =>
   obtain ⟨r1,f1⟩:=v;rw [hp] at hF;obtain ⟨i1,g1,d1⟩:=hF
   cases f1 with
   | false =>
    dsimp only;refine ⟨i1,⟨_,g1⟩,fun s hs=>d1 rfl s (rowF_mem.2 ?_)⟩;rw [(g1.same rfl).1] at hs;exact hs
   | true =>
    dsimp only;have hlt:=g1.less rfl;have hR:=againF_law hw f r1 (by omega) i1
    cases hr:againF T j f r1 with
    | stop r2=>rw [hr] at hR;exact hR
    | ok r2 =>
     rw [hr] at hR;obtain ⟨i2,⟨g,g2⟩,d2⟩:=hR;exact ⟨i2,⟨_,g1.trans g2⟩,d2⟩
theorem shiftsF_law {T:Tab} {w:List UInt8} {B j:Nat} {b:UInt8} (hb:w[j]?=some b) :
  ∀ (l:List Nat) (r:Rn),(∀ s∈l,(s,j)∈r.nodes)->Inv T w B r ->
  match shiftsF T j b l r with
  | .stop _=>Above T w B
  | .ok r'=>Inv T w B r' /\ (∃ g,Grow (j+1) r r' g) /\ ∀ s∈l,∀ t,T.shift s b=some t->((t,j+1),(s,j))∈r'.edges
 | [],r,_,hI=>⟨hI,⟨_,Grow.refl _ r⟩,fun s hs=>by cases hs⟩
 | s::l,r,hl,hI=>by
  rw [shiftsF]
  cases ht:T.shift s b with
  | none =>
   dsimp only;have hR:=shiftsF_law hb l r (fun t ht=>hl t (by simp [ht])) hI
   cases hr:shiftsF T j b l r with
   | stop r2=>rw [hr] at hR;exact hR
   | ok r2 =>
    rw [hr] at hR;obtain ⟨i2,g2,d2⟩:=hR;refine ⟨i2,g2,fun u hu v hv=>?_⟩
    rcases List.mem_cons.1 hu with rfl | hu
    ·rw [ht] at hv;cases hv
    ·exact d2 u hu v hv
  | some t =>
   dsimp only;have hL:=linkF_law (j:=j+1) (x:=(t,j+1)) (y:=(s,j)) hI ((least_closed T w).shift s j b t (hI.sn _ (hl s (by simp))) hb ht) (hl s (by simp)) rfl (by simp)
   cases hlk:linkF r (t,j+1) (s,j) with
   | stop r2=>rw [hlk] at hL;exact hL
   | ok v =>
    obtain ⟨r1,f1⟩:=v;rw [hlk] at hL;obtain ⟨i1,g1,m1⟩:=hL;dsimp only;have hR:=shiftsF_law hb l r1 (fun t ht=>g1.nodeIn (hl t (by simp [ht]))) i1
    cases hr:shiftsF T j b l r1 with
    | stop r2=>rw [hr] at hR;exact hR
    | ok r2 =>
     rw [hr] at hR;obtain ⟨i2,⟨g,g2⟩,d2⟩:=hR;refine ⟨i2,⟨_,g1.trans g2⟩,fun u hu v hv=>?_⟩
     rcases List.mem_cons.1 hu with rfl | hu
     ·rw [ht] at hv;cases hv;exact g2.edgeIn m1
     ·exact d2 u hu v hv
theorem way_old {T:Tab} {w:List UInt8} {B j:Nat} {r r':Rn} {f:Bool} (hI:Inv T w B r') (hg:Grow j r r' f) :
  ∀ {n:Nat} {x y:Nd} {c:List Nat},x.2<j->Way (eP r'.edges) n x y c->Way (eP r.edges) n x y c
 | 0,_,_,_,_,h=>h
 | n+1,x,y,c,hx,⟨z,d,h1,h2,h3⟩=>by
  have hz:z.2<=x.2:=(hI.ends (x,z) h1).2.2;refine ⟨z,d,?_,way_old hI hg (Nat.lt_of_le_of_lt hz hx) h2,h3⟩;obtain ⟨l,e1,e2⟩:=hg.edges;unfold eP at h1;rw [e1] at h1
  rcases List.mem_append.1 h1 with h1 | h1
  ·exact h1
  ·have:=e2 _ h1;simp only at this;omega
theorem DoneAt.grow {T:Tab} {w:List UInt8} {B j:Nat} {r r':Rn} {f:Bool} {x:Nd} (h:DoneAt T r x) (hI:Inv T w B r') (hg:Grow j r r' f) (hx:x.2<j):DoneAt T r' x:=by
 intro p hp y hy;have h1:=h p hp y (waysF_mem.2 (way_old hI hg hx (waysF_mem.1 hy)));exact ⟨hg.altIn h1.1,fun t ht=>hg.edgeIn (h1.2 t ht)⟩
structure Upto (T:Tab) (w:List UInt8) (k:Nat) (r:Rn):Prop where
 done:∀ x∈r.nodes,x.2<k->DoneAt T r x
 shift:∀ x∈r.nodes,x.2<k->∀ b t,w[x.2]?=some b->T.shift x.1 b=some t->((t,x.2+1),x)∈r.edges
 places:∀ x∈r.nodes,x.2<=k /\ x.2<=w.length
 start:(0,0)∈r.nodes
theorem placeF_law {T:Tab} {w:List UInt8} {B j:Nat} {r:Rn} (hw:j<=w.length) (hI:Inv T w B r) (hU:Upto T w j r) :
  match placeF T w j r with
  | .stop _=>Above T w B
  | .ok r'=>Inv T w B r' /\ Upto T w (j+1) r':=by
 unfold placeF;have hA:=againF_law hw (r.left+1) r (Nat.lt_succ_self _) hI
 cases ha:againF T j (r.left+1) r with
 | stop r1=>rw [ha] at hA;exact hA
 | ok r1 =>
  rw [ha] at hA;obtain ⟨i1,⟨f,g1⟩,d1⟩:=hA;dsimp only;have hold:∀ x∈r1.nodes,x.2<j->x∈r.nodes:=fun x hx hlt=>by
   obtain ⟨n,e1,e2⟩:=g1.nodes;rw [e1] at hx
   rcases List.mem_append.1 hx with hx | hx
   ·exact hx
   ·have:=e2 x hx;omega
  have hpl:∀ x∈r1.nodes,x.2<=j /\ x.2<=w.length:=fun x hx=>by
   obtain ⟨n,e1,e2⟩:=g1.nodes;rw [e1] at hx
   rcases List.mem_append.1 hx with hx | hx
   ·exact hU.places x hx
   ·have:=e2 x hx;omega
  have hdone:∀ x∈r1.nodes,x.2<=j->DoneAt T r1 x:=fun x hx hle=>by
   by_cases he:x.2=j
   ·obtain ⟨s,i⟩:=x;simp only at he;subst he;exact d1 s hx
   ·exact (hU.done x (hold x hx (by omega)) (by omega)).grow i1 g1 (by omega)
  cases hb:w[j]? with
  | none =>
   dsimp only;have hj:w.length<=j:=List.getElem?_eq_none_iff.1 hb;refine ⟨i1,⟨fun x hx hlt=>hdone x hx (by omega),fun x hx hlt b t hb' ht=>?_,fun x hx=>⟨by have:=hpl x hx;omega,(hpl x hx).2⟩,g1.nodeIn hU.start⟩⟩
   by_cases he:x.2=j
   ·rw [he,hb] at hb';cases hb'
   ·exact g1.edgeIn (hU.shift x (hold x hx (by omega)) (by omega) b t hb' ht)
  | some b =>
   dsimp only;have hjl:j<w.length:=by
    rcases Nat.lt_or_ge j w.length with h | h
    ·exact h
    ·rw [List.getElem?_eq_none h] at hb;cases hb
   have hS:=shiftsF_law hb (rowF r1 j) r1 (fun s hs=>rowF_mem.1 hs) i1
   cases hs:shiftsF T j b (rowF r1 j) r1 with
   | stop r2=>rw [hs] at hS;exact hS
   | ok r2 =>
    rw [hs] at hS;obtain ⟨i2,⟨g,g2⟩,d2⟩:=hS;have hold2:∀ x∈r2.nodes,x.2<j+1->x∈r1.nodes:=fun x hx hlt=>by
     obtain ⟨n,e1,e2⟩:=g2.nodes;rw [e1] at hx
     rcases List.mem_append.1 hx with hx | hx
     ·exact hx
     ·have:=e2 x hx;omega
    refine ⟨i2,⟨fun x hx hlt=>(hdone x (hold2 x hx hlt) (by omega)).grow i2 g2 hlt,fun x hx hlt c t hc ht=>?_,fun x hx=>?_,g2.nodeIn (g1.nodeIn hU.start)⟩⟩
    ·have hx1:=hold2 x hx hlt
     by_cases he:x.2=j
     ·obtain ⟨s,i⟩:=x;simp only at he hc ht hx1;subst he;rw [hb] at hc
      cases hc
      exact d2 s (rowF_mem.2 hx1) t ht
     ·exact g2.edgeIn (g1.edgeIn (hU.shift x (hold x hx1 (by omega)) (by omega) c t hc ht))
    ·obtain ⟨n,e1,e2⟩:=g2.nodes;rw [e1] at hx
     rcases List.mem_append.1 hx with hx | hx
     ·have:=hpl x hx;omega
     ·have:=e2 x hx;omega
theorem closed_of {T:Tab} {w:List UInt8} {B k:Nat} {r:Rn} (hI:Inv T w B r) (hU:Upto T w k r) (hk:∀ x∈r.nodes,x.2<k) :
  Closed T w (·∈r.nodes) (eP r.edges) (·∈r.alts) where
 start:=hU.start
 node:=fun x y h=>(hI.ends (x,y) h).1
 shift:=fun s i b t h1 h2 h3=>hU.shift (s,i) h1 (hk _ h1) b t h2 h3
 alt:=fun s j p y c h1 h2 h3 h4=>(hU.done (s,j) h1 (hk _ h1) p h3 (y,c) (waysF_mem.2 h4)).1
 goto_:=fun s j p y c t h1 h2 h3 h4 h5=>(hU.done (s,j) h1 (hk _ h1) p h3 (y,c) (waysF_mem.2 h4)).2 t h5
theorem goneGo_law {T:Tab} {w:List UInt8} {B:Nat}:∀ (k j:Nat) (r:Rn),j+k=w.length+1->Inv T w B r->Upto T w j r ->
  match goneGo T w k j r with
  | .stop _=>Above T w B
  | .ok r'=>Inv T w B r' /\ Closed T w (·∈r'.nodes) (eP r'.edges) (·∈r'.alts) /\ ∀ x∈r'.nodes,x.2<=w.length
 | 0,j,r,hj,hI,hU=>⟨hI,closed_of hI hU (fun x hx=>by have:=hU.places x hx;omega),fun x hx=>(hU.places x hx).2⟩
 | k+1,j,r,hj,hI,hU=>by
  rw [goneGo]
  by_cases he:rowF r j=[]
  ·rw [if_pos he];refine ⟨hI,closed_of hI hU (fun x hx=>?_),fun x hx=>(hU.places x hx).2⟩;have h1:=hU.places x hx
   rcases Nat.lt_or_ge x.2 j with h | h
   ·exact h
   ·have h2:x.2=j:=by omega
    obtain ⟨s,i⟩:=x;simp only at h2;subst h2;have:=rowF_mem.2 hx;rw [he] at this;cases this
  ·rw [if_neg he];have hP:=placeF_law (by omega:j<=w.length) hI hU
   cases hp:placeF T w j r with
   | stop r1=>rw [hp] at hP;exact hP
   | ok r1 =>
    rw [hp] at hP;exact goneGo_law k (j+1) r1 (by omega) hP.1 hP.2
theorem goneF_law (T:Tab) (w:List UInt8) (B:Nat) :
  match goneF T w B with
  | .stop _=>Above T w B
  | .ok r=>r.nodes.Nodup /\ r.edges.Nodup /\ r.alts.Nodup /\ r.left+r.edges.length+r.alts.length=B /\ (∀ x,x∈r.nodes↔LN T w x) /\ (∀ x y,(x,y)∈r.edges↔LE T w x y) /\ (∀ a,a∈r.alts↔LA T w a) /\ (∀ x∈r.nodes,x.2<=w.length) /\ ∀ e∈r.edges,e.1∈r.nodes /\ e.2∈r.nodes /\ e.2.2<=e.1.2:=by
 have h0:Inv T w B (newF B):=⟨by simp [newF],by simp [newF],by simp [newF],by simp [newF],fun x hx=>by
  simp only [newF,List.mem_singleton] at hx;subst hx;exact (least_closed T w).start,fun e he=>by simp [newF] at he,fun e he=>by simp [newF] at he,fun e he=>by simp [newF] at he⟩
 have hU:Upto T w 0 (newF B):=⟨fun x hx h=>by omega,fun x hx h=>by omega,fun x hx=>by simp only [newF,List.mem_singleton] at hx;subst hx;simp,by simp [newF]⟩;have h:=goneGo_law (w.length+1) 0 (newF B) (by omega) h0 hU;unfold goneF
 cases hg:goneGo T w (w.length+1) 0 (newF B) with
 | stop r=>rw [hg] at h;exact h
 | ok r =>
  rw [hg] at h;obtain ⟨hI,hC,hp⟩:=h;exact ⟨hI.nd,hI.ed,hI.ad,hI.tot,fun x=>⟨hI.sn x,fun k=>k _ _ _ hC⟩,fun x y=>⟨hI.se (x,y),fun k=>k _ _ _ hC⟩,fun a=>⟨hI.sa a,fun k=>k _ _ _ hC⟩,hp,hI.ends⟩
end Go.Proofs.YthiochcpmfkgcaaGreatDoor.Gl
namespace Go.Proofs.YthiochcpmfkgcaaGreatDoor.Tb
theorem numberF_at {all all':List (List It)} {l:List It} {n:Nat} (h:numberF all l=some (n,all')):all'[n]?=some l /\ (all'=all∨n=all.length /\ all'=all++[l]):=by
 unfold numberF at h
 cases hf:all.findIdx? (·==l) with
 | some k =>
  rw [hf] at h;simp at h;obtain ⟨rfl,rfl⟩:=h;obtain ⟨hk,hp,_⟩:=List.findIdx?_eq_some_iff_getElem.1 hf;refine ⟨?_,.inl rfl⟩;rw [gE hk];have:all[k]=l:=by simpa using hp
  rw [this]
 | none =>
  rw [hf] at h;dsimp only at h
  split at h
  ·cases h
  ·injection h with h
   injection h with h1 h2;subst h1;subst h2;exact ⟨by simp,.inr ⟨rfl,rfl⟩⟩
theorem numbersF_at:∀ (L:List (Sy × List It)) (all all':List (List It)) (e:List (Sy × Nat)),numbersF all L=some (e,all') ->
  e.length=L.length /\ (∀ (k:Nat) (sy:Sy) (K:List It),L[k]?=some (sy,K)->∃ n,e[k]?=some (sy,n) /\ all'[n]?=some K) /\ (∃ t,all'=all++t) /\ ∀ j,all.length<=j->j<all'.length->∃ x∈e,x.2=j
 | [],all,all',e,h=>by
  simp [numbersF] at h;obtain ⟨rfl,rfl⟩:=h;exact ⟨rfl,(fun k sy K hk=>by simp at hk),⟨[],by simp⟩,fun j h1 h2=>by omega⟩
 | (s,l)::L,all,all',e,h=>by
  rw [numbersF] at h
  cases h1:numberF all l with
  | none=>rw [h1] at h;cases h
  | some r =>
   obtain ⟨n,a1⟩:=r;rw [h1] at h;dsimp only at h
   cases h2:numbersF a1 L with
   | none=>rw [h2] at h;cases h
   | some r =>
    obtain ⟨e2,a2⟩:=r;rw [h2] at h;simp at h;obtain ⟨rfl,rfl⟩:=h;obtain ⟨p1,p2⟩:=numberF_at h1;obtain ⟨q1,q2,⟨t,q3⟩,q4⟩:=numbersF_at L a1 a2 e2 h2;have hlt:n<a1.length:=(gS.1 p1).1;refine ⟨by simp [q1],?_,?_,?_⟩
    ·intro k sy K hk
     cases k with
     | zero =>
      simp at hk;obtain ⟨rfl,rfl⟩:=hk;refine ⟨n,by simp,?_⟩;rw [q3,List.getElem?_append_left hlt];exact p1
     | succ k =>
      simp at hk;obtain ⟨m,h3,h4⟩:=q2 k sy K hk;exact ⟨m,by simpa using h3,h4⟩
    ·rcases p2 with rfl | ⟨_,rfl⟩
     ·exact ⟨t,q3⟩
     ·exact ⟨l::t,by rw [q3];simp⟩
    ·intro j h3 h4
     rcases p2 with rfl | ⟨rfl,rfl⟩
     ·obtain ⟨x,hx,hj⟩:=q4 j h3 h4;exact ⟨x,by simp [hx],hj⟩
     ·by_cases hj:j=all.length
      ·exact ⟨(s,all.length),by simp,hj.symm⟩
      ·obtain ⟨x,hx,hj⟩:=q4 j (by simp;omega) h4;exact ⟨x,by simp [hx],hj⟩
structure StLaw (g:Gr) (fin:List (List It)) (s:St):Prop where
 done:s.done=doneF g s.items
 len:s.edges.length=(leadsF g s.items).length
 edge:∀ (k:Nat) (sy:Sy) (K:List It),(leadsF g s.items)[k]?=some (sy,K)->∃ m,s.edges[k]?=some (sy,m) /\ fin[m]?=some K
theorem statesGo_law (g:Gr):∀ (f n:Nat) (all:List (List It)) (l:List St),statesGo g f n all=some l->all.Nodup->all.length<=16384->n<=all.length->16384<f+n ->
  ∃ fin:List (List It),(∃ t,fin=all++t) /\ fin.Nodup /\ l.map (·.items)=fin.drop n /\ (∀ s∈l,StLaw g fin s) /\ ∀ j,all.length<=j->j<fin.length->∃ (i:Nat) (s:St),n+i<j /\ l[i]?=some s /\ ∃ e∈s.edges,e.2=j
 | 0,n,all,l,h,hn,hl,hle,hf=>by omega
 | f+1,n,all,l,h,hn,hl,hle,hf=>by
  rw [statesGo] at h
  cases hx:all[n]? with
  | none =>
   rw [hx] at h;simp at h;subst h;have:all.length<=n:=List.getElem?_eq_none_iff.1 hx;exact ⟨all,⟨[],by simp⟩,hn,by simp [List.drop_eq_nil_of_le this],(fun s hs=>by cases hs),fun j h1 h2=>by omega⟩
  | some y =>
   rw [hx] at h;dsimp only at h;have hlt:n<all.length:=(gS.1 hx).1
   cases h1:numbersF all (leadsF g y) with
   | none=>rw [h1] at h;cases h
   | some r =>
    obtain ⟨e,a1⟩:=r;rw [h1] at h;dsimp only at h;obtain ⟨n1,l1,_,_,_⟩:=numbersF_some _ _ _ _ h1 hn hl;obtain ⟨p1,p2,⟨t1,p3⟩,p4⟩:=numbersF_at _ _ _ _ h1
    cases h2:statesGo g f (n+1) a1 with
    | none=>rw [h2] at h;cases h
    | some r =>
     rw [h2] at h;simp at h;subst h;obtain ⟨fin,⟨t2,f1⟩,f2,f3,f4,f5⟩:=statesGo_law g f (n+1) a1 r h2 n1 l1 (by rw [p3];simp;omega) (by omega);have hfx:fin[n]?=some y:=by rw [f1,p3,List.append_assoc,List.getElem?_append_left hlt];exact hx
     have hfl:n<fin.length:=(gS.1 hfx).1;refine ⟨fin,⟨t1++t2,by rw [f1,p3,List.append_assoc]⟩,f2,?_,?_,?_⟩
     ·rw [List.map_cons,f3,List.drop_eq_getElem_cons hfl];congr 1;rw [gE hfl] at hfx;injection hfx with hfx;exact hfx.symm
     ·intro s hs
      rcases List.mem_cons.1 hs with rfl | hs
      ·refine ⟨rfl,p1,fun k sy K hk=>?_⟩;obtain ⟨m,q1,q2⟩:=p2 k sy K hk;refine ⟨m,q1,?_⟩;rw [f1,List.getElem?_append_left (gS.1 q2).1];exact q2
      ·exact f4 s hs
     ·intro j hj1 hj2
      by_cases hj:j<a1.length
      ·obtain ⟨x,hx1,hx2⟩:=p4 j hj1 hj;exact ⟨0,_,by omega,rfl,x,hx1,hx2⟩
      ·obtain ⟨i,s,q1,q2,q3⟩:=f5 j (by omega) hj2;exact ⟨i+1,s,by omega,by simpa using q2,q3⟩
structure MadeLaw (g:Gr) (l:List St):Prop where
 nodup:(l.map (·.items)).Nodup
 start:∃ s,l[0]?=some s /\ s.items=closedF g ((ofS g g.start).map (·,0))
 state:∀ s∈l,StLaw g (l.map (·.items)) s
 led:∀ j,1<=j->j<l.length->∃ (i:Nat) (s:St),i<j /\ l[i]?=some s /\ ∃ e∈s.edges,e.2=j
theorem makeF_law {g:Gr} {l:List St} (h:makeF g=some l):MadeLaw g l:=by
 unfold makeF at h;obtain ⟨fin,⟨t,f1⟩,f2,f3,f4,f5⟩:=statesGo_law g 16385 0 _ l h (by simp) (by simp) (Nat.zero_le _) (by decide);rw [List.drop_zero] at f3;subst f3;have hlen:(l.map (·.items)).length=l.length:=by simp
 refine ⟨f2,?_,f4,?_⟩
 ·have h0:(l.map (·.items))[0]?=some (closedF g ((ofS g g.start).map (·,0))):=by rw [f1];simp
  rw [List.getElem?_map] at h0
  cases hs:l[0]? with
  | none=>rw [hs] at h0;cases h0
  | some s=>rw [hs] at h0;simp at h0;exact ⟨s,rfl,h0⟩
 ·intro j h1 h2;obtain ⟨i,s,q1,q2,q3⟩:=f5 j (by simpa using h1) (by rw [hlen];exact h2);exact ⟨i,s,by omega,q2,q3⟩
theorem addF_keep {next:List Nat} {x y:Nat} (h:y∈next):y∈addF next x:=by
 unfold addF
 split
 ·exact h
 ·exact List.mem_append_left _ h
theorem addF_new {next:List Nat} {x:Nat} (h:x≠0):x∈addF next x:=by
 unfold addF
 split
 ·rename_i hc
  rcases hc with hc | hc
  ·exact absurd hc h
  ·exact hc
 ·simp
theorem cut_fold_mem (s:Nat):∀ (l next:List Nat) (y:Nat),y∈l.foldl (fun next p=>cutF next p s) next->y∈next∨∃ p∈l,y=p &&& s∨y=p &&& (2 ^ 256 - 1 - s)
 | [],_,_,h=>.inl h
 | p::l,next,y,h=>by
  rw [List.foldl_cons] at h
  rcases cut_fold_mem s l _ y h with h | ⟨q,hq,h⟩
  ·rw [cutF_eq] at h
   rcases addF_mem h with h | h
   ·rcases addF_mem h with h | h
    ·exact .inl h
    ·exact .inr ⟨p,by simp,.inl h⟩
   ·exact .inr ⟨p,by simp,.inr h⟩
  ·exact .inr ⟨q,by simp [hq],h⟩
theorem cut_fold_keep (s:Nat):∀ (l next:List Nat) (y:Nat),y∈next->y∈l.foldl (fun next p=>cutF next p s) next
 | [],_,_,h=>h
 | p::l,next,y,h=>by
  rw [List.foldl_cons];exact cut_fold_keep s l _ y (by rw [cutF_eq];exact addF_keep (addF_keep h))
theorem cut_fold_new (s:Nat):∀ (l next:List Nat) (p:Nat),p∈l->(p &&& s≠0->p &&& s∈l.foldl (fun next p=>cutF next p s) next) /\ (p &&& (2 ^ 256 - 1 - s)≠0->p &&& (2 ^ 256 - 1 - s)∈l.foldl (fun next p=>cutF next p s) next)
 | [],_,_,h=>by cases h
 | q::l,next,p,h=>by
  rw [List.foldl_cons]
  rcases List.mem_cons.1 h with rfl | h
  ·exact ⟨fun h=>cut_fold_keep s l _ _ (by rw [cutF_eq];exact addF_keep (addF_new h)),fun h=>cut_fold_keep s l _ _ (by rw [cutF_eq];exact addF_new h)⟩
  ·exact cut_fold_new s l _ p h
def Sub (a b:Nat):Prop:=∀ i,a.testBit i=true->b.testBit i=true
theorem within_sub (a b:Nat):withinF a b=true↔Sub a b:=by
 unfold withinF Sub
 constructor
 ·intro h i hi;have h:=of_decide_eq_true h;rw [<- h,Nat.testBit_and] at hi;simp at hi;exact hi.2
 ·intro h;refine decide_eq_true (Nat.eq_of_testBit_eq fun i=>?_);rw [Nat.testBit_and]
  cases ha:a.testBit i with
  | false=>rfl
  | true=>rw [h i ha];rfl
def Pure (a b:Nat):Prop:=Sub a b∨a &&& b=0
theorem Pure.sub {a c b:Nat} (h:Pure a b) (hc:Sub c a):Pure c b:=by
 rcases h with h | h
 ·exact .inl fun i hi=>h i (hc i hi)
 ·refine .inr ((apart_iff _ _).2 fun i hi=>?_);exact (apart_iff _ _).1 h i ⟨hc i hi.1,hi.2⟩
theorem splitStep_sub {parts:List Nat} {s y:Nat} (hs:s<2 ^ 256) (hp:∀ p∈parts,p<2 ^ 256) (h:y∈splitStep parts s):Pure y s /\ ∃ p∈parts,Sub y p:=by
 rw [splitStep_eq] at h
 rcases cut_fold_mem s parts [] y h with h | ⟨p,hpm,h | h⟩
 ·cases h
 ·subst h;exact ⟨.inl fun i hi=>by rw [Nat.testBit_and] at hi;simp at hi;exact hi.2,p,hpm,fun i hi=>by rw [Nat.testBit_and] at hi;simp at hi;exact hi.1⟩
 ·subst h;refine ⟨.inr ((apart_iff _ _).2 fun i hi=>?_),p,hpm,fun i hi=>?_⟩
  ·rw [without_bit p s i hs (hp p hpm)] at hi;simp at hi;rw [hi.1.2] at hi;simp at hi
  ·rw [without_bit p s i hs (hp p hpm)] at hi;simp at hi;exact hi.1
theorem splitStep_cover {parts:List Nat} {s i:Nat} (hs:s<2 ^ 256) (hp:∀ p∈parts,p<2 ^ 256) (h:∃ p∈parts,p.testBit i=true):∃ p∈splitStep parts s,p.testBit i=true:=by
 obtain ⟨p,hpm,hb⟩:=h;obtain ⟨h1,h2⟩:=cut_fold_new s parts [] p hpm;have nz:∀ x:Nat,x.testBit i=true->x≠0:=fun x hx e=>by rw [e,Nat.zero_testBit] at hx;cases hx
 cases hsb:s.testBit i with
 | true =>
  have hx:(p &&& s).testBit i=true:=by rw [Nat.testBit_and,hb,hsb];rfl
  exact ⟨_,by rw [splitStep_eq];exact h1 (nz _ hx),hx⟩
 | false =>
  have hx:(p &&& (2 ^ 256 - 1 - s)).testBit i=true:=by rw [without_bit p s i hs (hp p hpm),hb,hsb];rfl
  exact ⟨_,by rw [splitStep_eq];exact h2 (nz _ hx),hx⟩
theorem split_all:∀ (l parts done:List Nat),(∀ s∈l,s<2 ^ 256)->Parts parts->(∀ p∈parts,∀ s∈done,Pure p s)->(∀ i,i<256->∃ p∈parts,p.testBit i=true) ->
  (∀ p∈l.foldl splitStep parts,∀ s,s∈done∨s∈l->Pure p s) /\ ∀ i,i<256->∃ p∈l.foldl splitStep parts,p.testBit i=true
 | [],parts,done,_,_,h1,h2=>⟨fun p hp s hs=>(hs.elim (fun hs=>h1 p hp s hs) (fun hs=>by cases hs)),h2⟩
 | t::l,parts,done,hl,hp,h1,h2=>by
  have ht:=hl t (by simp);have hlt:∀ p∈parts,p<2 ^ 256:=fun p h=>(hp.1 p h).2
  obtain ⟨a,b⟩:=split_all l (splitStep parts t) (t::done) (fun s hs=>hl s (by simp [hs])) (splitStep_parts ht hp)
   (fun p hpm s hs=>by
    obtain ⟨q1,q,q2,q3⟩:=splitStep_sub ht hlt hpm
    rcases List.mem_cons.1 hs with rfl | hs
    ·exact q1
    ·exact (h1 q q2 s hs).sub q3)
   (fun i hi=>splitStep_cover ht hlt (h2 i hi))
  refine ⟨fun p hpm s hs=>a p hpm s ?_,b⟩
  rcases hs with hs | hs
  ·exact .inl (by simp [hs])
  ·rcases List.mem_cons.1 hs with rfl | hs
   ·exact .inl (by simp)
   ·exact .inr hs
theorem splitF_law {l:List Nat} (h:∀ s∈l,s<2 ^ 256):(∀ p∈splitF l,∀ s∈l,Pure p s) /\ ∀ i,i<256->∃ p∈splitF l,p.testBit i=true:=by
 obtain ⟨a,b⟩:=split_all l [2 ^ 256 - 1] [] h full_parts (fun p _ s hs=>by cases hs) (fun i hi=>⟨2 ^ 256 - 1,List.mem_singleton.2 rfl,by rw [Nat.testBit_two_pow_sub_one];exact decide_eq_true hi⟩);unfold splitF;refine ⟨fun p hp s hs=>a p ((sortSet_perm _).mem_iff.1 hp) s (.inr hs),fun i hi=>?_⟩;obtain ⟨p,h1,h2⟩:=b i hi;exact ⟨p,(sortSet_perm _).mem_iff.2 h1,h2⟩
theorem closeGo_keep (g:Gr):∀ (f i:Nat) (seen:List Int) (out:List It) (x:It),x∈out->x∈closeGo g f i seen out
 | 0,_,_,_,_,h=>h
 | f+1,i,seen,out,x,h=>by
  cases ho:out[i]? with
  | none=>rw [closeGo,ho];exact h
  | some y =>
   rw [closeGo_step _ _ _ _ _ _ ho];refine closeGo_keep g f _ _ _ x ?_;unfold closeOut
   split
   ·split
    ·exact List.mem_append_left _ h
    ·exact h
   ·exact h
theorem compactIt_mem':∀ (l:List It) (x:It),x∈l->x∈compactIt l
 | [],x,h=>h
 | [y],x,h=>h
 | y::z::t,x,h=>by
  rw [compactIt_cons]
  split
  ·rename_i e
   rcases List.mem_cons.1 h with rfl | h
   ·exact compactIt_mem' (z::t) x (by rw [e];simp)
   ·exact compactIt_mem' (z::t) x h
  ·rcases List.mem_cons.1 h with rfl | h
   ·simp
   ·exact List.mem_cons_of_mem _ (compactIt_mem' (z::t) x h)
theorem closedF_keep (g:Gr) (l:List It) (x:It) (h:x∈l):x∈closedF g l:=by
 unfold closedF;exact compactIt_mem' _ _ ((sortIt_perm _).mem_iff.2 (closeGo_keep g _ _ _ _ x h))
theorem setsOf_mem {g:Gr} {l:List It} {x:It} {y:Sy} (hx:x∈l) (hy:aheadF g x=some y) (hk:y.kind=0):y.set∈setsOf g l:=by
 unfold setsOf;exact List.mem_filterMap.2 ⟨x,hx,by rw [hy];simp [hk]⟩
theorem setsOf_from {g:Gr} {l:List It} {c:Nat} (h:c∈setsOf g l):∃ x∈l,∃ y,aheadF g x=some y /\ y.kind=0 /\ y.set=c:=by
 unfold setsOf at h;obtain ⟨x,hx,e⟩:=List.mem_filterMap.1 h
 cases hy:aheadF g x with
 | none=>rw [hy] at e;cases e
 | some y =>
  rw [hy] at e;simp at e;exact ⟨x,hx,y,hy,e⟩
theorem movedSet_mem {g:Gr} {l:List It} {c:Nat} {x:It} {y:Sy} (hx:x∈l) (hy:aheadF g x=some y) (hk:y.kind=0) (hw:withinF c y.set=true):(x.1,x.2+1)∈movedSet g l c:=by
 unfold movedSet;exact List.mem_map.2 ⟨x,List.mem_filter.2 ⟨hx,by rw [hy];simp [hk,hw]⟩,rfl⟩
theorem insInt_mem (x:Int) (l:List Int) (y:Int):y∈l.foldr insInt []↔y∈l:=(sortInt_perm l).mem_iff
theorem sortStep_keep (g:Gr):∀ (l:List It) (o:List Int) (x:Int),x∈o->x∈l.foldl (sortStep g) o
 | [],o,x,h=>h
 | y::t,o,x,h=>by
  rw [List.foldl_cons];refine sortStep_keep g t _ x ?_;unfold sortStep
  split
  ·split
   ·exact List.mem_append_left _ h
   ·exact h
  ·exact h
theorem sortStep_new (g:Gr):∀ (l:List It) (o:List Int) (x:It) (y:Sy),x∈l->aheadF g x=some y->y.kind=1->y.sort∈l.foldl (sortStep g) o
 | [],o,x,y,h,_,_=>by cases h
 | z::t,o,x,y,h,hy,hk=>by
  rw [List.foldl_cons]
  rcases List.mem_cons.1 h with rfl | h
  ·refine sortStep_keep g t _ _ ?_;unfold sortStep;rw [hy]
   by_cases hm:y.sort∈o
   ·simp [hk,hm]
   ·simp [hk,hm]
  ·exact sortStep_new g t _ x y h hy hk
theorem movedSort_mem {g:Gr} {l:List It} {x:It} {y:Sy} (hx:x∈l) (hy:aheadF g x=some y) (hk:y.kind=1):(x.1,x.2+1)∈movedSort g l y.sort:=by
 unfold movedSort;exact List.mem_map.2 ⟨x,List.mem_filter.2 ⟨hx,by rw [hy];simp [hk]⟩,rfl⟩
theorem leadsF_sort {g:Gr} {l:List It} {e:Sy × List It} (h:e∈leadsF g l) (hk:e.1.kind=1):e.2=closedF g (movedSort g l e.1.sort) /\ e.1=⟨1,0,e.1.sort⟩ /\ e.1.sort∈sortsOf g l:=by
 unfold leadsF at h
 rcases List.mem_append.1 h with h | h
 ·obtain ⟨s,hs,rfl⟩:=List.mem_map.1 h;exact ⟨rfl,rfl,hs⟩
 ·obtain ⟨c,hc,e1⟩:=List.mem_filterMap.1 h
  split at e1
  ·cases e1
  ·injection e1 with e1
   subst e1;exact absurd hk (by simp)
theorem leadsF_set {g:Gr} {l:List It} {e:Sy × List It} (h:e∈leadsF g l) (hk:e.1.kind=0):e.2=closedF g (movedSet g l e.1.set) /\ e.1=⟨0,e.1.set,0⟩ /\ e.1.set∈splitF (setsOf g l) /\ movedSet g l e.1.set≠[]:=by
 unfold leadsF at h
 rcases List.mem_append.1 h with h | h
 ·obtain ⟨s,hs,rfl⟩:=List.mem_map.1 h;exact absurd hk (by simp)
 ·obtain ⟨c,hc,e1⟩:=List.mem_filterMap.1 h
  split at e1
  ·cases e1
  ·rename_i hne;injection e1 with e1;subst e1;exact ⟨rfl,rfl,hc,fun h=>hne (by rw [h];rfl)⟩
theorem leadsF_kind {g:Gr} {l:List It} {e:Sy × List It} (h:e∈leadsF g l):e.1.kind=0∨e.1.kind=1:=by
 unfold leadsF at h
 rcases List.mem_append.1 h with h | h
 ·obtain ⟨s,hs,rfl⟩:=List.mem_map.1 h;exact .inr rfl
 ·obtain ⟨c,hc,e1⟩:=List.mem_filterMap.1 h
  split at e1
  ·cases e1
  ·injection e1 with e1
   subst e1;exact .inl rfl
def SetsOk (g:Gr):Prop:=∀ x y,aheadF g x=some y->y.kind=0->y.set<2 ^ 256
theorem setsOf_ok {g:Gr} (hg:SetsOk g) (l:List It):∀ s∈setsOf g l,s<2 ^ 256:=fun s hs=>by
 obtain ⟨x,_,y,h1,h2,rfl⟩:=setsOf_from hs;exact hg x y h1 h2
theorem leads_byte {g:Gr} (hg:SetsOk g) {l:List It} {x:It} {y:Sy} (hx:x∈l) (hy:aheadF g x=some y) (hk:y.kind=0) {b:Nat} (hb:y.set.testBit b=true) :
  (∃ e∈leadsF g l,e.1.kind=0 /\ e.1.set.testBit b=true) /\ ∀ e∈leadsF g l,e.1.kind=0->e.1.set.testBit b=true->(x.1,x.2+1)∈e.2:=by
 obtain ⟨h1,h2⟩:=splitF_law (setsOf_ok hg l);have hlt:=hg x y hy hk;have hb256:b<256:=by
  rcases Nat.lt_or_ge b 256 with h | h
  ·exact h
  ·rw [Nat.testBit_lt_two_pow (nL hlt (Nat.pow_le_pow_right (by omega) h))] at hb;cases hb
 have hwi:∀ c∈splitF (setsOf g l),c.testBit b=true->(x.1,x.2+1)∈movedSet g l c:=fun c hc hcb=>by
  refine movedSet_mem hx hy hk ((within_sub _ _).2 ?_)
  rcases h1 c hc y.set (setsOf_mem hx hy hk) with h | h
  ·exact h
  ·exact absurd ⟨hcb,hb⟩ ((apart_iff _ _).1 h b)
 constructor
 ·obtain ⟨c,hc,hcb⟩:=h2 b hb256;have hm:=hwi c hc hcb;refine ⟨(⟨0,c,0⟩,closedF g (movedSet g l c)),?_,rfl,hcb⟩;unfold leadsF;refine List.mem_append_right _ (List.mem_filterMap.2 ⟨c,hc,?_⟩);rw [if_neg];intro h;rw [List.isEmpty_iff.1 h] at hm
  cases hm
 ·intro e he h0 h3;obtain ⟨e1,e2,e3,e4⟩:=leadsF_set he h0;rw [e1];exact closedF_keep g _ _ (hwi _ e3 h3)
theorem leads_sort {g:Gr} {l:List It} {x:It} {y:Sy} (hx:x∈l) (hy:aheadF g x=some y) (hk:y.kind=1) :
  (∃ e∈leadsF g l,e.1.kind=1 /\ e.1.sort=y.sort) /\ ∀ e∈leadsF g l,e.1.kind=1->e.1.sort=y.sort->(x.1,x.2+1)∈e.2:=by
 constructor
 ·refine ⟨(⟨1,0,y.sort⟩,closedF g (movedSort g l y.sort)),?_,rfl,rfl⟩;unfold leadsF;refine List.mem_append_left _ (List.mem_map.2 ⟨y.sort,?_,rfl⟩);unfold sortsOf;exact (insInt_mem 0 _ _).2 (sortStep_new g l [] x y hx hy hk)
 ·intro e he h0 h3;obtain ⟨e1,_,_⟩:=leadsF_sort he h0;rw [e1,h3];exact closedF_keep g _ _ (movedSort_mem hx hy hk)
theorem StLaw.edges {g:Gr} {fin:List (List It)} {s:St} (h:StLaw g fin s) {e:Sy × Nat} (he:e∈s.edges):∃ K,(e.1,K)∈leadsF g s.items /\ fin[e.2]?=some K:=by
 obtain ⟨k,hk⟩:=List.getElem?_of_mem he;have hkl:k<(leadsF g s.items).length:=by rw [<- h.len];exact (gS.1 hk).1
 obtain ⟨m,h1,h2⟩:=h.edge k _ _ (gE hkl);rw [hk] at h1;injection h1 with h1;subst h1;exact ⟨_,List.getElem_mem hkl,h2⟩
theorem StLaw.leads {g:Gr} {fin:List (List It)} {s:St} (h:StLaw g fin s) {e:Sy × List It} (he:e∈leadsF g s.items):∃ m,(e.1,m)∈s.edges /\ fin[m]?=some e.2:=by
 obtain ⟨k,hk⟩:=List.getElem?_of_mem he;obtain ⟨m,h1,h2⟩:=h.edge k e.1 e.2 hk;exact ⟨m,gM h1,h2⟩
theorem next_fold (b:Nat):∀ (l:List (Sy × Nat)) (a:Nat),(l.foldl (fun a x=>if x.1.kind=0 then a ||| x.1.set else a) a).testBit b=(a.testBit b || l.any fun x=>x.1.kind==0&&x.1.set.testBit b)
 | [],a=>by simp
 | x::l,a=>by
  rw [List.foldl_cons,next_fold b l,List.any_cons]
  by_cases h:x.1.kind=0
  ·simp [h,Bool.or_assoc]
  ·have h2:(x.1.kind==0)=false:=by simpa using h
   rw [if_neg h,h2];simp
theorem nextF_bit (l:List (Sy × Nat)) (b:Nat):(nextF l).testBit b=l.any fun x=>x.1.kind==0&&x.1.set.testBit b:=by
 unfold nextF;rw [next_fold];simp
end Go.Proofs.YthiochcpmfkgcaaGreatDoor.Tb
namespace Go.Proofs.YthiochcpmfkgcaaGreatDoor.Tb
def ClosedS (g:Gr) (S:It->Prop):Prop:=∀ x,S x->∀ s,aheadF g x=some s->s.kind=1->∀ n∈ofS g s.sort,S (n,0)
theorem closeGo_in (g:Gr) (S:It->Prop) (hS:ClosedS g S):∀ (f i:Nat) (seen:List Int) (out:List It),(∀ x∈out,S x)->∀ x∈closeGo g f i seen out,S x
 | 0,_,_,_,h=>h
 | f+1,i,seen,out,h=>by
  cases ho:out[i]? with
  | none=>rw [closeGo,ho];exact h
  | some y =>
   rw [closeGo_step _ _ _ _ _ _ ho];refine closeGo_in g S hS f _ _ _ ?_;unfold closeOut
   cases ha:aheadF g y with
   | none=>exact h
   | some s =>
    dsimp only
    split
    ·rename_i hc;intro x hx
     rcases List.mem_append.1 hx with hx | hx
     ·exact h x hx
     ·obtain ⟨n,hn,rfl⟩:=List.mem_map.1 hx;exact hS y (h y (gM ho)) s ha hc.1 n hn
    ·exact h
structure CloseI (g:Gr) (i:Nat) (seen:List Int) (out:List It):Prop where
 seen_:∀ s∈seen,∀ n∈ofS g s,(n,0)∈out
 past:∀ (j:Nat) (x:It),j<i->out[j]?=some x->∀ s,aheadF g x=some s->s.kind=1->s.sort∈seen
theorem CloseI.step {g:Gr} {i:Nat} {seen:List Int} {out:List It} (h:CloseI g i seen out) {x:It} (hx:out[i]?=some x):CloseI g (i+1) (closeSeen g seen x) (closeOut g seen out x):=by
 have hi:=(gS.1 hx).1;have hk:∀ (j:Nat) (y:It),j<i+1->(closeOut g seen out x)[j]?=some y->out[j]?=some y:=fun j y hj hy=>by
  unfold closeOut at hy
  split at hy
  ·split at hy
   ·rw [List.getElem?_append_left (by omega)] at hy;exact hy
   ·exact hy
  ·exact hy
 constructor
 ·intro s hs n hn;unfold closeSeen at hs;unfold closeOut
  cases ha:aheadF g x with
  | none=>rw [ha] at hs;exact h.seen_ s hs n hn
  | some y =>
   rw [ha] at hs;dsimp only at hs ⊢
   by_cases hc:y.kind=1 /\ y.sort ∉ seen
   ·rw [if_pos hc] at hs ⊢
    rcases List.mem_cons.1 hs with rfl | hs
    ·exact List.mem_append_right _ (List.mem_map.2 ⟨n,hn,rfl⟩)
    ·exact List.mem_append_left _ (h.seen_ s hs n hn)
   ·rw [if_neg hc] at hs ⊢;exact h.seen_ s hs n hn
 ·intro j y hj hy s hs hks;have hy2:=hk j y hj hy;unfold closeSeen
  rcases Nat.lt_or_ge j i with hji | hji
  ·have:=h.past j y hji hy2 s hs hks
   split
   ·split
    ·exact List.mem_cons_of_mem _ this
    ·exact this
   ·exact this
  ·obtain rfl:j=i:=by omega
   rw [hx] at hy2;injection hy2 with hy2;subst hy2;rw [hs];dsimp only
   split
   ·exact List.mem_cons_self ..
   ·rename_i hc
    by_cases hm:s.sort∈seen
    ·exact hm
    ·exact absurd ⟨hks,hm⟩ hc
theorem closeI_last {g:Gr} {l:List It}:∀ (m i:Nat) (seen:List Int) (out:List It),CloseAt g l i seen out->CloseI g i seen out->l.length+g.prods.length - i<=m->∃ seen' out',CloseAt g l out'.length seen' out' /\ CloseI g out'.length seen' out'
 | m,i,seen,out,h,hI,hm=>by
  have hf:=h.fits;have hle:=h.le
  rcases Nat.lt_or_ge i out.length with hi | hi
  ·have hx:out[i]?=some out[i]:=gE hi
   match m,hm with
   | 0,hm=>omega
   | m+1,hm=>exact closeI_last m (i+1) _ _ (h.step hx) (hI.step hx) (by omega)
  ·obtain rfl:i=out.length:=by omega
   exact ⟨seen,out,h,hI⟩
theorem closedF_iff {g:Gr} {l:List It} (hl:∀ x∈l,itemOk g x=true) (x:It):x∈closedF g l↔∀ S:It->Prop,(∀ y∈l,S y)->ClosedS g S->S x:=by
 constructor
 ·intro h S h1 h2;unfold closedF at h;exact closeGo_in g S h2 _ _ _ _ h1 x ((sortIt_perm _).mem_iff.1 (compactIt_mem _ _ h))
 ·intro h;refine h (fun y=>y∈closedF g l) (fun y hy=>closedF_keep g l y hy) ?_;obtain ⟨seen,out,hC,hI⟩:=closeI_last _ _ _ _ (CloseAt.start hl) (⟨fun s hs=>absurd hs (by simp),fun j x hj=>absurd hj (by omega)⟩) (nR _)
  have hm:∀ y,y∈closedF g l↔y∈out:=fun y=>by
   rw [hC.done rfl];exact ⟨fun h=>(sortIt_perm out).mem_iff.1 (compactIt_mem _ _ h),fun h=>compactIt_mem' _ _ ((sortIt_perm out).mem_iff.2 h)⟩
  intro y hy s hs hk n hn;obtain ⟨j,hj⟩:=List.getElem?_of_mem ((hm y).1 hy);have h1:=hI.past j y (gS.1 hj).1 hj s hs hk;exact (hm _).2 (hI.seen_ _ h1 n hn)
def addP (g:Gr) (s:Int) (l:List It):List It:=(ofS g s).foldl (fun l n=>if (n,0)∈l then l else l++[(n,0)]) l
def rcStep (g:Gr) (x:It) (l:List It):List It:=match aheadF g x with | some s=>if s.kind=1 then addP g s.sort l else l | none=>l
end Go.Proofs.YthiochcpmfkgcaaGreatDoor.Tb
namespace Go.Proofs.YthiochcpmfkgcaaGreatDoor.Tb
def sameB (L:List Nat) (b c:Nat):Bool:=L.all fun s=>s.testBit b==s.testBit c
theorem sameB_iff (L:List Nat) (b c:Nat):sameB L b c=true↔∀ s∈L,s.testBit b=s.testBit c:=by simp [sameB]
theorem sameB_refl (L:List Nat) (b:Nat):sameB L b b=true:=(sameB_iff L b b).2 fun _ _=>rfl
theorem sameB_symm {L:List Nat} {b c:Nat} (h:sameB L b c=true):sameB L c b=true:=(sameB_iff L c b).2 fun s hs=>((sameB_iff L b c).1 h s hs).symm
theorem sameB_trans {L:List Nat} {b c d:Nat} (h:sameB L b c=true) (k:sameB L c d=true):sameB L b d=true:=(sameB_iff L b d).2 fun s hs=>((sameB_iff L b c).1 h s hs).trans ((sameB_iff L c d).1 k s hs)
def firsts (L:List Nat) (b:Nat):List Nat:=(List.range b).filter fun c=>(List.range c).all fun d=>!sameB L c d
def classB (L:List Nat) (b f:Nat):Nat:=((List.range b).filter fun c=>sameB L f c).foldl (fun M c=>M ||| 2 ^ c) 0
def refSplit (L:List Nat):List Nat:=(firsts L 256).map (classB L 256)
theorem orAll_bit (i:Nat):∀ (l:List Nat) (a:Nat),(l.foldl (fun M c=>M ||| 2 ^ c) a).testBit i=(a.testBit i || decide (i∈l))
 | [],a=>by simp
 | x::l,a=>by
  rw [List.foldl_cons,orAll_bit i l,Nat.testBit_or,Nat.testBit_two_pow,Bool.or_assoc];congr 1
  by_cases h:x=i
  ·subst h;simp
  ·have h2:¬ i=x:=fun e=>h e.symm;simp [h,h2]
theorem classB_bit (L:List Nat) (b f i:Nat):(classB L b f).testBit i=(decide (i<b)&&sameB L f i):=by
 unfold classB;rw [orAll_bit]
 by_cases h:i<b <;> simp [h]
theorem firsts_mem {L:List Nat} {b c:Nat}:c∈firsts L b↔c<b /\ ∀ d,d<c->sameB L c d=false:=by
 unfold firsts;rw [List.mem_filter];simp
theorem firsts_sorted (L:List Nat) (b:Nat):(firsts L b).Pairwise (·<·):=List.pairwise_lt_range.filter _
theorem first_of (L:List Nat):∀ (i:Nat),∃ f,f<=i /\ sameB L f i=true /\ ∀ d,d<f->sameB L f d=false:=by
 intro i
 induction i using Nat.strongRecOn with
 | _ i ih =>
  by_cases h:∀ d,d<i->sameB L i d=false
  ·exact ⟨i,nR _,sameB_refl L i,h⟩
  ·have:∃ d,d<i /\ sameB L i d=true:=by
    apply Classical.byContradiction;intro hn;refine h fun d hd=>?_
    cases hs:sameB L i d with
    | false=>rfl
    | true=>exact absurd ⟨d,hd,hs⟩ hn
   obtain ⟨d,hd,hs⟩:=this;obtain ⟨f,h1,h2,h3⟩:=ih d hd;exact ⟨f,by omega,sameB_trans h2 (sameB_symm hs),h3⟩
theorem split_full:∀ (l parts done:List Nat),(∀ s∈l,s<2 ^ 256)->Parts parts->(∀ p∈parts,∀ i j,p.testBit i=true->j<256->(∀ s∈done,s.testBit i=s.testBit j)->p.testBit j=true) ->
  ∀ p∈l.foldl splitStep parts,∀ i j,p.testBit i=true->j<256->(∀ s,s∈done∨s∈l->s.testBit i=s.testBit j)->p.testBit j=true
 | [],parts,done,_,_,h=>fun p hp i j hi hj hs=>h p hp i j hi hj fun s hsd=>hs s (.inl hsd)
 | t::l,parts,done,hl,hp,h=>by
  have ht:=hl t (by simp);intro p hpm i j hi hj hs;refine split_full l (splitStep parts t) (t::done) (fun s hs=>hl s (by simp [hs])) (splitStep_parts ht hp) ?_ p hpm i j hi hj fun s hsd=>hs s ?_
  ·intro q hq i j hi hj hs;rw [splitStep_eq] at hq;have hst:=hs t (by simp)
   rcases cut_fold_mem t parts [] q hq with h0 | ⟨p,hpm,rfl | rfl⟩
   ·cases h0
   ·rw [Nat.testBit_and] at hi ⊢;simp at hi;rw [h p hpm i j hi.1 hj (fun s hsd=>hs s (by simp [hsd])),<- hst,hi.2];rfl
   ·rw [without_bit p t _ ht (hp.1 p hpm).2] at hi ⊢;simp at hi;rw [h p hpm i j hi.1 hj (fun s hsd=>hs s (by simp [hsd])),<- hst,hi.2];rfl
  ·rcases hsd with hsd | hsd
   ·rcases List.mem_cons.1 hsd with rfl | hsd
    ·exact .inr (by simp)
    ·exact .inl hsd
   ·exact .inr (by simp [hsd])
theorem part_class {L:List Nat} (h:∀ s∈L,s<2 ^ 256) {p i:Nat} (hp:p∈L.foldl splitStep [2 ^ 256 - 1]) (hi:p.testBit i=true):p=classB L 256 i:=by
 have hP:Parts (L.foldl splitStep [2 ^ 256 - 1]):=parts_all L _ h full_parts;have hfull:∀ j,(2 ^ 256 - 1).testBit j=decide (j<256):=fun j=>Nat.testBit_two_pow_sub_one 256 j;have h1:=(split_all L [2 ^ 256 - 1] [] h full_parts (fun p _ s hs=>by cases hs) (fun i hi=>⟨2 ^ 256 - 1,List.mem_singleton.2 rfl,by rw [hfull];exact decide_eq_true hi⟩)).1;have h2:=split_full L [2 ^ 256 - 1] [] h full_parts (fun p hp i j _ hj _=>by rw [List.mem_singleton.1 hp,hfull];exact decide_eq_true hj)
 have hlt:=(hP.1 p hp).2;have hi256:∀ j,p.testBit j=true->j<256:=fun j hj=>by
  rcases Nat.lt_or_ge j 256 with h | h
  ·exact h
  ·rw [Nat.testBit_lt_two_pow (nL hlt (Nat.pow_le_pow_right (by omega) h))] at hj;cases hj
 apply Nat.eq_of_testBit_eq;intro j;rw [classB_bit]
 cases hj:p.testBit j with
 | true =>
  rw [decide_eq_true (hi256 j hj)];symm;refine (sameB_iff L i j).2 fun s hs=>?_
  rcases h1 p hp s (.inr hs) with hq | hq
  ·rw [hq i hi,hq j hj]
  ·have a1:=(apart_iff _ _).1 hq i;have a2:=(apart_iff _ _).1 hq j
   cases hsi:s.testBit i with
   | true=>exact absurd ⟨hi,hsi⟩ a1
   | false=>cases hsj:s.testBit j with
    | true=>exact absurd ⟨hj,hsj⟩ a2
    | false=>rfl
 | false =>
  by_cases hj2:j<256
  ·cases hs:sameB L i j with
   | false=>simp
   | true =>
    have:=h2 p hp i j hi hj2 fun s hsd=>by
     rcases hsd with hsd | hsd
     ·cases hsd
     ·exact (sameB_iff L i j).1 hs s hsd
    rw [hj] at this
    cases this
  ·simp [hj2]
theorem leastF_class {L:List Nat} {f:Nat} (hf:f∈firsts L 256):leastF (classB L 256 f)=f:=by
 obtain ⟨h1,h2⟩:=firsts_mem.1 hf;have hbit:(classB L 256 f).testBit f=true:=by rw [classB_bit,decide_eq_true h1,sameB_refl];rfl
 have hne:classB L 256 f≠0:=fun e=>by rw [e,Nat.zero_testBit] at hbit;cases hbit
 have hlt:classB L 256 f<2 ^ 256:=by
  apply Nat.lt_pow_two_of_testBit;intro i hi;rw [classB_bit,decide_eq_false (by omega)];rfl
 have h3:=leastF_bit hne hlt;have h4:leastF (classB L 256 f)<=f:=by
  unfold leastF
  cases hx:(List.range 256).find? (fun b=>(classB L 256 f).testBit b) with
  | none=>exact Nat.zero_le _
  | some x =>
   show x<=f
   rcases Nat.lt_or_ge f x with h | h
   ·exfalso;rw [List.find?_range_eq_some] at hx;have:=hx.2.2 f h;rw [hbit] at this
    cases this
   ·exact h
 rw [classB_bit] at h3;simp at h3
 rcases Nat.lt_or_ge (leastF (classB L 256 f)) f with h5 | h5
 ·rw [h2 _ h5] at h3;cases h3.2
 ·omega
theorem refSplit_eq {L:List Nat} (h:∀ s∈L,s<2 ^ 256):refSplit L=splitF L:=by
 have hP:Parts (L.foldl splitStep [2 ^ 256 - 1]):=parts_all L _ h full_parts;have hcov:=(split_all L [2 ^ 256 - 1] [] h full_parts (fun p _ s hs=>by cases hs) (fun i hi=>⟨2 ^ 256 - 1,List.mem_singleton.2 rfl,by rw [Nat.testBit_two_pow_sub_one];exact decide_eq_true hi⟩)).2;unfold splitF;refine sortSet_unique hP ?_ ?_
 ·refine (List.perm_ext_iff_of_nodup ?_ ?_).2 fun p=>?_
  ·unfold refSplit;refine List.pairwise_map.2 ((firsts_sorted L 256).imp_of_mem fun {a b} ha hb hab e=>?_);have:=congrArg leastF e;rw [leastF_class ha,leastF_class hb] at this;omega
  ·refine hP.2.imp_of_mem fun {a b} ha hb hab e=>?_;subst e;rw [Nat.and_self] at hab;exact (hP.1 a ha).1 hab
  ·unfold refSplit;rw [List.mem_map]
   constructor
   ·rintro ⟨f,hf,rfl⟩;obtain ⟨p,hp,hbit⟩:=hcov f (firsts_mem.1 hf).1;rw [<- part_class h hp hbit];exact hp
   ·intro hp;obtain ⟨i,hi,hbit⟩:=exists_bit (hP.1 p hp).1 (hP.1 p hp).2;obtain ⟨f,h1,h2,h3⟩:=first_of L i;refine ⟨f,firsts_mem.2 ⟨by omega,h3⟩,?_⟩;rw [part_class h hp hbit];apply Nat.eq_of_testBit_eq;intro j;rw [classB_bit,classB_bit];congr 1
    cases hx:sameB L f j with
    | true=>rw [sameB_trans (sameB_symm h2) hx]
    | false=>cases hy:sameB L i j with
     | true=>rw [sameB_trans h2 hy] at hx;cases hx
     | false=>rfl
 ·unfold refSplit;refine List.pairwise_map.2 ((firsts_sorted L 256).imp_of_mem fun {a b} ha hb hab=>?_);rw [leastF_class ha,leastF_class hb];omega
def sortHit (g:Gr) (n:Int) (x:It):Bool:=match aheadF g x with | some s=>s.kind==1&&s.sort==n | none=>false
def symsR (g:Gr) (l:List It):List Sy :=
 (((List.range g.sorts.length).filter fun n:Nat=>l.any (sortHit g (n:Int))).map fun n:Nat=>⟨1,0,(n:Int)⟩) ++
 (((refSplit (setsOf g l)).filter fun c=>(setsOf g l).any fun s=>withinF c s).map fun c=>⟨0,c,0⟩)
def movedR (g:Gr) (l:List It) (y:Sy):List It :=
 (l.filter fun x=>match aheadF g x with | some s=>s.kind==y.kind&&(s.sort==y.sort&&(y.kind==1 || withinF y.set s.set)) | none=>false).map fun x=>(x.1,x.2+1)
theorem sortsOf_mem {g:Gr} {l:List It} {n:Int}:n∈sortsOf g l↔∃ x∈l,sortHit g n x=true:=by
 unfold sortsOf;rw [insInt_mem 0]
 constructor
 ·intro h
  have hgo:∀ (l:List It) (o:List Int),n∈l.foldl (sortStep g) o->n∈o∨∃ x∈l,sortHit g n x=true:=by
   intro l
   induction l with
   | nil=>intro o h;exact .inl h
   | cons y t ih =>
    intro o h;rw [List.foldl_cons] at h
    rcases ih _ h with h | ⟨x,hx,h⟩
    ·unfold sortStep at h
     cases ha:aheadF g y with
     | none=>rw [ha] at h;exact .inl h
     | some s =>
      rw [ha] at h;dsimp only at h
      split at h
      ·rename_i hc
       rcases List.mem_append.1 h with h | h
       ·exact .inl h
       ·refine .inr ⟨y,by simp,?_⟩;unfold sortHit;rw [ha];simp at h;simp [hc.1,h]
      ·exact .inl h
    ·exact .inr ⟨x,by simp [hx],h⟩
  rcases hgo l [] h with h | h
  ·cases h
  ·exact h
 ·rintro ⟨x,hx,h⟩;unfold sortHit at h
  cases ha:aheadF g x with
  | none=>rw [ha] at h;cases h
  | some s =>
   rw [ha] at h;simp at h;rw [<- h.2];exact sortStep_new g l [] x s hx ha h.1
theorem sortStep_nodup (g:Gr):∀ (l:List It) (o:List Int),o.Nodup->(l.foldl (sortStep g) o).Nodup
 | [],o,h=>h
 | x::t,o,h=>by
  rw [List.foldl_cons];refine sortStep_nodup g t _ ?_;unfold sortStep
  split
  ·split
   ·rename_i hc;refine List.nodup_append.2 ⟨h,by simp,fun a ha b hb=>?_⟩;rw [List.mem_singleton] at hb;subst hb;intro e;subst e;exact hc.2 ha
   ·exact h
  ·exact h
def SortsAt (g:Gr):Prop:=∀ x y,aheadF g x=some y->y.kind=1->0<=y.sort /\ y.sort<g.sorts.length
theorem sortsOf_eq {g:Gr} (hg:SortsAt g) (l:List It):sortsOf g l=((List.range g.sorts.length).filter fun n:Nat=>l.any (sortHit g (n:Int))).map fun n:Nat=>(n:Int):=by
 have hnd:(sortsOf g l).Nodup:=by
  unfold sortsOf;exact (sortInt_perm _).nodup_iff.2 (sortStep_nodup g l [] List.nodup_nil)
 have hnd2:((((List.range g.sorts.length).filter fun n:Nat=>l.any (sortHit g (n:Int))).map fun n:Nat=>(n:Int))).Pairwise (·<·) :=
  List.pairwise_map.2 ((List.pairwise_lt_range.filter _).imp fun {a b} hab=>by omega)
 have hp:(sortsOf g l).Perm (((List.range g.sorts.length).filter fun n:Nat=>l.any (sortHit g (n:Int))).map fun n:Nat=>(n:Int)):=by
  refine (List.perm_ext_iff_of_nodup hnd (hnd2.imp fun {a b} h e=>by omega)).2 fun n=>?_;rw [sortsOf_mem,List.mem_map]
  constructor
  ·rintro ⟨x,hx,h⟩;have h0:=h;unfold sortHit at h0
   cases ha:aheadF g x with
   | none=>rw [ha] at h0;cases h0
   | some s =>
    rw [ha] at h0;simp at h0;obtain ⟨h1,h2⟩:=hg x s ha h0.1;rw [h0.2] at h1 h2;refine ⟨n.toNat,List.mem_filter.2 ⟨by simp;omega,List.any_eq_true.2 ⟨x,hx,?_⟩⟩,by omega⟩;rw [show ((n.toNat:Nat):Int)=n by omega];exact h
  ·rintro ⟨k,hk,rfl⟩;exact List.any_eq_true.1 (List.mem_filter.1 hk).2
 have hs:(sortsOf g l).Pairwise (·<=·):=by
  unfold sortsOf;exact sortInt_sorted _
 exact hp.eq_of_pairwise (fun a b _ _ h k=>by omega) hs (hnd2.imp fun {a b} h=>by omega)
theorem moved_any (g:Gr) (l:List It) (c:Nat):(movedSet g l c).isEmpty=!(setsOf g l).any fun s=>withinF c s:=by
 rw [Bool.eq_iff_iff];simp only [List.isEmpty_iff,Bool.not_eq_true',List.any_eq_false]
 constructor
 ·intro h s hs hw;obtain ⟨x,hx,y,h1,h2,rfl⟩:=setsOf_from hs;have:=movedSet_mem (c:=c) hx h1 h2 hw;rw [h] at this
  cases this
 ·intro h;refine List.eq_nil_iff_forall_not_mem.2 fun z hz=>?_;unfold movedSet at hz;obtain ⟨x,hx,_⟩:=List.mem_map.1 hz;obtain ⟨h1,h2⟩:=List.mem_filter.1 hx
  cases ha:aheadF g x with
  | none=>rw [ha] at h2;cases h2
  | some y =>
   rw [ha] at h2;simp at h2;exact h _ (setsOf_mem h1 ha h2.1) h2.2
def NoSort (g:Gr):Prop:=∀ x y,aheadF g x=some y->y.kind=0->y.sort=0
theorem filterMap_if {α β:Type} (p:α->Bool) (f:α->β):∀ l:List α,(l.filterMap fun a=>if p a=true then none else some (f a))=(l.filter fun a=>!p a).map f
 | []=>rfl
 | a::l=>by
  rw [List.filterMap_cons,List.filter_cons]
  cases h:p a <;> simp [filterMap_if p f l]
theorem leadsF_eq {g:Gr} (h1:SetsOk g) (h2:SortsAt g) (h3:NoSort g) (l:List It):leadsF g l=(symsR g l).map fun y=>(y,closedF g (movedR g l y)):=by
 unfold leadsF symsR;rw [List.map_append,sortsOf_eq h2,refSplit_eq (setsOf_ok h1 l)];congr 1
 ·rw [List.map_map,List.map_map];refine List.map_congr_left fun n _=>?_;show (_,_)=(_,_);congr 2;unfold movedSort movedR;congr 1;refine List.filter_congr fun x _=>?_
  cases ha:aheadF g x with
  | none=>rfl
  | some s=>simp
 ·rw [filterMap_if,List.map_map]
  have:(splitF (setsOf g l)).filter (fun a=>!(movedSet g l a).isEmpty)=(splitF (setsOf g l)).filter fun c=>(setsOf g l).any fun s=>withinF c s :=
   List.filter_congr fun c _=>by rw [moved_any];simp
  rw [this];refine List.map_congr_left fun c _=>?_;show (_,_)=(_,_);congr 2;unfold movedSet movedR;congr 1;refine List.filter_congr fun x _=>?_
  cases ha:aheadF g x with
  | none=>rfl
  | some s =>
   by_cases hk:s.kind=0
   ·simp [hk,h3 x s ha hk]
   ·have hk2:(s.kind==0)=false:=by simpa using hk
    simp [hk2]
end Go.Proofs.YthiochcpmfkgcaaGreatDoor.Tb
/-
  PLAIN LAWS of package glr: the states of a grammar,as the run asks them.
-/
namespace Go.Proofs.YthiochcpmfkgcaaGreatDoor.Gl
open Tb (Gr Sy It St ofS aheadF rightOf itemOk closedF ClosedS closedF_iff closedF_keep MadeLaw StLaw leadsF movedSet movedSort leads_byte leads_sort leadsF_set leadsF_sort leadsF_kind SetsOk doneF splitF setsOf splitF_law setsOf_ok)
def edgesAt (l:List St) (s:Nat):List (Sy × Nat):=((l[s]?).map (·.edges)).getD []
def itemsAt (l:List St) (s:Nat):List It:=((l[s]?).map (·.items)).getD []
def byByte (b:Nat) (x:Sy):Bool:=x.kind==0&&x.set.testBit b
def bySort (s:Int) (x:Sy):Bool:=x.kind==1&&x.sort==s
def tabF (g:Gr) (l:List St):Tab where
 shift:=fun s b=>((edgesAt l s).find? fun e=>byByte b.toNat e.1).map (·.2)
 goto_:=fun s A=>((edgesAt l s).find? fun e=>bySort A e.1).map (·.2)
 done:=fun s=>((l[s]?).map (·.done)).getD []
 len:=fun p=>(rightOf g p).length
 left:=fun p=>((g.prods[p]?).map (·.left)).getD (-1)
def ByteAt (g:Gr) (x:It) (b:UInt8):Prop:=∃ y,aheadF g x=some y /\ y.kind=0 /\ y.set.testBit b.toNat=true
def SortAt (g:Gr) (x:It) (A:Int):Prop:=∃ y,aheadF g x=some y /\ y.kind=1 /\ y.sort=A
def Belongs (g:Gr) (K:It->Prop) (x:It):Prop:=∀ S:It->Prop,(∀ y,K y->S y)->ClosedS g S->S x
structure Dfa (g:Gr) (T:Tab) (I:Nat->It->Prop):Prop where
 ok:∀ s x,I s x->itemOk g x=true
 start:∀ x,I 0 x↔Belongs g (fun y=>y∈(ofS g g.start).map (·,0)) x
 closed:∀ s,ClosedS g (I s)
 shift:∀ s x b,I s x->ByteAt g x b->∃ t,T.shift s b=some t
 shifts:∀ s b t,T.shift s b=some t->(∃ x,I s x /\ ByteAt g x b) /\ ∀ x,I t x↔Belongs g (fun y=>∃ z,I s z /\ ByteAt g z b /\ y=(z.1,z.2+1)) x
 goto_:∀ s x A,I s x->SortAt g x A->∃ t,T.goto_ s A=some t
 gotos:∀ s A t,T.goto_ s A=some t->(∃ x,I s x /\ SortAt g x A) /\ ∀ x,I t x↔Belongs g (fun y=>∃ z,I s z /\ SortAt g z A /\ y=(z.1,z.2+1)) x
 done:∀ s p,p∈T.done s↔I s (p,(rightOf g p).length)
 len:∀ p,T.len p=(rightOf g p).length
 left:∀ A p,p∈ofS g A->T.left p=A
theorem moved_ok {g:Gr} {x:It} {y:Sy} (hy:aheadF g x=some y):itemOk g (x.1,x.2+1)=true:=by
 unfold aheadF at hy;have h8:=(gS.1 hy).1;unfold itemOk;simp only [Bool.and_eq_true,decide_eq_true_eq];refine ⟨?_,h8⟩
 rcases Nat.lt_or_ge x.1 g.prods.length with h | h
 ·exact h
 ·unfold rightOf at h8;rw [List.getElem?_eq_none h] at h8;simp at h8
theorem first_ok {g:Gr} {A:Int}:∀ x∈(ofS g A).map (·,0),itemOk g x=true:=fun x hx=>by
 obtain ⟨k,hk,rfl⟩:=List.mem_map.1 hx;unfold ofS at hk;have:=List.mem_range.1 (List.mem_filter.1 hk).1;unfold itemOk;simp [this]
theorem movedSort_iff {g:Gr} {l:List It} {A:Int} {y:It}:y∈movedSort g l A↔∃ z,z∈l /\ SortAt g z A /\ y=(z.1,z.2+1):=by
 unfold movedSort SortAt;rw [List.mem_map]
 constructor
 ·rintro ⟨z,hz,rfl⟩;obtain ⟨h1,h2⟩:=List.mem_filter.1 hz
  cases ha:aheadF g z with
  | none=>rw [ha] at h2;cases h2
  | some s =>
   rw [ha] at h2;simp at h2;exact ⟨z,h1,⟨s,ha,h2.1,h2.2⟩,rfl⟩
 ·rintro ⟨z,h1,⟨s,h2,h3,h4⟩,rfl⟩;refine ⟨z,List.mem_filter.2 ⟨h1,?_⟩,rfl⟩;rw [h2];simp [h3,h4]
theorem movedSet_iff {g:Gr} (hs:SetsOk g) {l:List It} {c:Nat} (hc:c∈splitF (setsOf g l)) {b:UInt8} (hb:c.testBit b.toNat=true) {y:It}:y∈movedSet g l c↔∃ z,z∈l /\ ByteAt g z b /\ y=(z.1,z.2+1):=by
 unfold movedSet ByteAt;rw [List.mem_map]
 constructor
 ·rintro ⟨z,hz,rfl⟩;obtain ⟨h1,h2⟩:=List.mem_filter.1 hz
  cases ha:aheadF g z with
  | none=>rw [ha] at h2;cases h2
  | some s =>
   rw [ha] at h2;simp at h2;exact ⟨z,h1,⟨s,ha,h2.1,(Tb.within_sub _ _).1 h2.2 _ hb⟩,rfl⟩
 ·rintro ⟨z,h1,⟨s,h2,h3,h4⟩,rfl⟩
  refine ⟨z,List.mem_filter.2 ⟨h1,?_⟩,rfl⟩;rw [h2];have hp:Tb.withinF c s.set=true:=by
   rw [Tb.within_sub]
   rcases (splitF_law (setsOf_ok hs l)).1 c hc s.set (Tb.setsOf_mem h1 h2 h3) with h | h
   ·exact h
   ·exact absurd ⟨hb,h4⟩ ((Tb.apart_iff _ _).1 h b.toNat)
  simp [h3,hp]
theorem at_in {l:List St} {s:Nat} {x:It} (h:x∈itemsAt l s):∃ st,l[s]?=some st /\ itemsAt l s=st.items /\ edgesAt l s=st.edges:=by
 unfold itemsAt edgesAt at *
 cases hs:l[s]? with
 | none=>rw [hs] at h;cases h
 | some st=>exact ⟨st,rfl,rfl,rfl⟩
theorem at_some {l:List St} {s:Nat} (h:edgesAt l s≠[]):∃ st,l[s]?=some st /\ itemsAt l s=st.items /\ edgesAt l s=st.edges:=by
 unfold itemsAt edgesAt at *
 cases hs:l[s]? with
 | none=>rw [hs] at h;exact absurd rfl h
 | some st=>exact ⟨st,rfl,rfl,rfl⟩
theorem fin_in {l:List St} {m:Nat} {K:List It} (h:(l.map (·.items))[m]?=some K):itemsAt l m=K:=by
 rw [List.getElem?_map] at h;unfold itemsAt;rw [h];rfl
theorem state_eq {g:Gr} {l:List St} (hm:MadeLaw g l) {s:Nat} (hs:s<l.length):∃ K:List It,(∀ x∈K,itemOk g x=true) /\ itemsAt l s=closedF g K:=by
 by_cases h0:s=0
 ·subst h0;obtain ⟨st,h1,h2⟩:=hm.start;refine ⟨_,first_ok (A:=g.start),?_⟩;unfold itemsAt;rw [h1];exact h2
 ·obtain ⟨i,st,h1,h2,e,h3,h4⟩:=hm.led s (by omega) hs;obtain ⟨K,h5,h6⟩:=(hm.state st (gM h2)).edges h3;rw [h4] at h6;have h7:=fin_in h6
  rcases leadsF_kind h5 with hk | hk
  ·refine ⟨movedSet g st.items e.1.set,fun x hx=>?_,by rw [h7];exact (leadsF_set h5 hk).1⟩;unfold movedSet at hx;obtain ⟨z,hz,rfl⟩:=List.mem_map.1 hx;have:=(List.mem_filter.1 hz).2
   cases ha:aheadF g z with
   | none=>rw [ha] at this;cases this
   | some y=>exact moved_ok ha
  ·refine ⟨movedSort g st.items e.1.sort,fun x hx=>?_,by rw [h7];exact (leadsF_sort h5 hk).1⟩;obtain ⟨z,_,⟨y,hy,_⟩,rfl⟩:=movedSort_iff.1 hx;exact moved_ok hy
theorem belongs_iff {g:Gr} {K:List It} (hK:∀ x∈K,itemOk g x=true) {P:It->Prop} (hP:∀ y,y∈K↔P y) (x:It):x∈closedF g K↔Belongs g P x:=by
 rw [closedF_iff hK];unfold Belongs
 constructor
 ·exact fun h S h1 h2=>h S (fun y hy=>h1 y ((hP y).1 hy)) h2
 ·exact fun h S h1 h2=>h S (fun y hy=>h1 y ((hP y).2 hy)) h2
theorem item_ok {g:Gr} {l:List St} (hm:MadeLaw g l) {s:Nat} {x:It} (h:x∈itemsAt l s):itemOk g x=true:=by
 obtain ⟨st,h1,_⟩:=at_in h;obtain ⟨K,h2,h3⟩:=state_eq hm (gS.1 h1).1;rw [h3,closedF_iff h2] at h;refine h (fun x=>itemOk g x=true) h2 ?_;intro y hy s hs hk n hn;exact first_ok (A:=s.sort) (n,0) (List.mem_map.2 ⟨n,hn,rfl⟩)
theorem tab_dfa {g:Gr} {l:List St} (hs:SetsOk g) (hm:MadeLaw g l):Dfa g (tabF g l) (fun s x=>x∈itemsAt l s) where
 ok:=fun s x h=>item_ok hm h
 start:=fun x=>by
  obtain ⟨st,h1,h2⟩:=hm.start;have h3:itemsAt l 0=closedF g ((ofS g g.start).map (·,0)):=by unfold itemsAt;rw [h1];exact h2
  rw [h3];exact belongs_iff first_ok (fun y=>Iff.rfl) x
 closed:=fun s y hy sy h1 h2 n hn=>by
  obtain ⟨st,h3,_⟩:=at_in hy;obtain ⟨K,h4,h5⟩:=state_eq hm (gS.1 h3).1;rw [h5,closedF_iff h4] at hy ⊢;exact fun S q1 q2=>q2 y (hy S q1 q2) sy h1 h2 n hn
 shift:=fun s x b hx ⟨y,h1,h2,h3⟩=>by
  obtain ⟨st,e1,e2,e3⟩:=at_in hx;rw [e2] at hx;obtain ⟨⟨e,q1,q2,q3⟩,_⟩:=leads_byte hs hx h1 h2 h3;obtain ⟨m,q4,_⟩:=(hm.state st (gM e1)).leads q1;unfold tabF;dsimp only;rw [e3]
  cases hf:st.edges.find? (fun e=>byByte b.toNat e.1) with
  | none=>exact absurd (by unfold byByte;simp [q2,q3]) (List.find?_eq_none.1 hf _ q4)
  | some e=>exact ⟨_,rfl⟩
 shifts:=fun s b t h=>by
  obtain ⟨st,e1,e2,e3⟩:=at_some (l:=l) (s:=s) (by unfold tabF at h;dsimp only at h;intro h0;rw [h0] at h;cases h);unfold tabF at h;dsimp only at h;rw [e3] at h
  cases hf:st.edges.find? (fun e=>byByte b.toNat e.1) with
  | none=>rw [hf] at h;cases h
  | some e =>
   rw [hf] at h
   cases h
   obtain ⟨K,h5,h6⟩:=(hm.state st (gM e1)).edges (List.mem_of_find?_eq_some hf);have hb:=List.find?_some hf;unfold byByte at hb;simp at hb;obtain ⟨a1,a2,a3,a4⟩:=leadsF_set h5 hb.1;have hiff:∀ y,y∈movedSet g st.items e.1.set↔∃ z,z∈itemsAt l s /\ ByteAt g z b /\ y=(z.1,z.2+1):=fun y=>by
    rw [e2];exact movedSet_iff hs a3 hb.2
   constructor
   ·obtain ⟨y,hy⟩:=List.exists_mem_of_ne_nil _ a4;obtain ⟨z,z1,z2,_⟩:=(hiff y).1 hy;exact ⟨z,z1,z2⟩
   ·intro x;rw [show itemsAt l e.2=K from fin_in h6,show K=_ from a1];exact belongs_iff (fun y hy=>by obtain ⟨z,_,⟨u,hu,_⟩,rfl⟩:=(hiff y).1 hy;exact moved_ok hu) hiff x
 goto_:=fun s x A hx ⟨y,h1,h2,h3⟩=>by
  obtain ⟨st,e1,e2,e3⟩:=at_in hx;rw [e2] at hx;obtain ⟨⟨e,q1,q2,q3⟩,_⟩:=leads_sort hx h1 h2;obtain ⟨m,q4,_⟩:=(hm.state st (gM e1)).leads q1;unfold tabF;dsimp only;rw [e3]
  cases hf:st.edges.find? (fun e=>bySort A e.1) with
  | none=>exact absurd (by unfold bySort;simp [q2,q3,h3]) (List.find?_eq_none.1 hf _ q4)
  | some e=>exact ⟨_,rfl⟩
 gotos:=fun s A t h=>by
  obtain ⟨st,e1,e2,e3⟩:=at_some (l:=l) (s:=s) (by unfold tabF at h;dsimp only at h;intro h0;rw [h0] at h;cases h);unfold tabF at h;dsimp only at h;rw [e3] at h
  cases hf:st.edges.find? (fun e=>bySort A e.1) with
  | none=>rw [hf] at h;cases h
  | some e =>
   rw [hf] at h
   cases h
   obtain ⟨K,h5,h6⟩:=(hm.state st (gM e1)).edges (List.mem_of_find?_eq_some hf);have hb:=List.find?_some hf;unfold bySort at hb;simp at hb;obtain ⟨a1,a2,a3⟩:=leadsF_sort h5 hb.1;have hiff:∀ y,y∈movedSort g st.items e.1.sort↔∃ z,z∈itemsAt l s /\ SortAt g z A /\ y=(z.1,z.2+1):=fun y=>by
    rw [e2,hb.2];exact movedSort_iff
   constructor
   ·have a3':e.1.sort∈st.items.foldl (Tb.sortStep g) []:=(Tb.insInt_mem 0 _ _).1 a3
    have hfrom:∀ (L:List It) (o:List Int) (u:Int),u∈L.foldl (Tb.sortStep g) o->u∈o∨∃ z∈L,SortAt g z u:=by
     intro L
     induction L with
     | nil=>intro o u hu;exact .inl hu
     | cons z L ih =>
      intro o u hu;rw [List.foldl_cons] at hu
      rcases ih _ u hu with h | ⟨v,hv,hv2⟩
      ·unfold Tb.sortStep at h
       cases ha:aheadF g z with
       | none=>rw [ha] at h;exact .inl h
       | some y =>
        rw [ha] at h;dsimp only at h
        split at h
        ·rename_i hc
         rcases List.mem_append.1 h with h | h
         ·exact .inl h
         ·rw [List.mem_singleton] at h;exact .inr ⟨z,by simp,y,ha,hc.1,h.symm⟩
        ·exact .inl h
      ·exact .inr ⟨v,by simp [hv],hv2⟩
    rcases hfrom _ _ _ a3' with h | ⟨z,z1,z2⟩
    ·cases h
    ·exact ⟨z,by rw [e2];exact z1,by rw [<- hb.2];exact z2⟩
   ·intro x;rw [show itemsAt l e.2=K from fin_in h6,show K=_ from a1];exact belongs_iff (fun y hy=>by obtain ⟨z,_,⟨u,hu,_⟩,rfl⟩:=(hiff y).1 hy;exact moved_ok hu) hiff x
 done:=fun s p=>by
  show p∈((l[s]?).map (·.done)).getD []↔(p,(rightOf g p).length)∈itemsAt l s;unfold itemsAt
  cases hst:l[s]? with
  | none=>simp
  | some st =>
   simp only [Option.map_some,Option.getD_some];rw [(hm.state st (gM hst)).done];unfold doneF;simp only [List.mem_map,List.mem_filter,beq_iff_eq]
   constructor
   ·rintro ⟨⟨a,b⟩,⟨h1,h2⟩,h3⟩;simp only at h2 h3;subst h3;rw [<- h2];exact h1
   ·intro h;exact ⟨(p,(rightOf g p).length),⟨h,rfl⟩,rfl⟩
 len:=fun p=>rfl
 left:=fun A p h=>by
  unfold ofS at h;have h1:=(List.mem_filter.1 h).2;show ((g.prods[p]?).map (·.left)).getD (-1)=A
  cases hp:g.prods[p]? with
  | none=>rw [hp] at h1;cases h1
  | some q =>
   rw [hp] at h1;simp at h1;exact h1.1
end Go.Proofs.YthiochcpmfkgcaaGreatDoor.Gl
/-
  PLAIN LAWS of package glr: the least sets are what the grammar has: what is derived,what may stand where.
-/
namespace Go.Proofs.YthiochcpmfkgcaaGreatDoor.Gl
open Tb (Gr Sy It ofS aheadF rightOf itemOk ClosedS)
def Spans (D:Int->Nat->Nat->Prop) (w:List UInt8) (s:Sy) (i j:Nat):Prop :=
 (s.kind=0 /\ j=i+1 /\ ∃ b,w[i]?=some b /\ s.set.testBit b.toNat=true)∨(s.kind=1 /\ D s.sort i j)
def CutsOk (D:Int->Nat->Nat->Prop) (w:List UInt8):List Sy->Nat->List Nat->Prop
 | [],_,[]=>True
 | s::r,i,c::cs=>Spans D w s i c /\ CutsOk D w r c cs
 | _,_,_=>False
def lastOr (i:Nat) (cs:List Nat):Nat:=(cs.getLast?).getD i
theorem lastOr_nil (i:Nat):lastOr i []=i:=rfl
theorem lastOr_snoc (i:Nat) (cs:List Nat) (c:Nat):lastOr i (cs++[c])=c:=by simp [lastOr]
theorem lastOr_cons (i c:Nat) (cs:List Nat):lastOr i (c::cs)=lastOr c cs:=by
 unfold lastOr
 cases cs with
 | nil=>rfl
 | cons d ds=>simp [List.getLast?_cons]
theorem cuts_snoc {D:Int->Nat->Nat->Prop} {w:List UInt8} {s:Sy}:∀ {r:List Sy} {i:Nat} {cs:List Nat},CutsOk D w (r++[s]) i cs↔∃ ds c,cs=ds++[c] /\ CutsOk D w r i ds /\ Spans D w s (lastOr i ds) c
 | [],i,cs=>by
  constructor
  ·intro h
   cases cs with
   | nil=>exact h.elim
   | cons c cs =>
    cases cs with
    | nil=>exact ⟨[],c,rfl,trivial,h.1⟩
    | cons d ds=>exact h.2.elim
  ·rintro ⟨ds,c,rfl,h1,h2⟩
   cases ds with
   | nil=>exact ⟨h2,trivial⟩
   | cons d ds=>exact h1.elim
 | t::r,i,cs=>by
  constructor
  ·intro h
   cases cs with
   | nil=>exact h.elim
   | cons c cs =>
    obtain ⟨ds,e,h1,h2,h3⟩:=cuts_snoc.1 h.2;subst h1;exact ⟨c::ds,e,rfl,⟨h.1,h2⟩,by rw [lastOr_cons];exact h3⟩
  ·rintro ⟨ds,c,rfl,h1,h2⟩
   cases ds with
   | nil=>exact h1.elim
   | cons d ds=>exact ⟨h1.1,cuts_snoc.2 ⟨ds,c,rfl,h1.2,by rw [lastOr_cons] at h2;exact h2⟩⟩
theorem CutsOk.mono {D D':Int->Nat->Nat->Prop} {w:List UInt8} (h:∀ A i j,D A i j->D' A i j):∀ {r:List Sy} {i:Nat} {cs:List Nat},CutsOk D w r i cs->CutsOk D' w r i cs
 | [],_,[],_=>trivial
 | [],_,_::_,k=>k.elim
 | _::_,_,[],k=>k.elim
 | s::r,i,c::cs,k=>⟨k.1.imp id (fun q=>⟨q.1,h _ _ _ q.2⟩),CutsOk.mono h k.2⟩
def DClosed (g:Gr) (w:List UInt8) (D:Int->Nat->Nat->Prop):Prop:=∀ A p i cs,i<=w.length->p∈ofS g A->CutsOk D w (rightOf g p) i cs->D A i (lastOr i cs)
def Der (g:Gr) (w:List UInt8) (A:Int) (i j:Nat):Prop:=∀ D,DClosed g w D->D A i j
theorem der_closed (g:Gr) (w:List UInt8):DClosed g w (Der g w):=fun A p i cs hi h1 h2 D hD=>hD A p i cs hi h1 (h2.mono fun _ _ _ k=>k D hD)
def SClosed (g:Gr) (w:List UInt8) (S:Int->Nat->Prop):Prop :=
 S g.start 0 /\ ∀ A p i k cs y,S A i->p∈ofS g A->(rightOf g p)[k]?=some y->y.kind=1->CutsOk (Der g w) w ((rightOf g p).take k) i cs->S y.sort (lastOr i cs)
def At (g:Gr) (w:List UInt8) (A:Int) (i:Nat):Prop:=∀ S,SClosed g w S->S A i
theorem at_closed (g:Gr) (w:List UInt8):SClosed g w (At g w) :=
 ⟨fun S h=>h.1,fun A p i k cs y h1 h2 h3 h4 h5 S h=>h.2 A p i k cs y (h1 S h) h2 h3 h4 h5⟩
theorem take_succ {g:Gr} {x:It} {y:Sy} (h:aheadF g x=some y):(rightOf g x.1).take (x.2+1)=(rightOf g x.1).take x.2++[y]:=by
 unfold aheadF at h;rw [List.take_add_one,h];rfl
def ItemAt (g:Gr) (T:Tab) (w:List UInt8) (x:It) (j:Nat):Prop :=
 x.1∈ofS g (T.left x.1) /\ ∃ i cs,At g w (T.left x.1) i /\ CutsOk (Der g w) w ((rightOf g x.1).take x.2) i cs /\ lastOr i cs=j
theorem itemAt_closed {g:Gr} {T:Tab} {I:Nat->It->Prop} (hd:Dfa g T I) (w:List UInt8) (j:Nat):ClosedS g (fun x=>ItemAt g T w x j):=by
 rintro x ⟨h1,i,cs,h2,h3,h4⟩ y hy hk n hn;have hl:=hd.left _ _ hn;have hAt:=(at_closed g w).2 _ x.1 i x.2 cs y h2 h1 hy hk h3;rw [h4] at hAt;exact ⟨by rw [hl];exact hn,j,[],by rw [hl];exact hAt,by simp [CutsOk],rfl⟩
theorem itemAt_moved {g:Gr} {T:Tab} {w:List UInt8} {x:It} {y:Sy} {i j:Nat} (h:ItemAt g T w x i) (hy:aheadF g x=some y) (hs:Spans (Der g w) w y i j):ItemAt g T w (x.1,x.2+1) j:=by
 obtain ⟨h1,i0,cs,h2,h3,h4⟩:=h;refine ⟨h1,i0,cs++[j],h2,?_,lastOr_snoc _ _ _⟩;show CutsOk _ _ ((rightOf g x.1).take (x.2+1)) _ _;rw [take_succ hy];exact cuts_snoc.2 ⟨cs,j,rfl,h3,by rw [h4];exact hs⟩
def NodeI (g:Gr) (T:Tab) (I:Nat->It->Prop) (w:List UInt8) (x:Nd):Prop:=x.2<=w.length /\ ∀ z,I x.1 z->ItemAt g T w z x.2
structure EdgeI (g:Gr) (T:Tab) (I:Nat->It->Prop) (w:List UInt8) (x y:Nd):Prop where
 back:∀ p k,I x.1 (p,k+1)->I y.1 (p,k) /\ ∃ s,(rightOf g p)[k]?=some s /\ Spans (Der g w) w s y.2 x.2 /\ ((s.kind=0 /\ ∃ b,w[y.2]?=some b /\ T.shift y.1 b=some x.1)∨(s.kind=1 /\ T.goto_ y.1 s.sort=some x.1))
 from_:NodeI g T I w x
 tgt:NodeI g T I w y
 le:y.2<=x.2
def AltI (g:Gr) (T:Tab) (w:List UInt8) (a:Al):Prop :=
 a.prod∈ofS g (T.left a.prod) /\ At g w (T.left a.prod) a.src /\ CutsOk (Der g w) w (rightOf g a.prod) a.src a.cuts /\ lastOr a.src a.cuts=a.til /\ a.til<=w.length
theorem way_sound {g:Gr} {T:Tab} {I:Nat->It->Prop} {w:List UInt8} {p:Nat}:∀ {n:Nat} {x y:Nd} {c:List Nat},Way (EdgeI g T I w) n x y c->NodeI g T I w x->I x.1 (p,n)->n<=(rightOf g p).length ->
  NodeI g T I w y /\ I y.1 (p,0) /\ CutsOk (Der g w) w ((rightOf g p).take n) y.2 c /\ lastOr y.2 c=x.2 /\ y.2<=x.2
 | 0,x,y,c,⟨h1,h2⟩,hx,hi,_=>by subst h1;subst h2;exact ⟨hx,hi,by simp [CutsOk],rfl,nR _⟩
 | n+1,x,y,c,⟨z,d,h1,h2,h3⟩,hx,hi,hn=>by
  obtain ⟨q1,s,q2,q3,_⟩:=h1.back p n hi;obtain ⟨r1,r2,r3,r4,r5⟩:=way_sound h2 h1.tgt q1 (by omega);subst h3;refine ⟨r1,r2,?_,lastOr_snoc _ _ _,Nat.le_trans r5 h1.le⟩;rw [List.take_add_one,q2];exact cuts_snoc.2 ⟨d,x.2,rfl,r3,by rw [r4];exact q3⟩
theorem sound_closed {g:Gr} {T:Tab} {I:Nat->It->Prop} (hd:Dfa g T I) (w:List UInt8) :
  Closed T w (fun x=>LN T w x /\ NodeI g T I w x) (fun x y=>LE T w x y /\ EdgeI g T I w x y) (fun a=>LA T w a /\ AltI g T w a):=by
 have hL:=least_closed T w;have hway:∀ {s j p:Nat} {y:Nd} {c:List Nat},(LN T w (s,j) /\ NodeI g T I w (s,j))->p∈T.done s->Way (fun x y=>LE T w x y /\ EdgeI g T I w x y) (T.len p) (s,j) y c ->
   Way (LE T w) (T.len p) (s,j) y c /\ NodeI g T I w y /\ I y.1 (p,0) /\ p∈ofS g (T.left p) /\ At g w (T.left p) y.2 /\ CutsOk (Der g w) w (rightOf g p) y.2 c /\ lastOr y.2 c=j /\ y.2<=j:=by
  intro s j p y c hN hp hW;have hi:=(hd.done s p).1 hp;have h1:=way_sound (p:=p) (hW.mono fun _ _ k=>k.2) hN.2 (by rw [hd.len];exact hi) (by rw [hd.len];exact nR _)
  rw [hd.len,List.take_length] at h1;obtain ⟨a1,a2,a3,a4,a5⟩:=h1;obtain ⟨b1,i,cs,b2,b3,b4⟩:=a1.2 (p,0) a2;have hcs:cs=[]:=by
   cases cs with
   | nil=>rfl
   | cons c cs=>simp [CutsOk] at b3
  subst hcs;rw [lastOr_nil] at b4;subst b4;exact ⟨hW.mono fun _ _ k=>k.1,a1,a2,b1,b2,a3,a4,a5⟩
 refine ⟨⟨hL.start,Nat.zero_le _,fun z hz=>?_⟩,fun x y h=>⟨hL.node x y h.1,h.2.from_⟩,fun s i b t h1 h2 h3=>⟨hL.shift s i b t h1.1 h2 h3,?_⟩,fun s j p y c h1 h2 h3 h4=>?_,fun s j p y c t h1 h2 h3 h4 h5=>?_⟩
 ·refine (hd.start z).1 hz (fun x=>ItemAt g T w x 0) (fun y hy=>?_) (itemAt_closed hd w 0);obtain ⟨m,hm,rfl⟩:=List.mem_map.1 hy;have hl:=hd.left _ _ hm;exact ⟨by rw [hl];exact hm,0,[],by rw [hl];exact (at_closed g w).1,by simp [CutsOk],rfl⟩
 ·obtain ⟨_,hI⟩:=hd.shifts s b t h3
  have hi:i<w.length:=(gS.1 h2).1;have hnode:NodeI g T I w (t,i+1):=by
   refine ⟨hi,fun x hx=>?_⟩;refine (hI x).1 hx (fun x=>ItemAt g T w x (i+1)) (fun y hy=>?_) (itemAt_closed hd w _);obtain ⟨z,z1,⟨u,u1,u2,u3⟩,rfl⟩:=hy;exact itemAt_moved (h1.2.2 z z1) u1 (.inl ⟨u2,rfl,b,h2,u3⟩)
  refine ⟨fun p k hx=>?_,hnode,h1.2,Nat.le_succ _⟩;have:=(hI _).1 hx (fun x=>x.2=0∨∃ z,I s z /\ ByteAt g z b /\ x=(z.1,z.2+1)) (fun y hy=>.inr hy) (fun x hx y hy hk n hn=>.inl rfl)
  rcases this with h | ⟨⟨a,c⟩,z1,⟨u,u1,u2,u3⟩,z3⟩
  ·cases h
  ·simp only [Prod.mk.injEq,Nat.add_right_cancel_iff] at z3;obtain ⟨rfl,rfl⟩:=z3;exact ⟨z1,u,u1,.inl ⟨u2,rfl,b,h2,u3⟩,.inl ⟨u2,b,h2,h3⟩⟩
 ·obtain ⟨a1,a2,a3,a4,a5,a6,a7,a8⟩:=hway h1 h3 h4;exact ⟨hL.alt s j p y c h1.1 h2 h3 a1,a4,a5,a6,a7,h2⟩
 ·obtain ⟨a1,a2,a3,a4,a5,a6,a7,a8⟩:=hway h1 h3 h4;obtain ⟨_,hI⟩:=hd.gotos _ _ t h5;have hder:Der g w (T.left p) y.2 j:=by rw [<- a7];exact der_closed g w _ p y.2 c a2.1 a4 a6
  have hnode:NodeI g T I w (t,j):=by
   refine ⟨h2,fun x hx=>?_⟩;refine (hI x).1 hx (fun x=>ItemAt g T w x j) (fun v hv=>?_) (itemAt_closed hd w _);obtain ⟨z,z1,⟨u,u1,u2,u3⟩,rfl⟩:=hv;exact itemAt_moved (a2.2 z z1) u1 (.inr ⟨u2,by rw [u3];exact hder⟩)
  refine ⟨hL.goto_ s j p y c t h1.1 h2 h3 a1 h5,⟨fun q k hx=>?_,hnode,a2,a8⟩⟩;have:=(hI _).1 hx (fun x=>x.2=0∨∃ z,I y.1 z /\ SortAt g z (T.left p) /\ x=(z.1,z.2+1)) (fun y hy=>.inr hy) (fun x hx y hy hk n hn=>.inl rfl)
  rcases this with h | ⟨⟨a,c'⟩,z1,⟨u,u1,u2,u3⟩,z3⟩
  ·cases h
  ·simp only [Prod.mk.injEq,Nat.add_right_cancel_iff] at z3;obtain ⟨rfl,rfl⟩:=z3;exact ⟨z1,u,u1,.inr ⟨u2,by rw [u3];exact hder⟩,.inr ⟨u2,by rw [u3];exact h5⟩⟩
theorem sound {g:Gr} {T:Tab} {I:Nat->It->Prop} (hd:Dfa g T I) (w:List UInt8) :
  (∀ x,LN T w x->NodeI g T I w x) /\ (∀ x y,LE T w x y->EdgeI g T I w x y) /\ ∀ a,LA T w a->AltI g T w a :=
 least_ind (sound_closed hd w)
end Go.Proofs.YthiochcpmfkgcaaGreatDoor.Gl
/-
  PLAIN LAWS of package glr: the least sets of a text's beginning are those of the text,up to its place.
-/
namespace Go.Proofs.YthiochcpmfkgcaaGreatDoor.Gl
theorem way_down {E:Nd->Nd->Prop} (hE:∀ x y,E x y->y.2<=x.2):∀ {n:Nat} {x y:Nd} {c:List Nat},Way E n x y c->y.2<=x.2
 | 0,x,y,c,h=>by rw [h.1];exact nR _
 | n+1,x,y,c,⟨z,d,h1,h2,_⟩=>Nat.le_trans (way_down hE h2) (hE _ _ h1)
theorem least_down (T:Tab) (w:List UInt8):∀ x y,LE T w x y->y.2<=x.2:=by
 have hL:=least_closed T w;refine (least_ind (N:=fun _=>True) (E:=fun x y=>y.2<=x.2) (A:=fun _=>True) ⟨⟨hL.start,trivial⟩,fun x y h=>⟨hL.node x y h.1,trivial⟩,fun s i b t h1 h2 h3=>⟨hL.shift s i b t h1.1 h2 h3,Nat.le_succ _⟩,fun s j p y c h1 h2 h3 h4=>⟨hL.alt s j p y c h1.1 h2 h3 (h4.mono fun _ _ q=>q.1),trivial⟩,fun s j p y c t h1 h2 h3 h4 h5=>⟨hL.goto_ s j p y c t h1.1 h2 h3 (h4.mono fun _ _ q=>q.1) h5,?_⟩⟩).2.1;have hd:=way_down (E:=fun x y=>LE T w x y /\ y.2<=x.2) (fun _ _ q=>q.2) h4;exact hd
theorem least_place (T:Tab) (w:List UInt8):(∀ x,LN T w x->x.2<=w.length) /\ (∀ x y,LE T w x y->LN T w x /\ LN T w y /\ x.2<=w.length) /\ ∀ a,LA T w a->a.til<=w.length:=by
 have hL:=least_closed T w;have hto:∀ {E:Nd->Nd->Prop},(∀ x y,E x y->LN T w x /\ LN T w y)->∀ {n:Nat} {x y:Nd} {c:List Nat},LN T w x->Way E n x y c->LN T w y:=by
  intro E hE n
  induction n with
  | zero=>intro x y c hx h;rw [<- h.1];exact hx
  | succ n ih=>intro x y c hx h;obtain ⟨z,d,h1,h2,_⟩:=h;exact ih (hE _ _ h1).2 h2
 refine least_ind (N:=fun x=>x.2<=w.length) (E:=fun x y=>LN T w x /\ LN T w y /\ x.2<=w.length) (A:=fun a=>a.til<=w.length) ⟨⟨hL.start,Nat.zero_le _⟩,fun x y h=>⟨hL.node x y h.1,h.2.2.2⟩,fun s i b t h1 h2 h3=>?_,fun s j p y c h1 h2 h3 h4=>⟨hL.alt s j p y c h1.1 h2 h3 (h4.mono fun _ _ q=>q.1),h2⟩,fun s j p y c t h1 h2 h3 h4 h5=>?_⟩
 ·have hE:=hL.shift s i b t h1.1 h2 h3;exact ⟨hE,hL.node _ _ hE,h1.1,(gS.1 h2).1⟩
 ·have hE:=hL.goto_ s j p y c t h1.1 h2 h3 (h4.mono fun _ _ q=>q.1) h5;exact ⟨hE,hL.node _ _ hE,hto (fun _ _ q=>⟨q.2.1,q.2.2.1⟩) h1.1 h4,h2⟩
end Go.Proofs.YthiochcpmfkgcaaGreatDoor.Gl
/-
  PLAIN LAWS of package glr: how often an edge is tried.
-/
namespace Go.Proofs.YthiochcpmfkgcaaGreatDoor.Gl
open Tb (Gr Sy It ofS aheadF rightOf itemOk ClosedS)
theorem way_det {g:Gr} {T:Tab} {I:Nat->It->Prop} {w:List UInt8} {p:Nat}:∀ {n:Nat} {x x' y:Nd} {c:List Nat},Way (EdgeI g T I w) n x y c->Way (EdgeI g T I w) n x' y c->x.2=x'.2->I x.1 (p,n)->I x'.1 (p,n)->x=x'
 | 0,x,x',y,c,h,h',_,_,_=>h.1.trans h'.1.symm
 | n+1,x,x',y,c,⟨z,d,h1,h2,h3⟩,⟨z',d',h1',h2',h3'⟩,hx,hi,hi'=>by
  have hd:d=d':=by rw [h3] at h3';exact (List.append_inj' h3' rfl).1
  subst hd;obtain ⟨q1,s,q2,q3,q4⟩:=h1.back p n hi;obtain ⟨q1',s',q2',q3',q4'⟩:=h1'.back p n hi';have hz2:z.2=z'.2:=by
   cases n with
   | zero=>rw [h2.1,h2'.1]
   | succ n =>
    obtain ⟨_,e,_,_,e1⟩:=h2;obtain ⟨_,e',_,_,e1'⟩:=h2';rw [e1] at e1';have:=(List.append_inj' e1' rfl).2
    simpa using this
  have hz:=way_det h2 h2' hz2 q1 q1';subst hz;rw [q2] at q2'
  cases q2'
  refine Prod.ext ?_ hx
  rcases q4 with ⟨k1,b,k2,k3⟩ | ⟨k1,k2⟩
  ·rcases q4' with ⟨k1',b',k2',k3'⟩ | ⟨k1',_⟩
   ·rw [k2] at k2';cases k2';rw [k3] at k3';exact Option.some.inj k3'
   ·omega
  ·rcases q4' with ⟨k1',_⟩ | ⟨k1',k2'⟩
   ·omega
   ·rw [k2] at k2';exact Option.some.inj k2'
theorem backF_nodup {l:List (Nd × Nd)} (h:l.Nodup) (x:Nd):(backF l x).Nodup:=by
 unfold backF;rw [List.nodup_iff_pairwise_ne,List.pairwise_map];refine List.Pairwise.imp_of_mem ?_ (List.Pairwise.filter _ (List.nodup_iff_pairwise_ne.1 h));intro a b ha hb hne he;have h1:=beq_iff_eq.1 (List.mem_filter.1 ha).2;have h2:=beq_iff_eq.1 (List.mem_filter.1 hb).2;exact hne (Prod.ext (h1.trans h2.symm) he)
theorem way_len {E:Nd->Nd->Prop}:∀ {n:Nat} {x y:Nd} {c:List Nat},Way E n x y c->c.length=n
 | 0,_,_,_,h=>by rw [h.2];rfl
 | n+1,_,_,_,⟨z,d,_,h2,h3⟩=>by rw [h3,List.length_append,way_len h2];rfl
theorem way_le {E:Nd->Nd->Prop} (hE:∀ x y,E x y->y.2<=x.2):∀ {n:Nat} {x y:Nd} {c:List Nat},Way E n x y c->∀ v∈c,v<=x.2
 | 0,_,_,_,h,v,hv=>by rw [h.2] at hv;cases hv
 | n+1,x,y,c,⟨z,d,h1,h2,h3⟩,v,hv=>by
  rw [h3] at hv
  rcases List.mem_append.1 hv with hv | hv
  ·exact Nat.le_trans (way_le hE h2 v hv) (hE _ _ h1)
  ·rw [List.mem_singleton] at hv;rw [hv];exact nR _
theorem waysF_nodup {g:Gr} {T:Tab} {I:Nat->It->Prop} {w:List UInt8} {p:Nat} {l:List (Nd × Nd)} (hl:l.Nodup) (hE:∀ x y,eP l x y->EdgeI g T I w x y) :
  ∀ (n:Nat) (x:Nd),I x.1 (p,n)->(waysF l n x).Nodup
 | 0,x,_=>by unfold waysF;simp
 | n+1,x,hi=>by
  unfold waysF;rw [List.nodup_iff_pairwise_ne,List.pairwise_flatMap]
  constructor
  ·intro z hz;have hz:=backF_mem.1 hz;have:=waysF_nodup hl hE n z ((hE _ _ hz).back p n hi).1;rw [List.pairwise_map];refine List.Pairwise.imp ?_ (List.nodup_iff_pairwise_ne.1 this);intro a b hne he;rw [Prod.mk.injEq] at he;exact hne (Prod.ext he.1 (List.append_inj' he.2 rfl).1)
  ·refine List.Pairwise.imp_of_mem ?_ (List.nodup_iff_pairwise_ne.1 (backF_nodup hl x));intro z z' hz hz' hne u hu v hv he;subst he;obtain ⟨a,ha,rfl⟩:=List.mem_map.1 hu;obtain ⟨b,hb,he⟩:=List.mem_map.1 hv;rw [Prod.mk.injEq] at he;have hd:=(List.append_inj' he.2 rfl).1;have h1:=waysF_mem.1 ha;have h2:=waysF_mem.1 hb;rw [he.1,hd] at h2;have hz:=backF_mem.1 hz;have hz':=backF_mem.1 hz';have w1:=h1.mono hE;have w2:=h2.mono hE;refine hne ?_;have i1:=((hE _ _ hz).back p n hi).1;have i2:=((hE _ _ hz').back p n hi).1;refine way_det w1 w2 ?_ i1 i2
   cases n with
   | zero=>rw [h1.1,h2.1]
   | succ n =>
    obtain ⟨_,e,_,_,e1⟩:=h1;obtain ⟨_,e',_,_,e1'⟩:=h2;rw [e1] at e1';have:=(List.append_inj' e1' rfl).2
    simpa using this
def codeF (m:Nat):List Nat->Nat
 | []=>0
 | c::cs=>c+m * codeF m cs
theorem code_lt {m:Nat}:∀ (l:List Nat),(∀ v∈l,v<m)->codeF m l<m ^ l.length
 | [],_=>by simp [codeF]
 | c::cs,h=>by
  have h1:=code_lt cs (fun v hv=>h v (by simp [hv]));have h2:=h c (by simp);unfold codeF;rw [List.length_cons,Nat.pow_succ]
  calc c+m * codeF m cs<m+m * codeF m cs:=by omega
   _=m * (codeF m cs+1):=by rw [Nat.mul_add,Nat.mul_one,Nat.add_comm]
   _<=m * m ^ cs.length:=Nat.mul_le_mul_left _ h1
   _=m ^ cs.length * m:=Nat.mul_comm _ _
theorem code_inj {m:Nat}:∀ (l k:List Nat),l.length=k.length->(∀ v∈l,v<m)->(∀ v∈k,v<m)->codeF m l=codeF m k->l=k
 | [],[],_,_,_,_=>rfl
 | c::cs,d::ds,hn,hl,hk,h=>by
  have h1:=hl c (by simp);have h2:=hk d (by simp)
  unfold codeF at h;have hcd:c=d:=by
   have:=congrArg (· % m) h;simp only [Nat.add_mul_mod_self_left] at this
   rwa [Nat.mod_eq_of_lt h1,Nat.mod_eq_of_lt h2] at this
  subst hcd;have h3:codeF m cs=codeF m ds:=Nat.eq_of_mul_eq_mul_left (by omega) (Nat.add_left_cancel h);rw [code_inj cs ds (by simpa using hn) (fun v hv=>hl v (by simp [hv])) (fun v hv=>hk v (by simp [hv])) h3]
theorem nodup_bound:∀ (n:Nat) (l:List Nat),l.Nodup->(∀ v∈l,v<n)->l.length<=n:=by
 intro n l hl hb;have:=Tb.nodup_le l (List.range n) hl (fun v hv=>List.mem_range.2 (hb v hv))
 rwa [List.length_range] at this
theorem ways_to {g:Gr} {T:Tab} {I:Nat->It->Prop} {w:List UInt8} {p:Nat} {l:List (Nd × Nd)} (hl:l.Nodup) (hE:∀ x y,eP l x y->EdgeI g T I w x y) (n:Nat) (x y0:Nd) (hi:I x.1 (p,n)) (m:Nat) (hm:x.2<m) :
  ((waysF l n x).filter fun y=>y.1==y0).length<=m ^ n:=by
 have hnd:=waysF_nodup hl hE n x hi;have hall:∀ y∈(waysF l n x).filter fun y=>y.1==y0,y.1=y0 /\ y.2.length=n /\ ∀ v∈y.2,v<m:=fun y hy=>by
  obtain ⟨h1,h2⟩:=List.mem_filter.1 hy;have h3:=waysF_mem.1 h1;exact ⟨beq_iff_eq.1 h2,way_len h3,fun v hv=>Nat.lt_of_le_of_lt (way_le (fun _ _ q=>(hE _ _ q).le) h3 v hv) hm⟩
 have h2:=nodup_bound (m ^ n) (((waysF l n x).filter fun y=>y.1==y0).map fun y=>codeF m y.2) (by
  rw [List.nodup_iff_pairwise_ne,List.pairwise_map];refine List.Pairwise.imp_of_mem ?_ (List.nodup_iff_pairwise_ne.1 (hnd.filter _));intro a b ha hb hne he;obtain ⟨a1,a2,a3⟩:=hall a ha;obtain ⟨b1,b2,b3⟩:=hall b hb;exact hne (Prod.ext (a1.trans b1.symm) (code_inj _ _ (a2.trans b2.symm) a3 b3 he))) (fun v hv=>by
  obtain ⟨a,ha,rfl⟩:=List.mem_map.1 hv;obtain ⟨a1,a2,a3⟩:=hall a ha;rw [<- a2];exact code_lt _ a3)
 rwa [List.length_map] at h2
end Go.Proofs.YthiochcpmfkgcaaGreatDoor.Gl
/-
  PLAIN LAWS of package glr: how often an edge is tried,in the whole run.
-/
namespace Go.Proofs.YthiochcpmfkgcaaGreatDoor.Gl
open Tb (Gr Sy It ofS aheadF rightOf itemOk ClosedS)
def outB:Out (Rn × Bool)->Rn
 | .stop r=>r
 | .ok v=>v.1
def outA:Out Rn->Rn
 | .stop r=>r
 | .ok r=>r
structure Tried (e:Nd × Nd) (n:Nat) (r r':Rn):Prop where
 le:r'.left<=r.left
 few:r'.tries.count e<=r.tries.count e+n
theorem Tried.refl (e:Nd × Nd) (r:Rn):Tried e 0 r r:=⟨nR _,nR _⟩
theorem Tried.trans {e:Nd × Nd} {n m:Nat} {r r1 r2:Rn} (h:Tried e n r r1) (k:Tried e m r1 r2):Tried e (n+m) r r2 :=
 ⟨Nat.le_trans k.le h.le,by have:=h.few;have:=k.few;omega⟩
theorem Tried.mono {e:Nd × Nd} {n m:Nat} {r r1:Rn} (h:Tried e n r r1) (k:n<=m):Tried e m r r1:=⟨h.le,Nat.le_trans h.few (by omega)⟩
theorem altF_tried (e:Nd × Nd) (r:Rn) (a:Al):Tried e 0 r (outB (altF r a)):=by
 unfold altF
 split
 ·exact Tried.refl e r
 ·split
  ·exact Tried.refl e r
  ·exact ⟨Nat.sub_le _ _,nR _⟩
theorem linkF_tried (e:Nd × Nd) (r:Rn) (x y:Nd):Tried e (if (x,y)=e then 1 else 0) r (outB (linkF r x y)):=by
 have hc:(r.tries++[(x,y)]).count e=r.tries.count e+(if (x,y)=e then 1 else 0):=by
  rw [List.count_append,List.count_singleton];congr 1
  by_cases h:(x,y)=e
  ·simp [h]
  ·rw [if_neg h,if_neg (by simpa using h)]
 unfold linkF
 by_cases hm:(x,y)∈r.edges
 ·rw [if_pos hm];exact ⟨nR _,Nat.le_of_eq hc⟩
 ·rw [if_neg hm]
  by_cases h0:r.left=0
  ·rw [if_pos h0];exact ⟨nR _,Nat.le_of_eq hc⟩
  ·rw [if_neg h0];exact ⟨Nat.sub_le _ _,Nat.le_of_eq hc⟩
theorem foundF_tried (T:Tab) (j p:Nat) (e:Nd × Nd):∀ (l:List (Nd × List Nat)) (r:Rn) (f:Bool),Tried e (l.filter fun y=>y.1==e.2).length r (outB (foundF T j p l r f))
 | [],r,f=>Tried.refl e r
 | y::l,r,f=>by
  rw [foundF];have h1:=altF_tried e r ⟨p,y.1.2,j,y.2⟩;have hf:∀ n,n<=(l.filter fun y=>y.1==e.2).length+(if y.1=e.2 then 1 else 0)->n<=((y::l).filter fun y=>y.1==e.2).length:=fun n hn=>by
   rw [List.filter_cons]
   by_cases h:y.1=e.2
   ·rw [if_pos h] at hn;rw [if_pos (by simp [h])]
    simpa using hn
   ·rw [if_neg h] at hn;rw [if_neg (by simpa using h)]
    simpa using hn
  cases ha:altF r ⟨p,y.1.2,j,y.2⟩ with
  | stop r1=>rw [ha] at h1;exact h1.mono (Nat.zero_le _)
  | ok v =>
   obtain ⟨r1,f1⟩:=v;rw [ha] at h1
   cases hg:T.goto_ y.1.1 (T.left p) with
   | none =>
    dsimp only;exact (h1.trans (foundF_tried T j p e l r1 (f || f1))).mono (hf _ (by omega))
   | some t =>
    dsimp only;have h2:=linkF_tried e r1 (t,j) y.1;have hle:(if ((t,j),y.1)=e then 1 else 0)<=(if y.1=e.2 then 1 else 0):=by
     by_cases h:((t,j),y.1)=e
     ·subst h;simp
     ·rw [if_neg h];exact Nat.zero_le _
    cases hl:linkF r1 (t,j) y.1 with
    | stop r2 =>
     rw [hl] at h2;exact (h1.trans h2).mono (hf _ (by omega))
    | ok v =>
     obtain ⟨r2,f2⟩:=v;rw [hl] at h2;dsimp only;exact ((h1.trans h2).trans (foundF_tried T j p e l r2 (f || f1 || f2))).mono (hf _ (by omega))
structure Small (T:Tab) (w:List UInt8) (P L M:Nat):Prop where
 prods:∀ s,(T.done s).length<=P
 syms:∀ s p,p∈T.done s->T.len p<=L
 nodes:∀ l:List Nd,l.Nodup->(∀ x∈l,LN T w x)->l.length<=M
theorem prodsF_tried {g:Gr} {T:Tab} {I:Nat->It->Prop} (hd:Dfa g T I) {w:List UInt8} {B P L M:Nat} (hs:Small T w P L M) {x:Nd} (hx:LN T w x) (hw:x.2<=w.length) (e:Nd × Nd) :
  ∀ (l:List Nat) (r:Rn) (f:Bool),(∀ p∈l,p∈T.done x.1)->Inv T w B r->x∈r.nodes->Tried e (l.length * (w.length+1) ^ L) r (outB (prodsF T x l r f))
 | [],r,f,_,_,_=>by rw [prodsF];exact (Tried.refl e r).mono (Nat.zero_le _)
 | p::l,r,f,hl,hI,hn=>by
  rw [prodsF];have hp:=hl p (by simp);have h1:=foundF_tried T x.2 p e (waysF r.edges (T.len p) x) r f;have h2:=ways_to (w:=w) hI.ed (fun a b h=>(sound hd w).2.1 _ _ (hI.se _ h)) (T.len p) x e.2 (by rw [hd.len];exact (hd.done x.1 p).1 hp) (w.length+1) (by omega);have h3:(w.length+1) ^ (T.len p)<=(w.length+1) ^ L:=Nat.pow_le_pow_right (by omega) (hs.syms _ _ hp)
  have h1:=h1.mono (Nat.le_trans h2 h3);have hF:=foundF_law hx hw hp (waysF r.edges (T.len p) x) r f hI (fun y hy=>by
   have h:=waysF_mem.1 hy;exact ⟨way_least hI h,way_ends hI hn h⟩)
  have hlen:(p::l).length * (w.length+1) ^ L=(w.length+1) ^ L+l.length * (w.length+1) ^ L:=by rw [List.length_cons,Nat.succ_mul,Nat.add_comm]
  cases hf:foundF T x.2 p (waysF r.edges (T.len p) x) r f with
  | stop r1=>rw [hf] at h1;exact h1.mono (by rw [hlen];exact Nat.le_add_right _ _)
  | ok v =>
   obtain ⟨r1,f1⟩:=v;rw [hf] at h1 hF;obtain ⟨i1,⟨g1,_,g2⟩,_⟩:=hF;dsimp only;rw [hlen];exact h1.trans (prodsF_tried hd hs hx hw e l r1 f1 (fun q hq=>hl q (by simp [hq])) i1 (g2.nodeIn hn))
theorem passF_tried {g:Gr} {T:Tab} {I:Nat->It->Prop} (hd:Dfa g T I) {w:List UInt8} {B P L M:Nat} (hs:Small T w P L M) {j:Nat} (hw:j<=w.length) (e:Nd × Nd) :
  ∀ (l:List Nat) (r:Rn),(∀ s∈l,(s,j)∈r.nodes)->Inv T w B r->Tried e (l.length * (P * (w.length+1) ^ L)) r (outB (passF T j l r))
 | [],r,_,_=>by rw [passF];exact (Tried.refl e r).mono (Nat.zero_le _)
 | s::l,r,hl,hI=>by
  rw [passF];have hn:=hl s (by simp);have h1:Tried e (P * (w.length+1) ^ L) r (outB (reduceF T r (s,j))):=(prodsF_tried hd hs (hI.sn _ hn) hw e (T.done s) r false (fun p hp=>hp) hI hn).mono (Nat.mul_le_mul_right _ (hs.prods s));have hF:=reduceF_law (x:=(s,j)) hw hI hn;have hlen:(s::l).length * (P * (w.length+1) ^ L)=P * (w.length+1) ^ L+l.length * (P * (w.length+1) ^ L):=by rw [List.length_cons,Nat.succ_mul,Nat.add_comm]
  cases hf:reduceF T r (s,j) with
  | stop r1=>rw [hf] at h1;exact h1.mono (by rw [hlen];exact Nat.le_add_right _ _)
  | ok v =>
   obtain ⟨r1,f1⟩:=v;rw [hf] at h1 hF;obtain ⟨i1,g1,_⟩:=hF
   cases f1 with
   | true=>exact h1.mono (by rw [hlen];exact Nat.le_add_right _ _)
   | false =>
    dsimp only;rw [hlen];exact h1.trans (passF_tried hd hs hw e l r1 (fun t ht=>g1.nodeIn (hl t (by simp [ht]))) i1)
theorem row_few {T:Tab} {w:List UInt8} {B P L M:Nat} (hs:Small T w P L M) {r:Rn} (hI:Inv T w B r) (j:Nat):(rowF r j).length<=M:=by
 unfold rowF;rw [List.length_map];exact Nat.le_trans (List.length_filter_le _ _) (hs.nodes _ hI.nd hI.sn)
theorem againF_tried {g:Gr} {T:Tab} {I:Nat->It->Prop} (hd:Dfa g T I) {w:List UInt8} {B P L M:Nat} (hs:Small T w P L M) {j:Nat} (hw:j<=w.length) (e:Nd × Nd) :
  ∀ (f:Nat) (r:Rn),r.left<f->Inv T w B r->Tried e ((r.left - (outA (againF T j f r)).left+1) * (M * (P * (w.length+1) ^ L))) r (outA (againF T j f r))
 | 0,r,hf,_=>by omega
 | f+1,r,hf,hI=>by
  rw [againF];have h1:=(passF_tried hd hs hw e (rowF r j) r (fun s hs=>rowF_mem.1 hs) hI).mono (Nat.mul_le_mul_right _ (row_few hs hI j));have hF:=passF_law hw (rowF r j) r (fun s hs=>rowF_mem.1 hs) hI;have one:∀ n:Nat,M * (P * (w.length+1) ^ L)<=(n+1) * (M * (P * (w.length+1) ^ L)):=fun n=>Nat.le_mul_of_pos_left _ (Nat.succ_pos n)
  cases hp:passF T j (rowF r j) r with
  | stop r1=>rw [hp] at h1;exact h1.mono (one _)
  | ok v =>
   obtain ⟨r1,f1⟩:=v;rw [hp] at h1 hF;obtain ⟨i1,g1,_⟩:=hF
   cases f1 with
   | false=>exact h1.mono (one _)
   | true =>
    dsimp only;have hlt:=g1.less rfl;have h2:=againF_tried hd hs hw e f r1 (by omega) i1;refine (h1.trans h2).mono ?_;have hle:=h2.le;generalize hK:M * (P * (w.length+1) ^ L)=K;have:K+(r1.left - (outA (againF T j f r1)).left+1) * K=(r1.left - (outA (againF T j f r1)).left+1+1) * K:=by rw [Nat.succ_mul (r1.left - (outA (againF T j f r1)).left+1),Nat.add_comm]
    rw [this];exact Nat.mul_le_mul_right _ (by omega)
theorem shiftsF_tried (T:Tab) (j:Nat) (b:UInt8) (e:Nd × Nd):∀ (l:List Nat) (r:Rn),Tried e l.length r (outA (shiftsF T j b l r))
 | [],r=>Tried.refl e r
 | s::l,r=>by
  rw [shiftsF]
  cases ht:T.shift s b with
  | none=>exact (shiftsF_tried T j b e l r).mono (by simp)
  | some t =>
   dsimp only;have h1:=(linkF_tried e r (t,j+1) (s,j)).mono (m:=1) (by split <;> omega)
   cases hl:linkF r (t,j+1) (s,j) with
   | stop r1=>rw [hl] at h1;exact h1.mono (by simp)
   | ok v =>
    obtain ⟨r1,f1⟩:=v;rw [hl] at h1;exact (h1.trans (shiftsF_tried T j b e l r1)).mono (by simp;omega)
theorem placeF_tried {g:Gr} {T:Tab} {I:Nat->It->Prop} (hd:Dfa g T I) {w:List UInt8} {B P L M:Nat} (hs:Small T w P L M) {j:Nat} (hw:j<=w.length) (e:Nd × Nd) (r:Rn) (hI:Inv T w B r) :
  Tried e ((r.left - (outA (placeF T w j r)).left+1) * (M * (P * (w.length+1) ^ L))+M) r (outA (placeF T w j r)):=by
 have h1:=againF_tried hd hs hw e (r.left+1) r (Nat.lt_succ_self _) hI;have hA:=againF_law hw (r.left+1) r (Nat.lt_succ_self _) hI;unfold placeF
 cases ha:againF T j (r.left+1) r with
 | stop r1=>rw [ha] at h1;exact h1.mono (Nat.le_add_right _ _)
 | ok r1 =>
  rw [ha] at h1 hA;dsimp only
  cases hb:w[j]? with
  | none=>exact h1.mono (Nat.le_add_right _ _)
  | some b =>
   dsimp only;have h2:=shiftsF_tried T j b e (rowF r1 j) r1;refine (h1.trans (h2.mono (row_few hs hA.1 j))).mono ?_;have:=h2.le;refine Nat.add_le_add_right (Nat.mul_le_mul_right _ ?_) _;show r.left - r1.left+1<=_;omega
theorem goneGo_tried {g:Gr} {T:Tab} {I:Nat->It->Prop} (hd:Dfa g T I) {w:List UInt8} {B P L M:Nat} (hs:Small T w P L M) (e:Nd × Nd):∀ (k j:Nat) (r:Rn),j+k=w.length+1->Inv T w B r->Upto T w j r ->
  Tried e ((r.left - (outA (goneGo T w k j r)).left+k) * (M * (P * (w.length+1) ^ L))+k * M) r (outA (goneGo T w k j r))
 | 0,j,r,hj,hI,hU=>(Tried.refl e r).mono (Nat.zero_le _)
 | k+1,j,r,hj,hI,hU=>by
  rw [goneGo]
  by_cases he:rowF r j=[]
  ·rw [if_pos he];exact (Tried.refl e r).mono (Nat.zero_le _)
  ·rw [if_neg he];have h1:=placeF_tried hd hs (by omega:j<=w.length) e r hI;have hP:=placeF_law (by omega:j<=w.length) hI hU;generalize hK:M * (P * (w.length+1) ^ L)=K at h1
   cases hp:placeF T w j r with
   | stop r1 =>
    rw [hp] at h1;refine h1.mono ?_;show (r.left - r1.left+1) * K+M<=(r.left - r1.left+(k+1)) * K+(k+1) * M;exact Nat.add_le_add (Nat.mul_le_mul_right _ (by omega)) (Nat.le_mul_of_pos_left _ (Nat.succ_pos k))
   | ok r1 =>
    rw [hp] at hP h1;dsimp only;have h2:=goneGo_tried hd hs e k (j+1) r1 (by omega) hP.1 hP.2
    rw [hK] at h2;refine (h1.trans h2).mono ?_;have:=h2.le;have:=h1.le;generalize (outA (goneGo T w k (j+1) r1)).left=z at *;have e1:(r.left - r1.left+1) * K+(r1.left - z+k) * K=(r.left - z+(k+1)) * K:=by
     rw [<- Nat.add_mul];congr 1;have:r1.left<=r.left:=h1.le;omega
    have e2:(k+1) * M=M+k * M:=by rw [Nat.succ_mul,Nat.add_comm]
    show (r.left - r1.left+1) * K+M+((r1.left - z+k) * K+k * M)<=(r.left - z+(k+1)) * K+(k+1) * M;rw [<- e1,e2];omega
theorem goneF_tried {g:Gr} {T:Tab} {I:Nat->It->Prop} (hd:Dfa g T I) {w:List UInt8} (B:Nat) {P L M:Nat} (hs:Small T w P L M) (e:Nd × Nd) :
  (outA (goneF T w B)).tries.count e<=(B - (outA (goneF T w B)).left+(w.length+1)) * (M * (P * (w.length+1) ^ L))+(w.length+1) * M:=by
 have h0:Inv T w B (newF B):=⟨by simp [newF],by simp [newF],by simp [newF],by simp [newF],fun x hx=>by
  simp only [newF,List.mem_singleton] at hx;subst hx;exact (least_closed T w).start,fun e he=>by simp [newF] at he,fun e he=>by simp [newF] at he,fun e he=>by simp [newF] at he⟩
 have hU:Upto T w 0 (newF B):=⟨fun x hx h=>by omega,fun x hx h=>by omega,fun x hx=>by simp only [newF,List.mem_singleton] at hx;subst hx;simp,by simp [newF]⟩;have h:=(goneGo_tried hd hs e (w.length+1) 0 (newF B) (by omega) h0 hU).few;rw [show (newF B).tries.count e=0 from rfl,Nat.zero_add] at h;exact h
end Go.Proofs.YthiochcpmfkgcaaGreatDoor.Gl
