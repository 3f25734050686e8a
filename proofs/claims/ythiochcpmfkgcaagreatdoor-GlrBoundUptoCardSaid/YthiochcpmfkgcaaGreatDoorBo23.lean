/- Walks and plain laws that the last text stands on: GlO, GlJ, GlF, GlBd, GlBe, GlTimes, GlArr, GlChoose. -/
import Derived.Test.YthiochcpmfkgcaaGreatDoorBo1
import Derived.Test.YthiochcpmfkgcaaGreatDoorBo5
import Derived.Test.YthiochcpmfkgcaaGreatDoorBo6
import Derived.Laws.BitsLemmas
import Derived.Laws.MakeOwn
import Derived.Test.YthiochcpmfkgcaaGreatDoorBo21
import Derived.WalkSmall
import Derived.Deep.CutRange
set_option linter.unusedVariables false
set_option linter.unusedSimpArgs false
set_option maxRecDepth 100000
set_option maxHeartbeats 16000000
/-
  PLAIN LAWS of package glr: how many falling lists there are.
-/
namespace Go.Proofs.YthiochcpmfkgcaaGreatDoor.Gl
def binF:Nat->Nat->Nat
 | _,0=>1
 | 0,_+1=>0
 | n+1,k+1=>binF n k+binF n (k+1)
def Falls:Nat->List Nat->Prop
 | _,[]=>True
 | n,a::t=>a<=n /\ Falls a t
theorem falls_count:∀ (m n:Nat) (L:List (List Nat)),L.Nodup->(∀ l∈L,l.length=m /\ Falls n l)->L.length<=binF (n+m) m
 | 0,n,L,hn,h=>by
  have h1:L.length<=[([]:List Nat)].length:=Tb.nodup_le L [[]] hn (fun l hl=>by
   have:=(h l hl).1;rw [List.length_eq_zero_iff] at this;rw [this];simp)
  simpa [binF] using h1
 | m+1,n,L,hn,h=>by
  have hsplit:L.length=(L.filter fun l=>l.head?==some n).length+(L.filter fun l=>!(l.head?==some n)).length:=by
   induction L with
   | nil=>rfl
   | cons l L ih =>
    have ih:=ih (List.nodup_cons.1 hn).2 (fun k hk=>h k (by simp [hk]))
    rw [List.filter_cons,List.filter_cons]
    cases hc:(l.head?==some n) <;> simp <;> omega
  have h1:((L.filter fun l=>l.head?==some n).map List.tail).length<=binF (n+m) m:=by
   refine falls_count m n _ ?_ (fun l hl=>?_)
   ·rw [List.nodup_iff_pairwise_ne,List.pairwise_map]
    refine List.Pairwise.imp_of_mem ?_ (List.nodup_iff_pairwise_ne.1 (hn.filter _));intro a b ha hb hne he;have e1:=beq_iff_eq.1 (List.mem_filter.1 ha).2;have e2:=beq_iff_eq.1 (List.mem_filter.1 hb).2
    cases a with
    | nil=>cases e1
    | cons x a =>
     cases b with
     | nil=>cases e2
     | cons y b =>
      simp at e1 e2 he;exact hne (by rw [e1,e2,he])
   ·obtain ⟨k,hk,rfl⟩:=List.mem_map.1 hl
    obtain ⟨k1,k2⟩:=List.mem_filter.1 hk;obtain ⟨q1,q2⟩:=h k k1
    cases k with
    | nil=>simp at q1
    | cons x k =>
     have k2:=beq_iff_eq.1 k2;simp at k2 q1;subst k2;exact ⟨q1,q2.2⟩
  rw [List.length_map] at h1;have h2:(L.filter fun l=>!(l.head?==some n)).length<=binF (n+m) (m+1):=by
   have hin:∀ l∈L.filter (fun l=>!(l.head?==some n)),l.length=m+1 /\ ∃ x t,l=x::t /\ x<n /\ Falls x t:=fun l hl=>by
    obtain ⟨k1,k2⟩:=List.mem_filter.1 hl;obtain ⟨q1,q2⟩:=h l k1
    cases l with
    | nil=>simp at q1
    | cons x t =>
     refine ⟨q1,x,t,rfl,?_,q2.2⟩;have:=q2.1;simp at k2;omega
   cases n with
   | zero =>
    have:L.filter (fun l=>!(l.head?==some 0))=[]:=by
     cases hL:L.filter (fun l=>!(l.head?==some 0)) with
     | nil=>rfl
     | cons l t =>
      obtain ⟨_,x,_,_,hx,_⟩:=hin l (by rw [hL];simp)
      omega
    rw [this];exact Nat.zero_le _
   | succ n =>
    have:=falls_count (m+1) n _ (hn.filter _) (fun l hl=>by
     obtain ⟨q1,x,t,rfl,q2,q3⟩:=hin l hl;exact ⟨q1,by omega,q3⟩)
    rwa [show n+(m+1)=n+1+m by omega] at this
  rw [hsplit,show n+(m+1)=(n+m)+1 by omega]
  exact Nat.add_le_add h1 h2
termination_by m n=>m+n
end Go.Proofs.YthiochcpmfkgcaaGreatDoor.Gl
/-
  PLAIN LAWS of package glr: runs with other budgets,runs over beginnings.
-/
namespace Go.Proofs.YthiochcpmfkgcaaGreatDoor.Gl
def stepsF (r:Rn):Nat:=r.edges.length+r.alts.length
structure Ended (T:Tab) (w:List UInt8) (r:Rn):Prop where
 nd:r.nodes.Nodup
 ed:r.edges.Nodup
 ad:r.alts.Nodup
 nodes:∀ x,x∈r.nodes↔LN T w x
 edges:∀ x y,(x,y)∈r.edges↔LE T w x y
 alts:∀ a,a∈r.alts↔LA T w a
theorem ended {T:Tab} {w:List UInt8} {B:Nat} {r:Rn} (h:goneF T w B=.ok r):Ended T w r /\ r.left+stepsF r=B:=by
 have:=goneF_law T w B;rw [h] at this;obtain ⟨h1,h2,h3,h4,h5,h6,h7,_⟩:=this;exact ⟨⟨h1,h2,h3,h5,h6,h7⟩,by unfold stepsF;omega⟩
theorem above {T:Tab} {w:List UInt8} {B:Nat} {r:Rn} (h:goneF T w B=.stop r):Above T w B:=by
 have:=goneF_law T w B
 rwa [h] at this
end Go.Proofs.YthiochcpmfkgcaaGreatDoor.Gl
/-
  PLAIN LAWS of package glr: the run misses nothing: whatever the grammar derives it has;what comes next.
-/
namespace Go.Proofs.YthiochcpmfkgcaaGreatDoor.Gl
open Tb (Gr Sy It ofS aheadF rightOf itemOk ClosedS)
theorem lastOr_le {g:Gr} {D:Int->Nat->Nat->Prop} {w:List UInt8} (hD:∀ A i j,D A i j->i<=w.length->i<=j /\ j<=w.length):∀ {r:List Sy} {i:Nat} {cs:List Nat},CutsOk D w r i cs->i<=w.length->i<=lastOr i cs /\ lastOr i cs<=w.length
 | [],i,[],_,h=>⟨Nat.le_refl _,h⟩
 | [],_,_::_,k,_=>k.elim
 | _::_,_,[],k,_=>k.elim
 | s::r,i,c::cs,k,h=>by
  have hc:i<=c /\ c<=w.length:=by
   rcases k.1 with ⟨_,h1,b,h2,_⟩ | ⟨_,h1⟩
   ·have:=(List.getElem?_eq_some_iff.1 h2).1
    omega
   ·exact hD _ _ _ h1 h
  have:=lastOr_le (g:=g) hD k.2 hc.2;rw [lastOr_cons];exact ⟨Nat.le_trans hc.1 this.1,this.2⟩
def Has (T:Tab) (I:Nat->It->Prop) (g:Gr) (w:List UInt8) (A:Int) (i j:Nat):Prop :=
 i<=w.length->(i<=j /\ j<=w.length) /\ ∀ s,LN T w (s,i)->(∃ x,I s x /\ SortAt g x A)->∃ t,T.goto_ s A=some t /\ LE T w (t,j) (s,i)
theorem walk_to {g:Gr} {T:Tab} {I:Nat->It->Prop} (hd:Dfa g T I) {w:List UInt8} {p s i:Nat} (hn:LN T w (s,i)) (hi:i<=w.length) (h0:I s (p,0)) :
  ∀ (k:Nat) (cs:List Nat),k<=(rightOf g p).length->CutsOk (Has T I g w) w ((rightOf g p).take k) i cs ->
  ∃ u,LN T w (u,lastOr i cs) /\ I u (p,k) /\ Way (LE T w) k (u,lastOr i cs) (s,i) cs
 | 0,cs,_,h=>by
  cases cs with
  | cons c cs=>simp [CutsOk] at h
  | nil=>exact ⟨s,hn,h0,rfl,rfl⟩
 | k+1,cs,hk,h=>by
  have hy:aheadF g (p,k)=some ((rightOf g p)[k]):=List.getElem?_eq_getElem (show k<(rightOf g p).length by omega)
  rw [show (rightOf g p).take (k+1)=_ from take_succ (x:=(p,k)) hy] at h;obtain ⟨ds,c,rfl,h1,h2⟩:=cuts_snoc.1 h;obtain ⟨u,u1,u2,u3⟩:=walk_to hd hn hi h0 k ds (by omega) h1
  have hle:=lastOr_le (g:=g) (fun A i j (q:Has T I g w A i j) hi=>(q hi).1) h1 hi
  rw [lastOr_snoc];have hstep:∃ t,LE T w (t,c) (u,lastOr i ds) /\ I t (p,k+1):=by
   rcases h2 with ⟨q1,q2,b,q3,q4⟩ | ⟨q1,q2⟩
   ·obtain ⟨t,ht⟩:=hd.shift u (p,k) b u2 ⟨_,hy,q1,q4⟩
    refine ⟨t,by rw [q2];exact (least_closed T w).shift u _ b t u1 q3 ht,?_⟩
    exact ((hd.shifts u b t ht).2 _).2 fun S e1 e2=>e1 _ ⟨(p,k),u2,⟨_,hy,q1,q4⟩,rfl⟩
   ·obtain ⟨t,ht,hE⟩:=(q2 hle.2).2 u u1 ⟨(p,k),u2,_,hy,q1,rfl⟩
    exact ⟨t,hE,((hd.gotos u _ t ht).2 _).2 fun S e1 e2=>e1 _ ⟨(p,k),u2,⟨_,hy,q1,rfl⟩,rfl⟩⟩
  obtain ⟨t,t1,t2⟩:=hstep;exact ⟨t,(least_closed T w).node _ _ t1,t2,(u,lastOr i ds),ds,t1,u3,rfl⟩
theorem has_closed {g:Gr} {T:Tab} {I:Nat->It->Prop} (hd:Dfa g T I) (w:List UInt8):DClosed g w (Has T I g w):=by
 intro A p i cs hi hp hc _;refine ⟨lastOr_le (g:=g) (fun A i j (q:Has T I g w A i j) hi=>(q hi).1) hc hi,fun s hs ⟨x,hx,y,hy,hk,hA⟩=>?_⟩
 have hle:=lastOr_le (g:=g) (fun A i j (q:Has T I g w A i j) hi=>(q hi).1) hc hi
 have h0:I s (p,0):=hd.closed s x hx y hy hk p (by rw [hA];exact hp)
 obtain ⟨u,u1,u2,u3⟩:=walk_to hd hs hi h0 (rightOf g p).length cs (Nat.le_refl _) (by rw [List.take_length];exact hc)
 obtain ⟨t,ht⟩:=hd.goto_ s x A hx ⟨y,hy,hk,hA⟩;refine ⟨t,ht,?_⟩;have hl:=hd.left A p hp;refine (least_closed T w).goto_ u (lastOr i cs) p (s,i) cs t u1 hle.2 ((hd.done u p).2 u2) ?_ (by rw [hl];exact ht)
 rw [hd.len];exact u3
theorem der_has {g:Gr} {T:Tab} {I:Nat->It->Prop} (hd:Dfa g T I) (w:List UInt8) {A:Int} {i j:Nat} (h:Der g w A i j):Has T I g w A i j:=h _ (has_closed hd w)
theorem der_le {g:Gr} {w:List UInt8} {A:Int} {i j:Nat} (h:Der g w A i j) (hi:i<=w.length):i<=j /\ j<=w.length:=by
 refine h (fun A i j=>i<=w.length->i<=j /\ j<=w.length) (fun A p i cs hi hp hc _=>?_) hi
 exact lastOr_le (g:=g) (fun A i j q hi=>q hi) hc hi
theorem at_node {g:Gr} {T:Tab} {I:Nat->It->Prop} (hd:Dfa g T I) (w:List UInt8) {A:Int} {i:Nat} (h:At g w A i):∃ s,LN T w (s,i) /\ ∀ p∈ofS g A,I s (p,0):=by
 refine h (fun A i=>∃ s,LN T w (s,i) /\ ∀ p∈ofS g A,I s (p,0)) ⟨⟨0,(least_closed T w).start,fun p hp=>(hd.start _).2 fun S e1 e2=>e1 _ (List.mem_map.2 ⟨p,hp,rfl⟩)⟩,?_⟩
 intro A p i k cs y ⟨s,s1,s2⟩ hp hy hk hc;have hkl:k<(rightOf g p).length:=(List.getElem?_eq_some_iff.1 hy).1;obtain ⟨u,u1,u2,u3⟩:=walk_to hd s1 ((sound hd w).1 _ s1).1 (s2 p hp) k cs (by omega) (hc.mono fun _ _ _ q=>der_has hd w q)
 exact ⟨u,u1,fun q hq=>hd.closed u (p,k) u2 y hy hk q hq⟩
theorem alts_iff {g:Gr} {T:Tab} {I:Nat->It->Prop} (hd:Dfa g T I) (w:List UInt8) (a:Al):LA T w a↔∃ A,a.prod∈ofS g A /\ At g w A a.src /\ CutsOk (Der g w) w (rightOf g a.prod) a.src a.cuts /\ lastOr a.src a.cuts=a.til:=by
 constructor
 ·intro h
  obtain ⟨h1,h2,h3,h4,h5⟩:=(sound hd w).2.2 a h;exact ⟨_,h1,h2,h3,h4⟩
 ·rintro ⟨A,h1,h2,h3,h4⟩
  obtain ⟨s,s1,s2⟩:=at_node hd w h2;have hi:=((sound hd w).1 _ s1).1;obtain ⟨u,u1,u2,u3⟩:=walk_to hd s1 hi (s2 _ h1) (rightOf g a.prod).length a.cuts (Nat.le_refl _) (by rw [List.take_length];exact h3.mono fun _ _ _ q=>der_has hd w q)
  have hle:=((sound hd w).1 _ u1).1;have:=(least_closed T w).alt u (lastOr a.src a.cuts) a.prod (s,a.src) a.cuts u1 hle ((hd.done u _).2 u2) (by rw [hd.len];exact u3)
  rw [h4] at this;exact this
end Go.Proofs.YthiochcpmfkgcaaGreatDoor.Gl
/-
  PLAIN LAWS of package glr: how many steps a run takes at most (for GlrBound).
-/
namespace Go.Proofs.YthiochcpmfkgcaaGreatDoor.Gl
open Tb (Gr Sy It St Pr MadeLaw makeF ofS rightOf SetsOk)
theorem edge_lead (T:Tab) (w:List UInt8):∀ x y,LE T w x y->(∃ b,T.shift y.1 b=some x.1)∨∃ A,T.goto_ y.1 A=some x.1:=by
 have hL:=least_closed T w;refine (least_ind (N:=fun _=>True) (A:=fun _=>True) (E:=fun x y=>(∃ b,T.shift y.1 b=some x.1)∨∃ A,T.goto_ y.1 A=some x.1) ⟨⟨hL.start,trivial⟩,fun x y h=>⟨hL.node x y h.1,trivial⟩,fun s i b t h1 h2 h3=>⟨hL.shift s i b t h1.1 h2 h3,.inl ⟨b,h3⟩⟩,fun s j p y c h1 h2 h3 h4=>⟨hL.alt s j p y c h1.1 h2 h3 (h4.mono fun _ _ k=>k.1),trivial⟩,fun s j p y c t h1 h2 h3 h4 h5=>⟨hL.goto_ s j p y c t h1.1 h2 h3 (h4.mono fun _ _ k=>k.1) h5,.inr ⟨_,h5⟩⟩⟩).2.1
theorem sum_mul (l:List Nat) (c:Nat):(l.map (· * c)).sum=l.sum * c:=by
 induction l with
 | nil=>simp
 | cons a t ih=>simp [ih,Nat.add_mul]
theorem sum_le {α:Type} (f h:α->Nat):∀ l:List α,(∀ x∈l,f x<=h x)->(l.map f).sum<=(l.map h).sum
 | [],_=>by simp
 | a::t,hh=>by
  simp only [List.map_cons,List.sum_cons];exact Nat.add_le_add (hh a (by simp)) (sum_le f h t fun x hx=>hh x (by simp [hx]))
def pairsF (n:Nat):List (Nat × Nat):=(List.range (n+1)).flatMap fun j=>(List.range (j+1)).map fun i=>(i,j)
theorem pairs_len (n:Nat):(pairsF n).length=(n+1) * (n+2) / 2:=by
 have h:∀ n,((List.range (n+1)).map fun j=>j+1).sum * 2=(n+1) * (n+2):=by
  intro n
  induction n with
  | zero=>rfl
  | succ n ih =>
   rw [List.range_succ,List.map_append,List.sum_append,Nat.add_mul,ih];simp only [List.map_cons,List.map_nil,List.sum_cons,List.sum_nil];rw [show n+1+2=(n+1)+2 from rfl,Nat.mul_add (n+1+1) (n+1) 2,Nat.mul_comm (n+1+1) (n+1)]
   rfl
 unfold pairsF;rw [List.length_flatMap];simp only [List.length_map,List.length_range];rw [<- h n,Nat.mul_div_cancel _ (by decide)]
theorem pairs_in {n i j:Nat} (h1:i<=j) (h2:j<=n):(i,j)∈pairsF n :=
 List.mem_flatMap.2 ⟨j,by simp;omega,List.mem_map.2 ⟨i,by simp;omega,rfl⟩⟩
def leadsN (l:List St):Nat:=(l.map (·.edges.length)).sum
def allEdges (l:List St) (n:Nat):List (Nd × Nd):=(l.zipIdx).flatMap fun x=>x.1.edges.flatMap fun e=>(pairsF n).map fun ij=>((e.2,ij.2),(x.2,ij.1))
theorem allEdges_len (l:List St) (n:Nat):(allEdges l n).length=leadsN l * ((n+1) * (n+2) / 2):=by
 unfold allEdges leadsN;rw [List.length_flatMap,<- sum_mul,List.map_map];have h:∀ (k:Nat) (l:List St),(l.zipIdx k).map (fun x=>(x.1.edges.flatMap fun e=>(pairsF n).map fun ij=>(((e.2,ij.2),(x.2,ij.1)):Nd × Nd)).length)=l.map ((fun x=>x * ((n+1) * (n+2) / 2)) ∘ fun x=>x.edges.length):=by
  intro k l
  induction l generalizing k with
  | nil=>rfl
  | cons s t ih =>
   rw [List.zipIdx_cons,List.map_cons,List.map_cons,ih]
   congr 1
   rw [List.length_flatMap];simp only [List.length_map,Function.comp,pairs_len];generalize (n+1) * (n+2) / 2=P
   induction s.edges with
   | nil=>simp
   | cons a t ih2=>rw [List.map_cons,List.sum_cons,ih2,List.length_cons,Nat.add_mul,Nat.one_mul,Nat.add_comm]
 rw [h 0 l]
theorem allEdges_in {g:Gr} {l:List St} {w:List UInt8} (e:Nd × Nd) (h:LE (tabF g l) w e.1 e.2):e∈allEdges l w.length:=by
 obtain ⟨⟨t,j⟩,s,i⟩:=e;have hle:=least_down _ w _ _ h;have hj:=((least_place _ w).2.1 _ _ h).2.2;simp only at hle hj;have hx:∃ x∈edgesAt l s,x.2=t:=by
  rcases edge_lead _ w _ _ h with ⟨b,h1⟩ | ⟨A,h1⟩
  ·unfold tabF at h1
   simp only [Option.map_eq_some_iff] at h1;obtain ⟨x,h2,h3⟩:=h1;exact ⟨x,List.mem_of_find?_eq_some h2,h3⟩
  ·unfold tabF at h1
   simp only [Option.map_eq_some_iff] at h1;obtain ⟨x,h2,h3⟩:=h1;exact ⟨x,List.mem_of_find?_eq_some h2,h3⟩
 obtain ⟨x,hx,rfl⟩:=hx;unfold edgesAt at hx
 cases hs:l[s]? with
 | none=>rw [hs] at hx;cases hx
 | some st =>
  rw [hs] at hx;refine List.mem_flatMap.2 ⟨(st,s),List.mem_zipIdx_iff_getElem?.2 hs,List.mem_flatMap.2 ⟨x,hx,List.mem_map.2 ⟨(i,j),pairs_in hle hj,rfl⟩⟩⟩
/-! Alternatives. -/
theorem split_by {α:Type} (f:α->Nat) (b:Nat->Nat):∀ (P:Nat) (L:List α),(∀ x∈L,f x<P)->(∀ p<P,(L.filter fun x=>f x==p).length<=b p)->L.length<=((List.range P).map b).sum
  | 0,L,h,_=>by
    cases L with
    | nil=>simp
    | cons a t=>exact absurd (h a (by simp)) (by omega)
  | P+1,L,h,hb=>by
    have h1:L.length=(L.filter fun x=>!(f x==P)).length+(L.filter fun x=>f x==P).length:=by
      clear h hb
      induction L with
      | nil=>rfl
      | cons a t ih=>rw [List.filter_cons,List.filter_cons];cases f a==P <;> simp <;> omega
    have h2:=split_by f b P (L.filter fun x=>!(f x==P)) (fun x hx=>by
      obtain ⟨h3,h4⟩:=List.mem_filter.1 hx;have:=h x h3;simp at h4;omega) (fun p hp=>by
      refine Nat.le_trans ?_ (hb p (by omega))
      rw [List.filter_filter];have:∀ L:List α,(L.filter fun x=>f x==p&&!(f x==P)).length<=(L.filter fun x=>f x==p).length:=fun L=>by
        rw [<- List.filter_filter]
        induction L with
        | nil=>simp
        | cons a t ih=>simp only [List.filter_cons];split <;> split <;> simp_all <;> omega
      exact this L)
    have h3:=hb P (by omega)
    rw [List.range_succ,List.map_append,List.sum_append];simp only [List.map_cons,List.map_nil,List.sum_cons,List.sum_nil,Nat.add_zero];omega
theorem get_sum (L:List Nat):((List.range L.length).map fun p=>(L[p]?).getD 0).sum=L.sum:=by
 congr 1
 refine List.ext_getElem (by simp) fun i h1 h2=>?_
 simp [h2]
def Rises:Nat->List Nat->Prop
 | _,[]=>True
 | i,c::cs=>i<=c /\ Rises c cs
theorem rises_le:∀ (i:Nat) (cs:List Nat),Rises i cs->i<=lastOr i cs /\ ∀ c∈cs,c<=lastOr i cs
 | i,[],_=>⟨Nat.le_refl _,by simp⟩
 | i,c::cs,⟨h1,h2⟩=>by
  obtain ⟨h3,h4⟩:=rises_le c cs h2;rw [lastOr_cons];refine ⟨Nat.le_trans h1 h3,fun d hd=>?_⟩
  rcases List.mem_cons.1 hd with rfl | hd
  ·exact h3
  ·exact h4 d hd
theorem cuts_rise {g:Gr} {w:List UInt8}:∀ {r:List Sy} {i:Nat} {cs:List Nat},CutsOk (Der g w) w r i cs->i<=w.length->Rises i cs /\ lastOr i cs<=w.length /\ cs.length=r.length
 | [],i,[],_,hi=>⟨trivial,hi,rfl⟩
 | s::r,i,c::cs,⟨h1,h2⟩,hi=>by
  have h3:i<=c /\ c<=w.length:=by
   rcases h1 with ⟨_,h4,b,h5,_⟩ | ⟨_,h4⟩
   ·have:=(List.getElem?_eq_some_iff.1 h5).1
    omega
   ·exact der_le h4 hi
  obtain ⟨h6,h7,h8⟩:=cuts_rise h2 h3.2;exact ⟨⟨h3.1,h6⟩,by rw [lastOr_cons];exact h7,by simp [h8]⟩
 | [],_,_::_,h,_=>by cases h
 | _::_,_,[],h,_=>by cases h
theorem falls_of:∀ (n m i:Nat) (cs:List Nat),m<=i->Rises i cs->Falls (n - m) ((i::cs).map (n - ·))
 | n,m,i,[],h,_=>⟨by show n - i<=n - m;omega,trivial⟩
 | n,m,i,c::cs,h,⟨h1,h2⟩=>⟨by show n - i<=n - m;omega,falls_of n i c cs h1 h2⟩
def prodN (n:Nat) (q:Pr):Nat:=if q.role=11 then 0 else binF (n+q.right.length+1) (q.right.length+1)
theorem alts_bound {g:Gr} {T:Tab} {I:Nat->It->Prop} (hd:Dfa g T I) (w:List UInt8) (L:List Al) (hn:L.Nodup) (hL:∀ a∈L,LA T w a):L.length<=(g.prods.map (prodN w.length)).sum:=by
 have hall:∀ a∈L,∃ q,g.prods[a.prod]?=some q /\ q.role≠11 /\ Rises a.src a.cuts /\ a.cuts.length=q.right.length /\ a.til=lastOr a.src a.cuts /\ a.til<=w.length:=fun a ha=>by
  obtain ⟨A,h1,h2,h3,h4⟩:=(alts_iff hd w a).1 (hL a ha);unfold ofS at h1;obtain ⟨h5,h6⟩:=List.mem_filter.1 h1
  cases hq:g.prods[a.prod]? with
  | none=>rw [hq] at h6;cases h6
  | some q =>
   rw [hq] at h6;simp only [Bool.and_eq_true,beq_iff_eq,bne_iff_ne] at h6;obtain ⟨s,hs,_⟩:=at_node hd w h2;have hi:=(least_place T w).1 _ hs;have hr:rightOf g a.prod=q.right:=by unfold rightOf;rw [hq];rfl
   rw [hr] at h3;obtain ⟨e1,e2,e3⟩:=cuts_rise h3 hi;exact ⟨q,rfl,h6.2,e1,e3,h4.symm,by omega⟩
 have h1:=split_by (fun a:Al=>a.prod) (fun p=>((g.prods.map (prodN w.length))[p]?).getD 0) (g.prods.map (prodN w.length)).length L (fun a ha=>by
  obtain ⟨q,hq,_⟩:=hall a ha;rw [List.length_map];exact (List.getElem?_eq_some_iff.1 hq).1) (fun p hp=>by
  rw [List.length_map] at hp;obtain ⟨q,hq⟩:∃ q,g.prods[p]?=some q:=⟨_,List.getElem?_eq_getElem hp⟩;rw [List.getElem?_map,hq];simp only [Option.map_some,Option.getD_some]
  by_cases hrole:q.role=11
  ·have:(L.filter fun x=>x.prod==p)=[]:=by
    rw [List.filter_eq_nil_iff];intro a ha he;obtain ⟨q',h3,h4,_⟩:=hall a ha;rw [beq_iff_eq.1 he,hq] at h3
    cases h3
    exact h4 hrole
   rw [this];exact Nat.zero_le _
  ·unfold prodN
   rw [if_neg hrole];have hf:=falls_count (q.right.length+1) w.length ((L.filter fun x=>x.prod==p).map fun a=>(a.src::a.cuts).map (w.length - ·)) (by
    rw [List.nodup_iff_pairwise_ne,List.pairwise_map];refine List.Pairwise.imp_of_mem ?_ (List.nodup_iff_pairwise_ne.1 (hn.filter _));intro a b ha hb hne he;obtain ⟨a1,a2⟩:=List.mem_filter.1 ha;obtain ⟨b1,b2⟩:=List.mem_filter.1 hb;obtain ⟨qa,_,_,a3,_,a4,a5⟩:=hall a a1;obtain ⟨qb,_,_,b3,_,b4,b5⟩:=hall b b1;obtain ⟨a6,a7⟩:=rises_le _ _ a3;obtain ⟨b6,b7⟩:=rises_le _ _ b3;have hinj:∀ (u v:List Nat),(∀ x∈u,x<=w.length)->(∀ x∈v,x<=w.length)->u.map (w.length - ·)=v.map (w.length - ·)->u=v:=by
     intro u
     induction u with
     | nil=>intro v _ _ h;cases v with
      | nil=>rfl
      | cons y t=>cases h
     | cons x u ih=>intro v hu hv h;cases v with
      | nil=>cases h
      | cons y t =>
       simp only [List.map_cons,List.cons.injEq] at h;have hx:=hu x (by simp)
       have hy:=hv y (by simp)
       rw [ih t (fun z hz=>hu z (by simp [hz])) (fun z hz=>hv z (by simp [hz])) h.2,show x=y by omega]
    have e:=hinj (a.src::a.cuts) (b.src::b.cuts) (fun x hx=>by
     rcases List.mem_cons.1 hx with rfl | hx
     ·omega
     ·have:=a7 x hx;omega) (fun x hx=>by
     rcases List.mem_cons.1 hx with rfl | hx
     ·omega
     ·have:=b7 x hx;omega) he
    injection e with e1 e2
    apply hne
    obtain ⟨ap,al_,at_,ac⟩:=a;obtain ⟨bp,bs,bt,bc⟩:=b;simp only at *;have:=beq_iff_eq.1 a2;have:=beq_iff_eq.1 b2;subst e1;subst e2;rw [a4,b4]
    congr 1
    omega) (fun k hk=>by
    obtain ⟨a,ha,rfl⟩:=List.mem_map.1 hk;obtain ⟨a1,a2⟩:=List.mem_filter.1 ha;obtain ⟨qa,h3,_,h5,h6,_,_⟩:=hall a a1;rw [beq_iff_eq.1 a2,hq] at h3
    cases h3
    exact ⟨by simp [h6],falls_of w.length 0 a.src a.cuts (Nat.zero_le _) h5⟩)
   rw [List.length_map] at hf;exact hf)
 rwa [get_sum] at h1
def boundN (g:Gr) (l:List St) (n:Nat):Nat:=leadsN l * ((n+1) * (n+2) / 2)+(g.prods.map (prodN n)).sum
theorem bound_run {g:Gr} {l:List St} (hs:SetsOk g) (hm:MadeLaw g l) (w:List UInt8) {B:Nat} (hB:boundN g l w.length<=B):∃ r,goneF (tabF g l) w B=.ok r /\ r.edges.length+r.alts.length<=boundN g l w.length:=by
 have hd:=tab_dfa hs hm;have hle:∀ (es:List (Nd × Nd)) (al_:List Al),es.Nodup->al_.Nodup->(∀ e∈es,LE (tabF g l) w e.1 e.2)->(∀ a∈al_,LA (tabF g l) w a)->es.length+al_.length<=boundN g l w.length:=fun es al_ h1 h2 h3 h4=>by
  have e1:=Tb.nodup_le es (allEdges l w.length) h1 (fun e he=>allEdges_in e (h3 e he))
  rw [allEdges_len] at e1;exact Nat.add_le_add e1 (alts_bound hd w al_ h2 h4)
 cases hg:goneF (tabF g l) w B with
 | stop r =>
  obtain ⟨es,al_,h1,h2,h3,h4,h5⟩:=above hg;have:=hle es al_ h1 h2 h3 h4;omega
 | ok r =>
  obtain ⟨he,_⟩:=ended hg;exact ⟨r,rfl,hle _ _ he.ed he.ad (fun e h=>(he.edges e.1 e.2).1 h) (fun a h=>(he.alts a).1 h)⟩
theorem binF_mono:∀ (n m k:Nat),n<=m->binF n k<=binF m k
 | _,_,0,_=>by simp [binF]
 | 0,m,k+1,_=>by simp [binF]
 | n+1,0,k+1,h=>by omega
 | n+1,m+1,k+1,h=>by
  rw [binF,binF];exact Nat.add_le_add (binF_mono n m k (by omega)) (binF_mono n m (k+1) (by omega))
theorem bound_mono (g:Gr) (l:List St) {n m:Nat} (h:n<=m):boundN g l n<=boundN g l m:=by
 unfold boundN;refine Nat.add_le_add (Nat.mul_le_mul_left _ (Nat.div_le_div_right (Nat.mul_le_mul (by omega) (by omega)))) (sum_le _ _ _ fun q _=>?_)
 unfold prodN
 split
 ·exact Nat.le_refl _
 ·exact binF_mono _ _ _ (by omega)
end Go.Proofs.YthiochcpmfkgcaaGreatDoor.Gl
/-
  PLAIN LAWS of package glr: the bound's numbers,as the program adds them.
-/
namespace Go.Proofs.YthiochcpmfkgcaaGreatDoor.Gl
open Go
open Tb (Gr Sy It St Pr)
def plusI (a b:Int):Int:=min (IntKind.i64.wrap (a+b)) 4611686018427387904
def rowI:Nat->Nat->Int
 | 0,0=>1
 | 0,_+1=>0
 | _+1,0=>1
 | m+1,i+1=>plusI (rowI m (i+1)) (rowI m i)
theorem binF_le:∀ (n k:Nat),binF n k<=2 ^ n
 | _,0=>by rw [binF];exact Nat.one_le_two_pow
 | 0,k+1=>by rw [binF];exact Nat.zero_le _
 | n+1,k+1=>by
  rw [binF,Nat.pow_succ];have h1:=binF_le n k;have h2:=binF_le n (k+1);omega
theorem plusI_small {a b:Nat} (h:a+b<=4611686018427387904):plusI (a:Int) (b:Int)=((a+b:Nat):Int):=by
 unfold plusI;rw [IntKind.wrap_i64];omega
theorem rowI_small:∀ (m i:Nat),m<=60->rowI m i=(binF m i:Int)
 | 0,0,_=>rfl
 | 0,_+1,_=>rfl
 | m+1,0,_=>by simp [rowI,binF]
 | m+1,i+1,h=>by
  rw [rowI,rowI_small m (i+1) (by omega),rowI_small m i (by omega),binF]
  have h1:=binF_le m i;have h2:=binF_le m (i+1);have h3:2 ^ m<=2 ^ 60:=Nat.pow_le_pow_right (by decide) (by omega)
  have h4:(2:Nat) ^ 60=1152921504606846976:=by decide
  rw [plusI_small (by omega),Nat.add_comm]
def sumI (n:Nat) (l:List Pr) (s:Int):Int:=l.foldl (fun s q=>if q.role=11 then s else plusI s (rowI (n+q.right.length+1) (q.right.length+1))) s
def boundI (g:Gr) (l:List St) (n:Nat):Int:=sumI n g.prods ((leadsN l * ((n+1) * (n+2) / 2):Nat):Int)
theorem sumI_small (n:Nat) (hn:n<=20):∀ (l:List Pr) (s:Nat),(∀ q∈l,q.right.length<=5)->s+l.length * 67108864<=2305843009213693952->sumI n l s=((s+(l.map (prodN n)).sum:Nat):Int)
 | [],s,_,_=>by simp [sumI]
 | q::t,s,h,hs=>by
  have hq:=h q (by simp)
  rw [List.length_cons] at hs;unfold sumI;rw [List.foldl_cons];have hs2:s+67108864+t.length * 67108864<=2305843009213693952:=by rw [Nat.add_mul,Nat.one_mul] at hs;omega
  clear hs;have hb:binF (n+q.right.length+1) (q.right.length+1)<=67108864:=Nat.le_trans (binF_le (n+q.right.length+1) (q.right.length+1)) (Nat.pow_le_pow_right (by decide) (by omega):2 ^ (n+q.right.length+1)<=2 ^ 26)
  by_cases hr:q.role=11
  ·rw [if_pos hr]
   have:=sumI_small n hn t s (fun x hx=>h x (by simp [hx])) (Nat.le_trans (Nat.add_le_add_right (Nat.le_add_right _ _) _) hs2)
   unfold sumI at this;rw [this,List.map_cons,List.sum_cons,show prodN n q=0 by unfold prodN;rw [if_pos hr],Nat.zero_add]
  ·rw [if_neg hr,rowI_small _ _ (by omega),plusI_small (by omega)]
   have:=sumI_small n hn t (s+binF (n+q.right.length+1) (q.right.length+1)) (fun x hx=>h x (by simp [hx])) (Nat.le_trans (Nat.add_le_add_right (Nat.add_le_add_left hb _) _) hs2)
   unfold sumI at this;rw [this,List.map_cons,List.sum_cons,show prodN n q=binF (n+q.right.length+1) (q.right.length+1) by unfold prodN;rw [if_neg hr],Nat.add_assoc]
theorem boundI_small {g:Gr} {l:List St} {n:Nat} (hn:n<=20) (hp:g.prods.length<=25) (hr:∀ q∈g.prods,q.right.length<=5) (hl:leadsN l<=2147483648):boundI g l n=(boundN g l n:Int) /\ boundN g l n<=4611686018427387904:=by
 have h5:leadsN l * ((n+1) * (n+2) / 2)<=2147483648 * 231:=Nat.mul_le_mul hl (by
  have:(n+1) * (n+2)<=21 * 22:=Nat.mul_le_mul (by omega) (by omega)
  omega)
 have h6:∀ (L:List Pr),(∀ q∈L,q.right.length<=5)->(L.map (prodN n)).sum<=L.length * 67108864:=by
  intro L
  induction L with
  | nil=>simp
  | cons q t ih =>
   intro h;have h7:=ih fun x hx=>h x (by simp [hx])
   have h8:prodN n q<=67108864:=by
    unfold prodN
    split
    ·exact Nat.zero_le _
    ·exact Nat.le_trans (binF_le _ _) (Nat.pow_le_pow_right (by decide) (by have:=h q (by simp);omega):2 ^ (n+q.right.length+1)<=2 ^ 26)
   simp only [List.map_cons,List.sum_cons,List.length_cons];omega
 have h7:=h6 g.prods hr;refine ⟨?_,?_⟩
 ·unfold boundI boundN
  rw [sumI_small n hn _ _ hr (by omega)]
 ·unfold boundN
  omega
end Go.Proofs.YthiochcpmfkgcaaGreatDoor.Gl
namespace Go.Proofs.YthiochcpmfkgcaaGreatDoor.Gl
open Go Go.RowKit Go.Proofs Mx Tb
theorem plus_any (a b:Int) (w:World):Calls Tryz.prog 51 #[.int .i64 a,.int .i64 b] w fun e w'=>e=.returned (.int .i64 (plusI a b)) /\ w'=w:=by
 have h0:IntKind.i64.wrap (a+b)=wrap64 (a+b):=by rw [IntKind.wrap_i64];unfold wrap64;rfl
 go_enter Tryz.func51,Tryz.ntmps51
 go_wp2_with fail
 all_goals
  have h1:plusI a b=min (wrap64 (a+b)) 4611686018427387904:=by unfold plusI;rw [h0]
  go_ret
  refine ⟨?_,rfl⟩
  first
   | (rw [h1];rfl)
   | (rw [h1];show Ending.returned (.int .i64 _)=Ending.returned (.int .i64 _);congr 2;omega)
theorem times_any (a b:Nat) (w:World) (h:a * b<=4611686018427387904):Calls Tryz.prog 49 #[.int .i64 (a:Int),.int .i64 (b:Int)] w fun e w'=>e=.returned (.int .i64 ((a * b:Nat):Int)) /\ w'=w:=by
 have hw:IntKind.i64.wrap ((a:Int) * (b:Int))=((a * b:Nat):Int):=by rw [<- Int.natCast_mul];exact IntWalk.i64_in _ (by omega)
 by_cases h0:0<(a:Int)
 ·have hq:IntKind.i64.wrap ((4611686018427387904:Int).tdiv (a:Int))=((4611686018427387904 / a:Nat):Int):=by
   rw [show (4611686018427387904:Int)=((4611686018427387904:Nat):Int) from rfl,<- Int.ofNat_tdiv];have:=Nat.div_le_self 4611686018427387904 a;generalize 4611686018427387904 / a=q at this ⊢;exact IntWalk.i64_in _ (by omega)
  have hn:¬ ((4611686018427387904 / a:Nat):Int)<(b:Int):=by
   have h2:b<=4611686018427387904 / a:=(Nat.le_div_iff_mul_le (by omega)).2 (by rw [Nat.mul_comm];exact h)
   omega
  have hz:¬ (a:Int)=0:=by omega
  go_enter Tryz.func49,Tryz.ntmps49
  go_wp2_with fail
  go_ret
  exact ⟨by first | rfl | simp,rfl⟩
 ·go_enter Tryz.func49,Tryz.ntmps49
  go_wp2_with fail
  go_ret
  exact ⟨by first | rfl | simp,rfl⟩
def arrF (f:Nat->Value) (n:Nat):Array Value:=((List.range n).map f).toArray
theorem arrF_get (f:Nat->Value) (n i:Nat):(arrF f n)[i]?=if i<n then some (f i) else none:=by
 unfold arrF;simp only [List.getElem?_toArray,List.getElem?_map]
 split
 ·next h=>rw [List.getElem?_range h];rfl
 ·next h=>rw [List.getElem?_eq_none (by simp;omega)];rfl
theorem arrF_size (f:Nat->Value) (n:Nat):(arrF f n).size=n:=by simp [arrF]
theorem arrF_ext {f h:Nat->Value} {n:Nat} (e:∀ i,i<n->f i=h i):arrF f n=arrF h n:=by
 unfold arrF
 congr 1
 exact List.map_congr_left fun i hi=>e i (by simpa using hi)
theorem arrF_set (f:Nat->Value) (n i:Nat) (v:Value):(arrF f n).setIfInBounds i v=arrF (fun j=>if j=i then v else f j) n:=by
 apply Array.ext_getElem?
 intro j;rw [Array.getElem?_setIfInBounds,arrF_get,arrF_get,arrF_size]
 by_cases hj:j=i
 ·subst hj;split <;> simp
 ·rw [if_neg (fun h=>hj h.symm),if_neg hj]
theorem arrF_const (z:Value) (hz:z.cells=#[z]) (n:Nat):madeCells z.cells n=arrF (fun _=>z) n:=by
 rw [hz]
 apply Array.ext_getElem?
 intro j;rw [arrF_get]
 by_cases hj:j<n
 ·rw [if_pos hj]
  simp [madeCells,hj,Nat.mod_one]
 ·rw [if_neg hj]
  simp [madeCells,hj]
theorem make_arr (ts te:TypeId) (z:Value) (k:Nat) (hu:Tryz.prog.underlying ts=some (.slice te)) (hi:(Tryz.prog.info? te).map (fun i=>(i.zero,i.size,i.bytes))=some (some z,1,k)) (hz:z.cells=#[z]) (hk:k<=100) (n:Nat) (hn:n<=1000000000) (w:World):(Instr.makeSlice ts (.int .i64 (n:Int)) (.int .i64 (n:Int))).run Tryz.prog w=.ok (.slice (some ⟨w.heap.size,0,none⟩) n n) (w.alloc (.cells (arrF (fun _=>z) n) te)):=by
 obtain ⟨i0,hi,hz0,hz1,hz2⟩:=info_parts hi;have h:=run_make (P:=Tryz.prog) w ts te i0 _ hu hi hz0 .i64 .i64 (n:Int) (n:Int) (by omega) (by omega) (by rw [hz2,<- Int.natCast_mul];have:=Nat.mul_le_mul hk hn;omega) (by omega)
 rw [hz1,Int.toNat_natCast,Nat.mul_one,arrF_const _ hz] at h;exact h
theorem infoInt1:(Tryz.prog.info? 3).map (fun i=>(i.zero,i.size,i.bytes))=some (some (.int .i64 0),1,8):=by kernel_rfl
theorem make_ints1 (n:Nat) (hn:n<=1000000000) (w:World):(Instr.makeSlice 57 (.int .i64 (n:Int)) (.int .i64 (n:Int))).run Tryz.prog w=.ok (.slice (some ⟨w.heap.size,0,none⟩) n n) (w.alloc (.cells (arrF (fun _=>.int .i64 0) n) 3)) :=
 make_arr _ _ _ _ Tryz.underlying57 infoInt1 rfl (by decide) n hn w
def RowB (w:World) (g:Nat) (t:TypeId) (f:Nat->Value) (n:Nat):Prop:=Blk w g t (arrF f n)
theorem RowB.cell {w:World} {g n:Nat} {t:TypeId} {f:Nat->Value} (h:RowB w g t f n) {i:Nat} (hi:i<n):w.cell? ⟨g,i,none⟩=some (f i):=by
 have:=Blk.cell h i;rw [this,arrF_get,if_pos hi]
theorem RowB.set_ {w:World} {g n:Nat} {t:TypeId} {f:Nat->Value} (h:RowB w g t f n) (i:Nat) (v:Value):RowB (w.setCell ⟨g,i,none⟩ v) g t (fun j=>if j=i then v else f j) n:=by
 have:=Blk.set_ h i v;rw [arrF_set] at this;exact this
theorem RowB.ext {w:World} {g n:Nat} {t:TypeId} {f f':Nat->Value} (h:RowB w g t f n) (e:∀ i,i<n->f i=f' i):RowB w g t f' n:=by
 unfold RowB at h ⊢;rw [<- arrF_ext e];exact h
def chR (r k i:Nat) (x y:Int) (j:Nat) (v:Value) (W:World):Prop :=
 match j with
 | 0=>v=.slice (some ⟨r,0,none⟩) (k+1) (k+1)
 | 1=>v=.int .i64 (i:Int)
 | 2=>v=.slice (some ⟨r,0,none⟩) (k+1) (k+1)
 | 3=>v=.int .i64 (i:Int)
 | 4=>v=.pointer (some ⟨r,i,none⟩)
 | 5=>v=.int .i64 x
 | 6=>v=.slice (some ⟨r,0,none⟩) (k+1) (k+1)
 | 7=>v=.int .i64 (i:Int)
 | 8=>v=.int .i64 ((i:Int) - 1)
 | 9=>v=.pointer (some ⟨r,i - 1,none⟩)
 | 10=>v=.int .i64 y
 | 11=>v=.int .i64 (plusI x y)
 | 12=>v=.pointer (some ⟨r,i,none⟩)
 | _=>True
def midI (m i j:Nat):Value:=.int .i64 (if i<j then rowI (m+1) j else rowI m j)
theorem rowI_zero (m:Nat):rowI m 0=1:=by cases m <;> rfl
theorem choose_any (n k:Nat) (hn:n<=1000000) (hk:k<=1000) (w:World):Calls Tryz.prog 50 #[.int .i64 (n:Int),.int .i64 (k:Int)] w fun e w'=>e=.returned (.int .i64 (rowI n k)) /\ Below w.heap.size w w':=by
 have hms:∀ w,(Instr.makeSlice 57 (.int .i64 ((k:Int)+1)) (.int .i64 ((k:Int)+1))).run Tryz.prog w=.ok (.slice (some ⟨w.heap.size,0,none⟩) (k+1) (k+1)) (w.alloc (.cells (arrF (fun _=>.int .i64 0) (k+1)) 3)):=fun w=>make_ints1 (k+1) (by omega) w
 have hA:RowB (w.alloc (.cells (arrF (fun _=>.int .i64 0) (k+1)) 3)) w.heap.size 3 (fun _=>.int .i64 0) (k+1):=Blk.new _ _ _
 have a0:=hA.cell (i:=0) (by omega)
 have af:=Blk.frozen hA 0;have hk0:(0:Int)<(k:Int)+1:=by omega
 have HA:=Hd hA;clear hA
 go_enter Tryz.func50,Tryz.ntmps50
 go_wp2_with fail
 have e0:((arrF (fun _=>.int .i64 0) (k+1)).setIfInBounds 0 (.int .i64 1))=arrF (fun j=>.int .i64 (rowI 0 j)) (k+1):=(arrF_set _ _ _ _).trans (arrF_ext fun j _=>by
  cases j with
  | zero=>rfl
  | succ j=>rfl)
 have hB:RowB (w.alloc (.cells ((arrF (fun _=>.int .i64 0) (k+1)).setIfInBounds 0 (.int .i64 1)) 3)) w.heap.size 3 (fun j=>.int .i64 (rowI 0 j)) (k+1):=by
  unfold RowB;rw [<- e0];exact Blk.new _ _ _
 have hb:Below w.heap.size w (w.alloc (.cells ((arrF (fun _=>.int .i64 0) (k+1)).setIfInBounds 0 (.int .i64 1)) 3)):=(Below.refl _ _).alloc (Nat.le_refl _) _
 generalize (w.alloc (.cells ((arrF (fun _=>.int .i64 0) (k+1)).setIfInBounds 0 (.int .i64 1)) 3))=w1 at hB hb ⊢
 obtain ⟨r,hr⟩:∃ r,w.heap.size=r:=⟨_,rfl⟩;have HR:=Hd hr;rw [hr] at hB hb ⊢;clear a0 af HA hms hk0 e0
 go_loopg [13] n (fun mm v13 wr=>∃ m:Nat,m<=n /\ mm=n - m /\ v13=.int .i64 (m:Int) /\ RowB wr r 3 (fun j=>.int .i64 (rowI m j)) (k+1) /\ Below r w wr)
 case atStart=>exact ⟨0,Nat.zero_le _,rfl,rfl,hB,hb⟩
 case round =>
  obtain ⟨m,hm,hmm,rfl,hrow,hbr⟩:=hrel;clear hB hb
  by_cases hlt:m<n
  ·have hi0:(m:Int)<(n:Int):=by omega
   have HM:=Hd (An hmm (An hrow hbr));clear hmm hrow hbr hr;go_wp2_with fail
   go_loopg [6] k (fun mm v6 wx=>∃ i:Nat,i<=k /\ mm=i /\ v6=.int .i64 (i:Int) /\ RowB wx r 3 (midI m i) (k+1) /\ Below r w wx)
   case atStart =>
    refine ⟨k,Nat.le_refl _,rfl,rfl,HM.out.2.1.ext fun j hj=>?_,HM.out.2.2⟩
    unfold midI;rw [if_neg (by omega)]
   case round =>
    obtain ⟨i,hi,hmm,rfl,hrow,hbx⟩:=hrel
    by_cases hpos:0<i
    ·have hi2:(0:Int)<(i:Int):=by omega
     have hi3:(i:Int)<(k:Int)+1:=by omega
     have hi4:(0:Int)<=(i:Int) - 1:=by omega
     have hi5:(i:Int) - 1<(k:Int)+1:=by omega
     have hi6:(0:Int)<=(i:Int):=by omega
     have hi8:(1:Int)<=(i:Int):=by omega
     have hi7:((i:Int) - 1).toNat=i - 1:=by omega
     have k0:=hrow.cell (i:=i) (by omega)
     have k1:=hrow.cell (i:=i - 1) (by omega)
     unfold midI at k0 k1;rw [if_neg (by omega)] at k0 k1
     obtain ⟨x,hx⟩:∃ x,rowI m i=x:=⟨_,rfl⟩;obtain ⟨y,hy⟩:∃ y,rowI m (i - 1)=y:=⟨_,rfl⟩;rw [hx] at k0;rw [hy] at k1;have hsum:rowI (m+1) i=plusI x y:=by
      obtain ⟨i',rfl⟩:∃ i',i=i'+1:=⟨i - 1,by omega⟩
      rw [rowI,hx];rw [Nat.add_sub_cancel] at hy;rw [hy]
     have hcc:∀ (p:Addr) (u:Value),wr.cell? p=some u->∀ W,Below wr.drew.heap.size wr.drew W->W.cell? p=some u:=fun p u kq W h=>(((show Below wr.heap.size wr wr.drew from (Below.refl _ _).drew).trans h).cell (World.block_lt_of_cell? _ _ kq)).trans kq
     have HC:=Hd (show ∀ W,Below wr.drew.heap.size wr.drew W->W.cell? ⟨r,i,none⟩=some (.int .i64 x) /\ W.cell? ⟨r,i - 1,none⟩=some (.int .i64 y) from fun W h=>⟨hcc _ _ k0 W h,hcc _ _ k1 W h⟩)
     have HX:=Hd (An hmm (An hrow (An hbx hsum)));clear hmm hrow hbx hsum hcc k0 k1 hx hy
     go_upto_region 8 with fail
     refine wp_region_conc 13 (chR r k i x y) (fun A W=>Below A.heap.size A W) (fun _ _=>True) (by kernel_rfl) (by kernel_rfl) (by kernel_rfl) (by kernel_rfl) (Below.refl _ _) trivial (fun h k=>h.trans (k.mono h.size)) ?_ ?_
     ·simp only [List.take_succ_cons,List.take_zero]
      refine ⟨?_,?_,?_,?_,?_,?_,?_,?_,?_,?_,?_,?_,?_,trivial⟩
      ·intro L T W hG hJ hLs hLi dq fq vq K hK
       have h1:=fq 5 (by decide)
       simp at h1;go_simp;exact hK _ _ (Below.refl _ W) (fun j u _ _ _ h=>h) trivial rfl
      ·intro L T W hG hJ hLs hLi dq fq vq K hK
       have h1:=fq 6 (by decide)
       simp at h1;go_simp;exact hK _ _ (Below.refl _ W) (fun j u _ _ _ h=>h) trivial rfl
      ·intro L T W hG hJ hLs hLi dq fq vq K hK
       have h1:=fq 5 (by decide)
       simp at h1;go_simp;exact hK _ _ (Below.refl _ W) (fun j u _ _ _ h=>h) trivial rfl
      ·intro L T W hG hJ hLs hLi dq fq vq K hK
       have h1:=fq 6 (by decide)
       simp at h1;go_simp;exact hK _ _ (Below.refl _ W) (fun j u _ _ _ h=>h) trivial rfl
      ·intro L T W hG hJ hLs hLi dq fq vq K hK
       have h1:=vq ⟨2,.data⟩ (by simp) rfl 22 rfl
       simp only [chR] at h1;have h2:=vq ⟨3,.data⟩ (by simp) rfl 23 rfl
       simp only [chR] at h2;simp at h1 h2;go_simp;exact hK _ _ (Below.refl _ W) (fun j u _ _ _ h=>h) trivial rfl
      ·intro L T W hG hJ hLs hLi dq fq vq K hK
       have h1:=vq ⟨4,.data⟩ (by simp) rfl 24 rfl
       simp only [chR] at h1;simp at h1;obtain ⟨c0,c1⟩:=HC.out W hG;go_simp;exact hK _ _ (Below.refl _ W) (fun j u _ _ _ h=>h) trivial rfl
      ·intro L T W hG hJ hLs hLi dq fq vq K hK
       have h1:=fq 5 (by decide)
       simp at h1;go_simp;exact hK _ _ (Below.refl _ W) (fun j u _ _ _ h=>h) trivial rfl
      ·intro L T W hG hJ hLs hLi dq fq vq K hK
       have h1:=fq 6 (by decide)
       simp at h1;go_simp;exact hK _ _ (Below.refl _ W) (fun j u _ _ _ h=>h) trivial rfl
      ·intro L T W hG hJ hLs hLi dq fq vq K hK
       have h1:=vq ⟨7,.data⟩ (by simp) rfl 27 rfl
       simp only [chR] at h1;simp at h1;have hwi:IntKind.i64.wrap ((i:Int) - 1)=(i:Int) - 1:=IntWalk.i64_in _ (by omega)
       go_simp;exact hK _ _ (Below.refl _ W) (fun j u _ _ _ h=>h) trivial rfl
      ·intro L T W hG hJ hLs hLi dq fq vq K hK
       have h1:=vq ⟨6,.data⟩ (by simp) rfl 26 rfl
       simp only [chR] at h1;have h2:=vq ⟨8,.data⟩ (by simp) rfl 28 rfl
       simp only [chR] at h2;simp at h1 h2;go_simp
       try simp only [hi7]
       exact hK _ _ (Below.refl _ W) (fun j u _ _ _ h=>h) trivial rfl
      ·intro L T W hG hJ hLs hLi dq fq vq K hK
       have h1:=vq ⟨9,.data⟩ (by simp) rfl 29 rfl
       simp only [chR] at h1;simp at h1;obtain ⟨c0,c1⟩:=HC.out W hG;go_simp;exact hK _ _ (Below.refl _ W) (fun j u _ _ _ h=>h) trivial rfl
      ·intro L T W hG hJ hLs hLi dq fq vq K hK
       have h1:=vq ⟨5,.data⟩ (by simp) rfl 25 rfl
       simp only [chR] at h1;have h2:=vq ⟨10,.data⟩ (by simp) rfl 30 rfl
       simp only [chR] at h2;simp at h1 h2;have hcl:=plus_any x y W;go_simp;refine hcl.mono ?_;rintro e W2 ⟨rfl,rfl⟩;exact hK _ _ (Below.refl _ _) (fun j u _ _ _ h=>h) trivial rfl
      ·intro L T W hG hJ hLs hLi dq fq vq K hK
       have h1:=vq ⟨0,.data⟩ (by simp) rfl 20 rfl
       simp only [chR] at h1;have h2:=vq ⟨1,.data⟩ (by simp) rfl 21 rfl
       simp only [chR] at h2;simp at h1 h2;go_simp;exact hK _ _ (Below.refl _ W) (fun j u _ _ _ h=>h) trivial rfl
     ·intro f9 w9 hG hJe hR
      have e11:=hR 11 31 (by decide) rfl
      have e12:=hR 12 32 (by decide) rfl
      simp only [concDsts,List.take_succ_cons,List.take_zero,List.drop_succ_cons,List.drop_zero,List.filterMap_cons,List.filterMap_nil,List.foldl_cons,List.foldl_nil,List.setIfInBounds_toArray,List.set_cons_zero,List.set_cons_succ];simp only [chR] at e11 e12;rw [e11,e12];clear e11 e12 hR;generalize f9 20=v20;generalize f9 21=v21;generalize f9 22=v22;generalize f9 23=v23;generalize f9 24=v24;generalize f9 25=v25;generalize f9 26=v26;generalize f9 27=v27;generalize f9 28=v28;generalize f9 29=v29;generalize f9 30=v30;clear f9;have hup:=(show Below wr.heap.size wr wr.drew from (Below.refl _ _).drew).trans hG;have hrow9:RowB w9 r 3 (midI m i) (k+1):=Blk.below HX.out.2.1 hup (Blk.lt HX.out.2.1);have hb9:=HX.out.2.2.1.trans (hup.mono (by have:=HX.out.2.2.1.size;have:=HR.out;omega))
      have k0:=hrow9.cell (i:=i) (by omega)
      have kf:=Blk.frozen hrow9 i;have hwi:IntKind.i64.wrap ((i:Int) - 1)=(i:Int) - 1:=IntWalk.i64_in _ (by omega)
      have H9:=Hd (An hrow9 hb9);clear hup hrow9 hb9 hG hJe HC;go_wp2_with fail
      go_roundg (i - 1)
      case measure=>have:=HX.out.1;omega
      case rel =>
       refine ⟨i - 1,by omega,rfl,by congr 1;omega,(H9.out.1.set_ i _).ext fun j hj=>?_,H9.out.2.setCell (p:=⟨r,i,none⟩) (Nat.le_refl _) _⟩
       unfold midI
       by_cases hj:j=i
       ·subst hj
        rw [if_pos rfl,if_pos (by omega),HX.out.2.2.2]
       ·rw [if_neg hj]
        by_cases h2:i<j
        ·rw [if_pos h2,if_pos (by omega)]
        ·rw [if_neg h2,if_neg (by omega)]
    ·obtain rfl:i=0:=by omega
     have HX:=Hd (An hrow hbx);clear hrow hbx hmm;go_wp2_with fail
     go_roundg (n - (m+1))
     case measure=>have:=HM.out.1;omega
     case rel =>
      refine ⟨m+1,by omega,rfl,rfl,HX.out.1.ext fun j _=>?_,HX.out.2⟩
      unfold midI
      cases j with
      | zero=>rw [if_neg (by omega),rowI_zero,rowI_zero]
      | succ j=>rw [if_pos (by omega)]
  ·obtain rfl:m=n:=by omega
   have c0:=hrow.cell (i:=k) (by omega)
   have hk1:(k:Int)<(k:Int)+1:=by omega
   have HM:=Hd hbr;clear hmm hrow hbr hr;go_wp2_with fail
   go_ret
   exact ⟨rfl,by rw [HR.out];exact HM.out⟩
end Go.Proofs.YthiochcpmfkgcaaGreatDoor.Gl
