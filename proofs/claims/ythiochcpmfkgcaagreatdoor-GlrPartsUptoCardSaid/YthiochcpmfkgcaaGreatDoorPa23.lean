/- Walks and plain laws that the last text stands on: GlRunA, GlJ, GlPartA, GlF, GlPartB, GlFew, GlSame. -/
import Derived.Test.YthiochcpmfkgcaaGreatDoorPa21
import Derived.Test.YthiochcpmfkgcaaGreatDoorPa5
import Derived.Test.YthiochcpmfkgcaaGreatDoorPa1
import Derived.Test.YthiochcpmfkgcaaGreatDoorPa15
import Derived.Test.YthiochcpmfkgcaaGreatDoorPa18
set_option linter.unusedVariables false
set_option linter.unusedSimpArgs false
set_option maxRecDepth 100000
set_option maxHeartbeats 16000000
namespace Go.Proofs.YthiochcpmfkgcaaGreatDoor.Gl
open Go Go.RowKit Go.Proofs Go.Maps Go.WideMaps Mx Tb
def TyB (t:TypeId) (w:World) (b:Nat):Prop:=∃ c fz,w.heap[b]?=some (.cells c t fz)
theorem TyB.keep_ {t:TypeId} {w w':World} {b:Nat} (h:TyB t w b) (he:w'.heap[b]?=w.heap[b]?):TyB t w' b:=by
 obtain ⟨c,fz,e⟩:=h;exact ⟨c,fz,he.trans e⟩
structure AltsAt (left:Nat->Int) (va:Al->Value) (A:List Al) (v:Value) (W:World):Prop where
 row:SliceK (TyB 59 W) (encAl left va) 5 W v A
 cuts:∀ x∈A,SliceK (TyB 3 W) encN 1 W (va x) x.cuts
theorem AltsAt.same {left:Nat->Int} {va:Al->Value} {A:List Al} {v:Value} {W W':World} (h:AltsAt left va A v W) (he:∀ b t,b<W.heap.size->TyB t W b->t=59∨t=3->W'.heap[b]?=W.heap[b]?):AltsAt left va A v W' :=
 ⟨h.row.keep fun b hb hl=>⟨hb.keep_ (he b _ hl hb (.inl rfl)),he b _ hl hb (.inl rfl)⟩,fun x hx=>(h.cuts x hx).keep fun b hb hl=>⟨hb.keep_ (he b _ hl hb (.inr rfl)),he b _ hl hb (.inr rfl)⟩⟩
theorem AltsAt.below {left:Nat->Int} {va:Al->Value} {A:List Al} {v:Value} {W W':World} (h:AltsAt left va A v W) (hb:Below W.heap.size W W'):AltsAt left va A v W' :=
 h.same fun b t hl _ _=>hb.block b hl
theorem AltsAt.off {left:Nat->Int} {va:Al->Value} {A:List Al} {v:Value} {W W':World} {q:Nat} {cs:Array Value} (h:AltsAt left va A v W) (hq:Blk W q 35 cs) (he:∀ b,b≠q->W'.heap[b]?=W.heap[b]?):AltsAt left va A v W' :=
 h.same fun b t hl ht hc=>he b fun e=>by
  subst e;obtain ⟨c,fz,e2⟩:=ht;rw [show W.heap[b]?=some (.cells cs 35) from hq] at e2;simp only [Option.some.injEq,Obj.cells.injEq] at e2
  rcases hc with hc | hc
  ·rw [<- e2.2.1] at hc;exact absurd hc (by decide)
  ·rw [<- e2.2.1] at hc;exact absurd hc (by decide)
structure RA where
 err:Int
 steps:Int
 far:Int
 next:Nat
 alts:List Al
def runF (left:Nat->Int) (g:Gr) (txt:List UInt8) (bud:Int):RA :=
 match wholeF g txt bud with
 | (n,none)=>⟨n,0,0,0,[]⟩
 | (n,some (l,r))=>⟨n,(r.edges.length:Int)+(r.alts.length:Int),(farF r:Int),nextL l (rowF r (farF r)),sortAl left r.alts⟩
theorem runall_any (g:Gr) (p:RP) (bud:Int) (w:World) (h:GrW g p w) (hL:Lim g p.txt bud) (left:Nat->Int) (hleft:∀ l,(tabF g l).left=left) :
  Calls Tryz.prog 11 #[.agg #[p.sv,p.pv,.int .i64 p.st,p.fv,p.lv],.string ⟨p.txt.toArray⟩,.int .i64 bud] w fun e w'=>∃ va a c,e=.returned (.tuple #[.agg (waysC (.slice a (runF left g p.txt bud).alts.length c) (runF left g p.txt bud).steps (runF left g p.txt bud).far (runF left g p.txt bud).next),.int .i64 (runF left g p.txt bud).err]) /\ AltsAt left va (runF left g p.txt bud).alts (.slice a (runF left g p.txt bud).alts.length c) w' /\ Below w.heap.size w w':=by
 refine (run_any g p bud w h hL left hleft).mono ?_;intro e w' hR;unfold runF
 cases hw:wholeF g p.txt bud with
 | mk n o =>
  rw [hw] at hR
  cases o with
  | none =>
   obtain ⟨rfl,hb⟩:=hR;exact ⟨fun _=>undef,none,0,rfl,⟨⟨none,0,rfl,Nat.le_refl _,by decide,fun hne=>absurd rfl hne⟩,fun x hx=>by cases hx⟩,hb⟩
  | some lr =>
   obtain ⟨l,r⟩:=lr;obtain ⟨v,va,rfl,h1,h2,hb⟩:=hR;obtain ⟨a,c,rfl⟩:=own_shape h1;have hs:=own_sliceT (enc:=encAl left va) (k:=5) (fun x=>encAl_len left va x) h1
   exact ⟨va,a,c,rfl,⟨hs.imp fun b h1 h2=>by first | exact h1.2 | exact h2.2,fun x hx=>h2 x ((sortAl_perm left r.alts).mem_iff.1 hx)⟩,hb⟩
end Go.Proofs.YthiochcpmfkgcaaGreatDoor.Gl
/-
  PLAIN LAWS of package glr: runs with other budgets,runs over beginnings.
-/
namespace Go.Proofs.YthiochcpmfkgcaaGreatDoor.Gl
def stepsF (r:Rn):Nat:=r.edges.length+r.alts.length
structure Ended (T:Tab) (w:List UInt8) (r:Rn):Prop where
 nd:r.nodes.Nodup
 ed:r.edges.Nodup
 ad:r.alts.Nodup
 nodes:∀ x,x∈r.nodes↔LN T w x
 edges:∀ x y,(x,y)∈r.edges↔LE T w x y
 alts:∀ a,a∈r.alts↔LA T w a
theorem ended {T:Tab} {w:List UInt8} {B:Nat} {r:Rn} (h:goneF T w B=.ok r):Ended T w r /\ r.left+stepsF r=B:=by
 have:=goneF_law T w B;rw [h] at this;obtain ⟨h1,h2,h3,h4,h5,h6,h7,_⟩:=this;exact ⟨⟨h1,h2,h3,h5,h6,h7⟩,by unfold stepsF;omega⟩
theorem above {T:Tab} {w:List UInt8} {B:Nat} {r:Rn} (h:goneF T w B=.stop r):Above T w B:=by
 have:=goneF_law T w B
 rwa [h] at this
theorem steps_le {T:Tab} {w w':List UInt8} {r r':Rn} (h:Ended T w r) (h':Ended T w' r') (hE:∀ x y,LE T w' x y->LE T w x y) (hA:∀ a,LA T w' a->LA T w a) :
  r'.edges.length<=r.edges.length /\ r'.alts.length<=r.alts.length :=
 ⟨Tb.nodup_le _ _ h'.ed (fun e he=>(h.edges e.1 e.2).2 (hE _ _ ((h'.edges e.1 e.2).1 he))),Tb.nodup_le _ _ h'.ad (fun a ha=>(h.alts a).2 (hA _ ((h'.alts a).1 ha)))⟩
theorem run_ok {T:Tab} {w w':List UInt8} {r:Rn} {B:Nat} (h:Ended T w r) (hE:∀ x y,LE T w' x y->LE T w x y) (hA:∀ a,LA T w' a->LA T w a) (hB:stepsF r<=B):∃ r',goneF T w' B=.ok r':=by
 cases hg:goneF T w' B with
 | ok r'=>exact ⟨r',rfl⟩
 | stop r' =>
  obtain ⟨es,al_,h1,h2,h3,h4,h5⟩:=above hg;have e1:=Tb.nodup_le es r.edges h1 (fun e he=>(h.edges e.1 e.2).2 (hE _ _ (h3 e he)))
  have e2:=Tb.nodup_le al_ r.alts h2 (fun a ha=>(h.alts a).2 (hA _ (h4 a ha)))
  unfold stepsF at hB;omega
theorem run_begin {T:Tab} {w:List UInt8} {r:Rn} {B k:Nat} (hk:k<=w.length) (h:Ended T w r) (hB:stepsF r<=B) :
  ∃ r',goneF T (w.take k) B=.ok r' /\ Ended T (w.take k) r' /\ stepsF r'<=stepsF r /\ (∀ x,x∈r'.nodes↔x∈r.nodes /\ x.2<=k) /\ ∀ a,a∈r'.alts↔a∈r.alts /\ a.til<=k:=by
 obtain ⟨b1,b2,b3⟩:=begin_law T w k hk;obtain ⟨r',hr⟩:=run_ok h (fun x y q=>((b2 x y).1 q).1) (fun a q=>((b3 a).1 q).1) hB
 obtain ⟨e1,_⟩:=ended hr;have e2:=steps_le h e1 (fun x y q=>((b2 x y).1 q).1) (fun a q=>((b3 a).1 q).1)
 refine ⟨r',hr,e1,by unfold stepsF;omega,fun x=>?_,fun a=>?_⟩
 ·rw [e1.nodes,b1,h.nodes]
 ·rw [e1.alts,b3,h.alts]
end Go.Proofs.YthiochcpmfkgcaaGreatDoor.Gl
namespace Go.Proofs.YthiochcpmfkgcaaGreatDoor.Gl
open Go Go.RowKit Go.Proofs Go.Maps Go.WideMaps Mx Tb
theorem far_le {r:Rn} {n:Nat} (h:∀ x∈r.nodes,x.2<=n):farF r<=n:=by
 unfold farF
 by_cases hne:r.nodes.map (·.2)=[]
 ·rw [hne];exact Nat.zero_le _
 ·obtain ⟨x,hx,he⟩:=List.mem_map.1 (maxN_mem hne)
  rw [<- he];exact h x hx
theorem le_far {r:Rn} {x:Nd} (h:x∈r.nodes):x.2<=farF r:=maxN_le (List.mem_map.2 ⟨x,h,rfl⟩)
theorem perm_of {α:Type} [DecidableEq α] {a b:List α} (ha:a.Nodup) (hb:b.Nodup) (h:∀ x,x∈a↔x∈b):a.Perm b:=by
 rw [List.perm_iff_count];intro x;rw [ha.count,hb.count]
 by_cases hx:x∈a
 ·rw [if_pos hx,if_pos ((h x).1 hx)]
 ·rw [if_neg hx,if_neg (fun k=>hx ((h x).2 k))]
theorem sort_part {left:Nat->Int} {A B:List Al} {k:Nat} (hA:A.Nodup) (hB:B.Nodup) (h:∀ a,a∈B↔a∈A /\ a.til<=k):sortAl left B=(sortAl left A).filter fun a=>decide (a.til<=k):=by
 refine (sortAl_unique ?_ ((sortAl_sorted left A).filter _)).symm;refine ((sortAl_perm left A).filter _).trans (perm_of (hA.filter _) hB fun a=>?_)
 rw [List.mem_filter,h,decide_eq_true_iff]
theorem whole_begin {g:Gr} {txt:List UInt8} {bud n:Int} {l:List St} {r:Rn} {k:Nat} (h:wholeF g txt bud=(n,some (l,r))) (hk:k<=txt.length) :
  ∃ r',wholeF g (txt.take k) bud=(0,some (l,r')) /\ r'.edges.length+r'.alts.length<=r.edges.length+r.alts.length /\ farF r'<=farF r /\ farF r'<=k /\ ∀ left,sortAl left r'.alts=(sortAl left r.alts).filter fun a=>decide (a.til<=k):=by
 obtain ⟨_,hc,hl,hm,hb,hg⟩:=whole_ok h;dsimp only at hm hg;obtain ⟨he,hs⟩:=ended hg;obtain ⟨r',h1,h2,h3,h4,h5⟩:=run_begin hk he (B:=bud.toNat) (by omega)
 refine ⟨r',?_,h3,far_le fun x hx=>le_far ((h4 x).1 hx).1,far_le fun x hx=>((h4 x).1 hx).2,fun left=>sort_part he.ad h2.ad h5⟩
 have hk2:¬ 4096<(txt.take k).length:=by rw [List.length_take];omega
 unfold wholeF askF;rw [if_pos hc,if_neg hk2,hm];dsimp only;rw [if_neg (by omega),h1]
theorem whole_made {g:Gr} {txt:List UInt8} {bud:Int} (hc:chkN g=0) (hl:txt.length<=4096) (hb:0<=bud) :
  (makeF g=none /\ wholeF g txt bud=(3,none))∨∃ l,makeF g=some l /\ (wholeF g txt bud=(200,none)∨∃ r,wholeF g txt bud=(0,some (l,r))):=by
 cases hm:makeF g with
 | none =>
  refine .inl ⟨rfl,?_⟩;unfold wholeF askF;rw [if_pos hc,if_neg (by omega),hm]
 | some l =>
  refine .inr ⟨l,rfl,?_⟩
  cases hg:goneF (tabF g l) txt bud.toNat with
  | stop r =>
   refine .inl ?_;unfold wholeF askF;rw [if_pos hc,if_neg (by omega),hm]
   dsimp only;rw [if_neg (by omega),hg]
  | ok r =>
   refine .inr ⟨r,?_⟩;unfold wholeF askF;rw [if_pos hc,if_neg (by omega),hm]
   dsimp only;rw [if_neg (by omega),hg]
end Go.Proofs.YthiochcpmfkgcaaGreatDoor.Gl
/-
  PLAIN LAWS of package glr: the run misses nothing: whatever the grammar derives it has;what comes next.
-/
namespace Go.Proofs.YthiochcpmfkgcaaGreatDoor.Gl
open Tb (Gr Sy It ofS aheadF rightOf itemOk ClosedS)
theorem lastOr_le {g:Gr} {D:Int->Nat->Nat->Prop} {w:List UInt8} (hD:∀ A i j,D A i j->i<=w.length->i<=j /\ j<=w.length):∀ {r:List Sy} {i:Nat} {cs:List Nat},CutsOk D w r i cs->i<=w.length->i<=lastOr i cs /\ lastOr i cs<=w.length
 | [],i,[],_,h=>⟨Nat.le_refl _,h⟩
 | [],_,_::_,k,_=>k.elim
 | _::_,_,[],k,_=>k.elim
 | s::r,i,c::cs,k,h=>by
  have hc:i<=c /\ c<=w.length:=by
   rcases k.1 with ⟨_,h1,b,h2,_⟩ | ⟨_,h1⟩
   ·have:=(List.getElem?_eq_some_iff.1 h2).1
    omega
   ·exact hD _ _ _ h1 h
  have:=lastOr_le (g:=g) hD k.2 hc.2;rw [lastOr_cons];exact ⟨Nat.le_trans hc.1 this.1,this.2⟩
def Has (T:Tab) (I:Nat->It->Prop) (g:Gr) (w:List UInt8) (A:Int) (i j:Nat):Prop :=
 i<=w.length->(i<=j /\ j<=w.length) /\ ∀ s,LN T w (s,i)->(∃ x,I s x /\ SortAt g x A)->∃ t,T.goto_ s A=some t /\ LE T w (t,j) (s,i)
theorem walk_to {g:Gr} {T:Tab} {I:Nat->It->Prop} (hd:Dfa g T I) {w:List UInt8} {p s i:Nat} (hn:LN T w (s,i)) (hi:i<=w.length) (h0:I s (p,0)) :
  ∀ (k:Nat) (cs:List Nat),k<=(rightOf g p).length->CutsOk (Has T I g w) w ((rightOf g p).take k) i cs ->
  ∃ u,LN T w (u,lastOr i cs) /\ I u (p,k) /\ Way (LE T w) k (u,lastOr i cs) (s,i) cs
 | 0,cs,_,h=>by
  cases cs with
  | cons c cs=>simp [CutsOk] at h
  | nil=>exact ⟨s,hn,h0,rfl,rfl⟩
 | k+1,cs,hk,h=>by
  have hy:aheadF g (p,k)=some ((rightOf g p)[k]):=List.getElem?_eq_getElem (show k<(rightOf g p).length by omega)
  rw [show (rightOf g p).take (k+1)=_ from take_succ (x:=(p,k)) hy] at h;obtain ⟨ds,c,rfl,h1,h2⟩:=cuts_snoc.1 h;obtain ⟨u,u1,u2,u3⟩:=walk_to hd hn hi h0 k ds (by omega) h1
  have hle:=lastOr_le (g:=g) (fun A i j (q:Has T I g w A i j) hi=>(q hi).1) h1 hi
  rw [lastOr_snoc];have hstep:∃ t,LE T w (t,c) (u,lastOr i ds) /\ I t (p,k+1):=by
   rcases h2 with ⟨q1,q2,b,q3,q4⟩ | ⟨q1,q2⟩
   ·obtain ⟨t,ht⟩:=hd.shift u (p,k) b u2 ⟨_,hy,q1,q4⟩
    refine ⟨t,by rw [q2];exact (least_closed T w).shift u _ b t u1 q3 ht,?_⟩
    exact ((hd.shifts u b t ht).2 _).2 fun S e1 e2=>e1 _ ⟨(p,k),u2,⟨_,hy,q1,q4⟩,rfl⟩
   ·obtain ⟨t,ht,hE⟩:=(q2 hle.2).2 u u1 ⟨(p,k),u2,_,hy,q1,rfl⟩
    exact ⟨t,hE,((hd.gotos u _ t ht).2 _).2 fun S e1 e2=>e1 _ ⟨(p,k),u2,⟨_,hy,q1,rfl⟩,rfl⟩⟩
  obtain ⟨t,t1,t2⟩:=hstep;exact ⟨t,(least_closed T w).node _ _ t1,t2,(u,lastOr i ds),ds,t1,u3,rfl⟩
theorem has_closed {g:Gr} {T:Tab} {I:Nat->It->Prop} (hd:Dfa g T I) (w:List UInt8):DClosed g w (Has T I g w):=by
 intro A p i cs hi hp hc _;refine ⟨lastOr_le (g:=g) (fun A i j (q:Has T I g w A i j) hi=>(q hi).1) hc hi,fun s hs ⟨x,hx,y,hy,hk,hA⟩=>?_⟩
 have hle:=lastOr_le (g:=g) (fun A i j (q:Has T I g w A i j) hi=>(q hi).1) hc hi
 have h0:I s (p,0):=hd.closed s x hx y hy hk p (by rw [hA];exact hp)
 obtain ⟨u,u1,u2,u3⟩:=walk_to hd hs hi h0 (rightOf g p).length cs (Nat.le_refl _) (by rw [List.take_length];exact hc)
 obtain ⟨t,ht⟩:=hd.goto_ s x A hx ⟨y,hy,hk,hA⟩;refine ⟨t,ht,?_⟩;have hl:=hd.left A p hp;refine (least_closed T w).goto_ u (lastOr i cs) p (s,i) cs t u1 hle.2 ((hd.done u p).2 u2) ?_ (by rw [hl];exact ht)
 rw [hd.len];exact u3
theorem der_has {g:Gr} {T:Tab} {I:Nat->It->Prop} (hd:Dfa g T I) (w:List UInt8) {A:Int} {i j:Nat} (h:Der g w A i j):Has T I g w A i j:=h _ (has_closed hd w)
theorem at_node {g:Gr} {T:Tab} {I:Nat->It->Prop} (hd:Dfa g T I) (w:List UInt8) {A:Int} {i:Nat} (h:At g w A i):∃ s,LN T w (s,i) /\ ∀ p∈ofS g A,I s (p,0):=by
 refine h (fun A i=>∃ s,LN T w (s,i) /\ ∀ p∈ofS g A,I s (p,0)) ⟨⟨0,(least_closed T w).start,fun p hp=>(hd.start _).2 fun S e1 e2=>e1 _ (List.mem_map.2 ⟨p,hp,rfl⟩)⟩,?_⟩
 intro A p i k cs y ⟨s,s1,s2⟩ hp hy hk hc;have hkl:k<(rightOf g p).length:=(List.getElem?_eq_some_iff.1 hy).1;obtain ⟨u,u1,u2,u3⟩:=walk_to hd s1 ((sound hd w).1 _ s1).1 (s2 p hp) k cs (by omega) (hc.mono fun _ _ _ q=>der_has hd w q)
 exact ⟨u,u1,fun q hq=>hd.closed u (p,k) u2 y hy hk q hq⟩
theorem alts_iff {g:Gr} {T:Tab} {I:Nat->It->Prop} (hd:Dfa g T I) (w:List UInt8) (a:Al):LA T w a↔∃ A,a.prod∈ofS g A /\ At g w A a.src /\ CutsOk (Der g w) w (rightOf g a.prod) a.src a.cuts /\ lastOr a.src a.cuts=a.til:=by
 constructor
 ·intro h
  obtain ⟨h1,h2,h3,h4,h5⟩:=(sound hd w).2.2 a h;exact ⟨_,h1,h2,h3,h4⟩
 ·rintro ⟨A,h1,h2,h3,h4⟩
  obtain ⟨s,s1,s2⟩:=at_node hd w h2;have hi:=((sound hd w).1 _ s1).1;obtain ⟨u,u1,u2,u3⟩:=walk_to hd s1 hi (s2 _ h1) (rightOf g a.prod).length a.cuts (Nat.le_refl _) (by rw [List.take_length];exact h3.mono fun _ _ _ q=>der_has hd w q)
  have hle:=((sound hd w).1 _ u1).1;have:=(least_closed T w).alt u (lastOr a.src a.cuts) a.prod (s,a.src) a.cuts u1 hle ((hd.done u _).2 u2) (by rw [hd.len];exact u3)
  rw [h4] at this;exact this
end Go.Proofs.YthiochcpmfkgcaaGreatDoor.Gl
namespace Go.Proofs.YthiochcpmfkgcaaGreatDoor.Gl
open Go Go.RowKit Go.Proofs Go.Maps Go.WideMaps Mx Tb
theorem filter_at {α:Type} (p:α->Bool):∀ (X:List α) (i:Nat) (a:α),X[i]?=some a->p a=true->(X.filter p)[((X.take i).filter p).length]?=some a
 | [],_,_,h,_=>by simp at h
 | x::t,0,a,h,hp=>by
  simp at h;subst h;rw [List.filter_cons,if_pos hp]
  rfl
 | x::t,i+1,a,h,hp=>by
  rw [List.getElem?_cons_succ] at h;have ih:=filter_at p t i a h hp;rw [List.take_succ_cons,List.filter_cons,List.filter_cons]
  by_cases hx:p x=true
  ·rw [if_pos hx,if_pos hx,List.length_cons,List.getElem?_cons_succ];exact ih
  ·rw [if_neg hx,if_neg hx];exact ih
theorem filter_take {α:Type} (p:α->Bool) {X:List α} {i:Nat} {a:α} (h:X[i]?=some a):((X.take (i+1)).filter p).length=((X.take i).filter p).length+if p a=true then 1 else 0:=by
 rw [List.take_add_one,h,List.filter_append,List.length_append]
 congr 1
 by_cases hp:p a=true <;> simp [hp]
theorem cuts_len {D:Int->Nat->Nat->Prop} {w:List UInt8}:∀ {r:List Sy} {i:Nat} {cs:List Nat},CutsOk D w r i cs->cs.length=r.length
 | [],_,[],_=>rfl
 | s::r,i,c::cs,⟨_,h⟩=>by simp [cuts_len h]
 | [],_,_::_,h=>by cases h
 | _::_,_,[],h=>by cases h
theorem run_small {g:Gr} {txt:List UInt8} {bud:Int} (hg:chkN g=0->Tb.Good g) (hb:bud<=20000) (left:Nat->Int):(runF left g txt bud).alts.length<=20000 /\ ∀ a∈(runF left g txt bud).alts,a.cuts.length<=1000:=by
 unfold runF
 cases hw:wholeF g txt bud with
 | mk n o =>
  cases o with
  | none=>exact ⟨Nat.zero_le _,fun a ha=>by cases ha⟩
  | some lr =>
   obtain ⟨l,r⟩:=lr;obtain ⟨_,hc,hl,hm,h0,hgo⟩:=whole_ok hw;dsimp only at hm hgo;obtain ⟨he,hs⟩:=ended hgo;have hG:=hg hc;refine ⟨?_,fun a ha=>?_⟩
   ·show (sortAl left r.alts).length<=_
    rw [(sortAl_perm left r.alts).length_eq];unfold stepsF at hs;omega
   ·have ha2:=(sortAl_perm left r.alts).mem_iff.1 ha
    obtain ⟨A,h1,_,h3,_⟩:=(alts_iff (tab_dfa (gsets hG).1 (Tb.makeF_law hm)) txt a).1 ((he.alts a).1 ha2);rw [cuts_len h3];unfold rightOf
    cases hq:g.prods[a.prod]? with
    | none=>simp
    | some q=>have:=hG.right q (List.mem_of_getElem? hq);simp;omega
theorem parts_law {g:Gr} {txt:List UInt8} {k:Nat} (hk:k<=txt.length) (hl:txt.length<=20) (hc:chkN g=0) (left:Nat->Int) :
  ((makeF g).isNone=true /\ (runF left g txt 20000).err=3 /\ (runF left g (txt.take k) 20000).err=3) ∨
  ((makeF g).isNone=false /\ (runF left g txt 20000).err=200 /\ ((runF left g (txt.take k) 20000).err=0∨(runF left g (txt.take k) 20000).err=200)) ∨
  ((makeF g).isNone=false /\ (runF left g txt 20000).err=0 /\ (runF left g (txt.take k) 20000).err=0 /\ (runF left g (txt.take k) 20000).steps<=(runF left g txt 20000).steps /\ (runF left g (txt.take k) 20000).far<=(runF left g txt 20000).far /\ (runF left g (txt.take k) 20000).far<=k /\
   (runF left g (txt.take k) 20000).alts=(runF left g txt 20000).alts.filter fun a=>decide (a.til<=k)):=by
 have hlk:(txt.take k).length<=4096:=by rw [List.length_take];omega
 rcases whole_made (bud:=20000) (txt:=txt) hc (by omega) (by decide) with ⟨h1,h2⟩ | ⟨l,h1,h2 | ⟨r,h2⟩⟩
 ·rcases whole_made (bud:=20000) hc hlk (by decide) with ⟨_,h3⟩ | ⟨l,h3,_⟩
  ·refine .inl ⟨by rw [h1];rfl,?_,?_⟩
   ·unfold runF;rw [h2]
   ·unfold runF;rw [h3]
  ·rw [h1] at h3;cases h3
 ·refine .inr (.inl ⟨by rw [h1];rfl,by unfold runF;rw [h2],?_⟩)
  rcases whole_made (bud:=20000) hc hlk (by decide) with ⟨h3,_⟩ | ⟨l',h3,h4 | ⟨r',h4⟩⟩
  ·rw [h1] at h3;cases h3
  ·exact .inr (by unfold runF;rw [h4])
  ·exact .inl (by unfold runF;rw [h4])
 ·obtain ⟨r',h3,h4,h5,h6,h7⟩:=whole_begin h2 hk
  refine .inr (.inr ⟨by rw [h1];rfl,?_⟩)
  unfold runF;rw [h2,h3];exact ⟨rfl,rfl,by show ((r'.edges.length:Int)+(r'.alts.length:Int))<=(r.edges.length:Int)+(r.alts.length:Int);omega,by show (farF r':Int)<=(farF r:Int);omega,by show (farF r':Int)<=(k:Int);omega,h7 left⟩
def fewB (g:Gr) (n:Nat):Bool :=
 decide (g.sorts.length<=12)&&decide (g.prods.length<=25)&&decide (n<=8)&&decide (g.forbid.length<=30)&&decide (g.follow.length<=12)&&g.prods.all (fun p=>decide (p.right.length<=5))
structure FewG (g:Gr):Prop where
 sorts:g.sorts.length<=12
 prods:g.prods.length<=25
 forbid:g.forbid.length<=30
 follow:g.follow.length<=12
 right:∀ p∈g.prods,p.right.length<=5
theorem few_iff {g:Gr} {n:Nat}:fewB g n=true↔FewG g /\ n<=8:=by
 unfold fewB;simp only [Bool.and_eq_true,decide_eq_true_eq,List.all_eq_true]
 constructor
 ·rintro ⟨⟨⟨⟨⟨h1,h2⟩,h3⟩,h4⟩,h5⟩,h6⟩
  exact ⟨⟨h1,h2,h4,h5,h6⟩,h3⟩
 ·rintro ⟨⟨h1,h2,h4,h5,h6⟩,h3⟩
  exact ⟨⟨⟨⟨⟨h1,h2⟩,h3⟩,h4⟩,h5⟩,h6⟩
theorem few_no {g:Gr} {n:Nat} (h:12<g.sorts.length∨25<g.prods.length∨8<n∨30<g.forbid.length∨12<g.follow.length∨∃ p∈g.prods,5<p.right.length):false=fewB g n:=by
 cases hf:fewB g n with
 | false=>rfl
 | true =>
  obtain ⟨h1,h2⟩:=few_iff.1 hf;have:=h1.sorts;have:=h1.prods;have:=h1.forbid;have:=h1.follow
  rcases h with h | h | h | h | h | ⟨p,hp,h⟩
  ·omega
  ·omega
  ·omega
  ·omega
  ·omega
  ·have:=h1.right p hp;omega
theorem few_any (g:Gr) (N:Nat) (hN:N<=2000000) (w:World) (sv pv fv lv:Value) (hG:GramAt w N g sv pv fv lv) (tb:ByteArray) (htb:tb.size<=2000000) :
  Calls Tryz.prog 9 #[.agg #[sv,pv,.int .i64 g.start,fv,lv],.string tb] w fun e w'=>e=.returned (.bool (fewB g tb.size)) /\ Below w.heap.size w w':=by
 obtain ⟨sa,sc,rfl⟩:=slice_shape hG.sorts;obtain ⟨pa,pc,rfl⟩:=prodsAt_shape hG.prodsAt;obtain ⟨fa,fc,rfl⟩:=slice_shape hG.forbid;obtain ⟨la,lc,rfl⟩:=slice_shape hG.follow;have n1:=hG.nsorts;have n2:=hG.nprods;have n3:=hG.nforbid;have n4:=hG.nfollow;have H:=Hd (An hG.prodsAt hG.ok);clear hG
 go_enter Tryz.func9,Tryz.ntmps9
 have hbl:=(Below.refl w.heap.size w).alloc (Nat.le_refl _) (.cells #[.slice sa g.sorts.length sc,.slice pa g.prods.length pc,.int .i64 g.start,.slice fa g.forbid.length fc,.slice la g.follow.length lc] 27);have HB:=Hd hbl
 by_cases c1:12<g.sorts.length
 ·have d1:(12:Int)<(g.sorts.length:Int):=by omega
  have HV:=Hd (few_no (n:=tb.size) (.inl c1));clear c1 hbl;go_wp2_with fail
  go_ret
  exact ⟨ret_bool HV.out,HB.out⟩
 have d1:¬ (12:Int)<(g.sorts.length:Int):=by omega
 by_cases c2:25<g.prods.length
 ·have d2:(25:Int)<(g.prods.length:Int):=by omega
  have HV:=Hd (few_no (n:=tb.size) (.inr (.inl c2)));clear c1 c2 hbl;go_wp2_with fail
  go_ret
  exact ⟨ret_bool HV.out,HB.out⟩
 have d2:¬ (25:Int)<(g.prods.length:Int):=by omega
 by_cases c5:8<tb.size
 ·have d5:(8:Int)<(tb.size:Int):=by omega
  have HV:=Hd (few_no (g:=g) (.inr (.inr (.inl c5))));clear c1 c2 c5 hbl;go_wp2_with fail
  go_ret
  exact ⟨ret_bool HV.out,HB.out⟩
 have d5:¬ (8:Int)<(tb.size:Int):=by omega
 by_cases c3:30<g.forbid.length
 ·have d3:(30:Int)<(g.forbid.length:Int):=by omega
  have HV:=Hd (few_no (n:=tb.size) (.inr (.inr (.inr (.inl c3)))));clear c1 c2 c3 c5 hbl;go_wp2_with fail
  go_ret
  exact ⟨ret_bool HV.out,HB.out⟩
 have d3:¬ (30:Int)<(g.forbid.length:Int):=by omega
 by_cases c4:12<g.follow.length
 ·have d4:(12:Int)<(g.follow.length:Int):=by omega
  have HV:=Hd (few_no (n:=tb.size) (.inr (.inr (.inr (.inr (.inl c4))))));clear c1 c2 c3 c4 c5 hbl;go_wp2_with fail
  go_ret
  exact ⟨ret_bool HV.out,HB.out⟩
 have d4:¬ (12:Int)<(g.follow.length:Int):=by omega
 have HC:=Hd (An c1 (An c2 (An c3 (An c4 c5))));have hp25:g.prods.length<=25:=by omega
 clear c1 c2 c3 c4 c5;go_wp2_with fail
 clear d1 d2 d3 d4 d5 n1 n3 n4;have hB1:Blk (w.alloc (.cells #[.slice sa g.sorts.length sc,.slice pa g.prods.length pc,.int .i64 g.start,.slice fa g.forbid.length fc,.slice la g.follow.length lc] 27)) w.heap.size 27 #[.slice sa g.sorts.length sc,.slice pa g.prods.length pc,.int .i64 g.start,.slice fa g.forbid.length fc,.slice la g.follow.length lc]:=Blk.new _ _ _;generalize (w.alloc (.cells #[.slice sa g.sorts.length sc,.slice pa g.prods.length pc,.int .i64 g.start,.slice fa g.forbid.length fc,.slice la g.follow.length lc] 27))=W1 at hB1 hbl HB ⊢;clear hbl;have q1:=hB1.cell 1;simp at q1
 go_loopg [5] g.prods.length (fun m v5 wr=>∃ i:Nat,i<=g.prods.length /\ m=g.prods.length - i /\ v5=.int .i64 i /\ (∀ p∈g.prods.take i,p.right.length<=5) /\ wr=W1)
 case atStart=>exact ⟨0,Nat.zero_le _,rfl,rfl,by simp,rfl⟩
 case round =>
  obtain ⟨i,hi,hm,rfl,hcons,rfl⟩:=hrel
  by_cases hlt:i<g.prods.length
  ·obtain ⟨p,hp⟩:∃ p,g.prods[i]?=some p:=⟨_,List.getElem?_eq_getElem hlt⟩
   obtain ⟨cap,b,o,vr,epv,hbl,hvr,hpc⟩:=H.out.1.at_ hp;injection epv with e1 e2 e3;subst e1;subst e3;obtain ⟨ra,rc,rfl,_,_,_⟩:=hvr;have f1:=(World.cell?_of_block (HB.out.block b hbl)).trans (hpc 1 _ rfl);have hok:=H.out.2 p (List.mem_of_getElem? hp);have hr:=hok.1;have hi0:(0:Int)<=(i:Int):=by omega
   have hi1:(i:Int)<(g.prods.length:Int):=by omega
   have HS:=Hd (An hp (An hcons hm));clear hp hok hpc hcons hm
   by_cases hc:5<p.right.length
   ·have hd:(5:Int)<(p.right.length:Int):=by omega
    have HV:=Hd (few_no (g:=g) (n:=tb.size) (.inr (.inr (.inr (.inr (.inr ⟨p,List.mem_of_getElem? HS.out.1,hc⟩))))));clear hc;go_wp2_with fail
    go_ret
    exact ⟨ret_bool HV.out,HB.out⟩
   ·have hd:¬ (5:Int)<(p.right.length:Int):=by omega
    have HD:=Hd hc;clear hc;go_wp2_with fail
    go_roundg (g.prods.length - (i+1))
    case measure=>have:=HS.out.2.2;omega
    case rel =>
     refine ⟨i+1,by omega,rfl,rfl,?_,rfl⟩
     intro x hx;rw [List.take_add_one,HS.out.1] at hx
     rcases List.mem_append.1 hx with hx | hx
     ·exact HS.out.2.1 x hx
     ·simp at hx;subst hx;have:=HD.out;omega
  ·obtain rfl:i=g.prods.length:=by omega
   rw [List.take_length] at hcons;have hV:true=fewB g tb.size:=by
    symm
    have:=HC.out;exact few_iff.2 ⟨⟨by omega,by omega,by omega,by omega,hcons⟩,by omega⟩
   have HV:=Hd hV;clear hV hcons hm;go_wp2_with fail
   go_ret
   exact ⟨ret_bool HV.out,HB.out⟩
theorem good_few {g:Gr} {w:World} {N:Nat} {sv pv fv lv:Value} (hG:GramAt w N g sv pv fv lv) (hv:g.prods.length<=25) (hc:chkN g=0):Tb.Good g:=by
 have hck:checkB g=true:=by
  unfold chkN at hc
  split at hc
  ·assumption
  ·exact absurd hc (by decide)
 unfold checkB at hck;simp only [Bool.and_eq_true] at hck;obtain ⟨⟨⟨h1,h2⟩,h3⟩,h4⟩:=hck;have hs:=(sortsB_iff g).1 h1;unfold prodsB at h2;simp only [Bool.and_eq_true,List.all_eq_true] at h2;have hpr:∀ p∈g.prods,headB g p=true /\ ∀ s∈p.right,symB g p.role s=true:=fun p hp=>by
  have:=h2.1 p hp;unfold prodB at this;simp only [Bool.and_eq_true,List.all_eq_true] at this;exact this
 refine ⟨by omega,hs.many,hs.start,fun p hp=>?_,fun p hp=>?_,fun p hp s hsm=>?_⟩
 ·have h:=(hpr p hp).1
  unfold headB inB at h;simp at h;exact h.1.1.1.1.1.1.1
 ·have h:=(hpr p hp).1
  unfold headB inB at h;simp at h;have:=h.1.1.1.1.1.1.2;omega
 ·have h:=(hpr p hp).2 s hsm
  have hok:=((hG.ok p hp).2.2.1 s hsm)
  rcases sym_arms g p.role s with ⟨hh,_⟩ | ⟨hh,_⟩ | ⟨hh,a,b,c⟩ | ⟨hh,_⟩ | ⟨hh,_⟩ | ⟨hh,_⟩ | ⟨hh,a,b,c,d⟩ | ⟨hh,_⟩
  all_goals first | (rw [h] at hh;cases hh;done) | skip
  ·exact .inl ⟨a,c,b,hok.1⟩
  ·unfold inB at c
   simp at c;exact .inr ⟨a,b,c.1,c.2⟩
theorem grw_few {g:Gr} {w:World} {N:Nat} {sv pv fv lv:Value} (hN:N<=2000000) (hG:GramAt w N g sv pv fv lv) (hv:g.prods.length<=25) (he:EnvG w) (txt:List UInt8) (ht:txt.length<=100000) :
  GrW g ⟨sv,pv,g.start,fv,lv,.pointer none,txt⟩ w:=by
 obtain ⟨fa,fc,rfl⟩:=slice_shape hG.forbid;obtain ⟨la,lc,rfl⟩:=slice_shape hG.follow;exact ⟨rfl,hG.sorts,hG.prodsAt,⟨_,_,_,rfl⟩,⟨_,_,_,rfl⟩,fun hc=>good_few hG hv hc,he,fun W hW=>check_any g N hN W sv pv _ _ (hG.keep hW),ht⟩
theorem lim_small {g:Gr} (hF:FewG g) {txt:List UInt8} {bud:Int} (ht:txt.length<=20) (hb:bud<=20000):Lim g txt bud:=lim_few hF.prods hF.right ht hb
theorem many_any (g:Gr) (p:RP) (w:World) (h:GrW g p w) (hc:chkN g=0) :
  Calls Tryz.prog 13 #[.agg #[p.sv,p.pv,.int .i64 p.st,p.fv,p.lv]] w fun e w'=>e=.returned (.bool (makeF g).isNone) /\ Below w.heap.size w w':=by
 obtain ⟨fa,fn,fc,hf⟩:=h.fv;obtain ⟨la,ln,lc,hl⟩:=h.lv;have hck:=h.chk;have hst:=h.start;rw [hst,hf,hl] at hck ⊢;have hb0:=(Below.refl w.heap.size w).alloc (Nat.le_refl _) (.cells #[p.sv,p.pv,.int .i64 g.start,.slice fa fn fc,.slice la ln lc] 27);have HH:=Hd (An h (An hck (An hb0 hc)));clear h hck hf hl hst hb0 hc
 go_enter Tryz.func13,Tryz.ntmps13
 go_wp2_with fail
 have hw1:=HH.out.1.below HH.out.2.2.1;refine (make_any (fun _=>True) g (HH.out.1.good HH.out.2.2.2) _ p.sv p.pv fa la fn fc ln lc hw1.sorts hw1.prods (fun W hW=>by
  have h1:=HH.out.2.1 W (HH.out.2.2.1.trans (hW.mono HH.out.2.2.1.size));rw [HH.out.2.2.2] at h1;exact h1) hw1.env.bru (Nat.le_trans (by decide) hw1.env.big)).mono ?_
 rintro e w2 hT;clear hw1
 rcases hT with ⟨tb',B,sm,hmk,rfl,hTW,hnx,hb3⟩ | ⟨hmk,rfl,hb3⟩
 ·have HF:=Hd (An hb3 hmk)
  clear hTW hnx hb3 hmk;go_wp2_with fail
  go_ret
  exact ⟨by rw [HF.out.2];rfl,HH.out.2.2.1.trans (HF.out.1.mono HH.out.2.2.1.size)⟩
 ·have HF:=Hd (An hb3 hmk)
  clear hb3 hmk;go_wp2_with fail
  go_ret
  exact ⟨by rw [HF.out.2];rfl,HH.out.2.2.1.trans (HF.out.1.mono HH.out.2.2.1.size)⟩
theorem same_any (s1 s2:Int) (a b:Al) (u v:Value) (w:World) (hu:SliceK (fun _=>True) encN 1 w u a.cuts) (hv:SliceK (fun _=>True) encN 1 w v b.cuts) (hla:a.cuts.length<=1000) (hlb:b.cuts.length<=1000) :
  Calls Tryz.prog 19 #[.agg #[.int .i64 s1,.int .i64 (a.src:Int),.int .i64 (a.til:Int),.int .i64 (a.prod:Int),u],.agg #[.int .i64 s2,.int .i64 (b.src:Int),.int .i64 (b.til:Int),.int .i64 (b.prod:Int),v]] w fun e w'=>e=.returned (.bool (decide (s1=s2)&&decide (a=b))) /\ Below w.heap.size w w':=by
 obtain ⟨ap,aq,at_,ac⟩:=a;obtain ⟨bp,bs,bt,bc⟩:=b;simp only at hu hv hla hlb ⊢;obtain ⟨sa,sc,rfl,hsr⟩:=read_cells hu;obtain ⟨ta,tc,rfl,htr⟩:=read_cells hv;obtain ⟨na,hna⟩:∃ na,ac.length=na:=⟨_,rfl⟩;obtain ⟨nb,hnb⟩:∃ nb,bc.length=nb:=⟨_,rfl⟩;have HN:=Hd (An hna hnb);rw [hna] at hla ⊢;rw [hnb] at hlb ⊢;clear hna hnb;have hb0:=((Below.refl w.heap.size w).alloc (Nat.le_refl _) (.cells #[.int .i64 s1,.int .i64 (aq:Int),.int .i64 (at_:Int),.int .i64 (ap:Int),.slice sa na sc] 59)).alloc (by simp) (.cells #[.int .i64 s2,.int .i64 (bs:Int),.int .i64 (bt:Int),.int .i64 (bp:Int),.slice ta nb tc] 59)
 have HB:=Hd hb0;have hsr2:ac≠[]->∃ g o,sa=some ⟨g,o,none⟩ /\ ∀ (i x:Nat),ac[i]?=some x->((w.alloc (.cells #[.int .i64 s1,.int .i64 (aq:Int),.int .i64 (at_:Int),.int .i64 (ap:Int),.slice sa na sc] 59)).alloc (.cells #[.int .i64 s2,.int .i64 (bs:Int),.int .i64 (bt:Int),.int .i64 (bp:Int),.slice ta nb tc] 59)).cell? ⟨g,o+i,none⟩=some (.int .i64 (x:Int)):=fun hne=>by
  obtain ⟨g,o,e,h⟩:=hsr hne;exact ⟨g,o,e,fun i x hx=>(hb0.cell (World.block_lt_of_cell? _ _ (h i x hx))).trans (h i x hx)⟩
 have htr2:bc≠[]->∃ g o,ta=some ⟨g,o,none⟩ /\ ∀ (i x:Nat),bc[i]?=some x->((w.alloc (.cells #[.int .i64 s1,.int .i64 (aq:Int),.int .i64 (at_:Int),.int .i64 (ap:Int),.slice sa na sc] 59)).alloc (.cells #[.int .i64 s2,.int .i64 (bs:Int),.int .i64 (bt:Int),.int .i64 (bp:Int),.slice ta nb tc] 59)).cell? ⟨g,o+i,none⟩=some (.int .i64 (x:Int)):=fun hne=>by
  obtain ⟨g,o,e,h⟩:=htr hne;exact ⟨g,o,e,fun i x hx=>(hb0.cell (World.block_lt_of_cell? _ _ (h i x hx))).trans (h i x hx)⟩
 have HS:=Hd (An hsr2 htr2);clear hsr htr hu hv hb0 hsr2 htr2;obtain ⟨R,hR⟩:∃ R,(decide (s1=s2)&&decide ((⟨ap,aq,at_,ac⟩:Al)=⟨bp,bs,bt,bc⟩))=R:=⟨_,rfl⟩;rw [hR];have hx0:s1≠s2->false=R:=fun h=>by rw [<- hR,decide_eq_false h];rfl
 have hx1:(⟨ap,aq,at_,ac⟩:Al)≠⟨bp,bs,bt,bc⟩->false=R:=fun h=>by rw [<- hR,decide_eq_false h,Bool.and_false]
 have hx2:s1=s2->(⟨ap,aq,at_,ac⟩:Al)=⟨bp,bs,bt,bc⟩->true=R:=fun h k=>by rw [<- hR,decide_eq_true h,decide_eq_true k];rfl
 have HX2:=Hd hx2;have HX:=Hd hx1;have HX0:=Hd hx0;clear hx0 hx1 hx2 hR
 go_enter Tryz.func19,Tryz.ntmps19
 by_cases c0:s1=s2
 case neg =>
  have HV:=Hd (HX0.out c0);go_wp2_with fail
  go_ret
  exact ⟨ret_bool HV.out,HB.out⟩
 subst c0
 by_cases c1:aq=bs
 case neg =>
  have HV:=Hd (HX.out fun h=>c1 (congrArg Al.src h))
  have d1:¬ (aq:Int)=(bs:Int):=by omega
  clear c1;go_wp2_with fail
  go_ret
  exact ⟨ret_bool HV.out,HB.out⟩
 subst c1
 by_cases c2:at_=bt
 case neg =>
  have HV:=Hd (HX.out fun h=>c2 (congrArg Al.til h))
  have d2:¬ (at_:Int)=(bt:Int):=by omega
  clear c2;go_wp2_with fail
  go_ret
  exact ⟨ret_bool HV.out,HB.out⟩
 subst c2
 by_cases c3:ap=bp
 case neg =>
  have HV:=Hd (HX.out fun h=>c3 (congrArg Al.prod h))
  have d3:¬ (ap:Int)=(bp:Int):=by omega
  clear c3;go_wp2_with fail
  go_ret
  exact ⟨ret_bool HV.out,HB.out⟩
 subst c3
 by_cases c4:na=nb
 case neg =>
  have HV:=Hd (HX.out fun h=>c4 (by rw [<- HN.out.1,<- HN.out.2];exact congrArg (fun x:Al=>x.cuts.length) h))
  have d4:¬ (na:Int)=(nb:Int):=by omega
  clear c4;go_wp2_with fail
  go_ret
  exact ⟨ret_bool HV.out,HB.out⟩
 subst c4;go_wp2_with fail
 have hB1:Blk ((w.alloc (.cells #[.int .i64 s1,.int .i64 (aq:Int),.int .i64 (at_:Int),.int .i64 (ap:Int),.slice sa na sc] 59)).alloc (.cells #[.int .i64 s1,.int .i64 (aq:Int),.int .i64 (at_:Int),.int .i64 (ap:Int),.slice ta na tc] 59)) w.heap.size 59 #[.int .i64 s1,.int .i64 (aq:Int),.int .i64 (at_:Int),.int .i64 (ap:Int),.slice sa na sc]:=(Blk.new _ _ _).alloc _;have hB2:Blk ((w.alloc (.cells #[.int .i64 s1,.int .i64 (aq:Int),.int .i64 (at_:Int),.int .i64 (ap:Int),.slice sa na sc] 59)).alloc (.cells #[.int .i64 s1,.int .i64 (aq:Int),.int .i64 (at_:Int),.int .i64 (ap:Int),.slice ta na tc] 59)) (w.heap.size+1) 59 #[.int .i64 s1,.int .i64 (aq:Int),.int .i64 (at_:Int),.int .i64 (ap:Int),.slice ta na tc]:=Blk.new_ (by simp) _ _
 generalize ((w.alloc (.cells #[.int .i64 s1,.int .i64 (aq:Int),.int .i64 (at_:Int),.int .i64 (ap:Int),.slice sa na sc] 59)).alloc (.cells #[.int .i64 s1,.int .i64 (aq:Int),.int .i64 (at_:Int),.int .i64 (ap:Int),.slice ta na tc] 59))=W1 at hB1 hB2 HB HS ⊢;have q4:=hB1.cell 4;have q5:=hB2.cell 4;simp at q4 q5;clear hB1 hB2;have hbw:Below W1.heap.size W1 W1:=Below.refl _ _;have HQ:=Hd (An q4 q5);clear q4 q5
 go_loopg [5] na (fun m v5 wr=>∃ i:Nat,i<=na /\ m=na - i /\ v5=.int .i64 i /\ ac.take i=bc.take i /\ Below W1.heap.size W1 wr)
 case atStart=>exact ⟨0,Nat.zero_le _,rfl,rfl,by simp,hbw⟩
 case round =>
  obtain ⟨i,hi,hm,rfl,ho,hbw⟩:=hrel;have q4:=(hbw.cell (World.block_lt_of_cell? _ _ HQ.out.1)).trans HQ.out.1;have q5:=(hbw.cell (World.block_lt_of_cell? _ _ HQ.out.2)).trans HQ.out.2;have hbz:=HB.out.trans (hbw.mono HB.out.size);have HBW:=Hd (An hbw hbz);clear hbw hbz
  by_cases hlt:i<na
  ·obtain ⟨x,hx⟩:∃ x,ac[i]?=some x:=⟨_,List.getElem?_eq_getElem (by rw [HN.out.1];exact hlt)⟩
   obtain ⟨y,hy⟩:∃ y,bc[i]?=some y:=⟨_,List.getElem?_eq_getElem (by rw [HN.out.2];exact hlt)⟩
   obtain ⟨sg,so,rfl,hsr⟩:=HS.out.1 (by rintro h;have h2:=HN.out.1;rw [h] at h2;simp at h2;omega)
   obtain ⟨tg,tO,rfl,htr⟩:=HS.out.2 (by rintro h;have h2:=HN.out.2;rw [h] at h2;simp at h2;omega)
   have k0:=(HBW.out.1.cell (World.block_lt_of_cell? _ _ (hsr i x hx))).trans (hsr i x hx);have k1:=(HBW.out.1.cell (World.block_lt_of_cell? _ _ (htr i y hy))).trans (htr i y hy);have hi0:(0:Int)<=(i:Int):=by omega
   have hi1:(i:Int)<(na:Int):=by omega
   have hil:i<=1000:=by omega
   have HR:=Hd (An hm (An ho (An hx hy)));clear hm ho hsr htr hx hy
   by_cases hxy:x=y
   ·have hxi:(x:Int)=(y:Int):=by omega
    have HY:=Hd hxy;clear hxy;go_wp2_with fail
    apply via
    ·intro K
     go_region
     all_goals (try go_simp)
     all_goals exact K.out
    go_wp2_with fail
    go_roundg (na - (i+1))
    case measure=>have:=HR.out.1;omega
    case rel=>exact ⟨i+1,by omega,rfl,rfl,by rw [List.take_add_one,List.take_add_one,HR.out.2.1,HR.out.2.2.1,HR.out.2.2.2,HY.out],HBW.out.1.drew⟩
   ·have hxi:¬ (x:Int)=(y:Int):=by omega
    have HV:=Hd (HX.out fun h=>hxy (by
     have h2:ac=bc:=congrArg Al.cuts h;have h3:=HR.out.2.2.1;rw [h2,HR.out.2.2.2] at h3;exact (Option.some.inj h3).symm))
    clear hxy;go_wp2_with fail
    apply via
    ·intro K
     go_region
     all_goals (try go_simp)
     all_goals exact K.out
    go_wp2_with fail
    go_ret
    exact ⟨ret_bool HV.out,HBW.out.2.drew⟩
  ·obtain rfl:i=na:=by omega
   have hV:true=R:=HX2.out (by first | rfl | trivial) (by
    rw [<- HN.out.1,List.take_length,HN.out.1,<- HN.out.2,List.take_length] at ho;rw [ho])
   have HV:=Hd hV;clear hV ho hm;go_wp2_with fail
   go_ret
   exact ⟨ret_bool HV.out,HBW.out.2⟩
end Go.Proofs.YthiochcpmfkgcaaGreatDoor.Gl
