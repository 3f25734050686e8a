/- Walks and plain laws that the last text stands on: GlA, TbPureA, GlT, RowsA, TbMem, MapA. -/
import Derived.Lib.Hide
import Derived.Lib.ItoaNum
import Derived.KernelRfl
import Derived.WalkKit
import Derived.WalkSpells
import Derived.WalkLawsBesides
import Derived.Handy
import Derived.LoopTactic
import Derived.Deep.QuietTactic
import Derived.BigQuiet
import Derived.Deep.LoopGhost
import Derived.Lib.BufferRead
import Derived.Laws.AppendOwn
import Derived.Deep.AppendLies
import Derived.Laws.IdiomCopy
import Derived.Lib.SliceRun
import Derived.OwnWalkIn
import Derived.StillTail
import Derived.Test.YthiochcpmfkgcaaGreatDoorProg
import Derived.Maps.OwnSet
import Derived.Maps.OwnOps
import Derived.WideKeyArr2
import Derived.WideKeyEntry
import Derived.DeepKeys4
set_option linter.unusedVariables false
set_option linter.unusedSimpArgs false
set_option maxRecDepth 100000
set_option maxHeartbeats 16000000
theorem Go.Proofs.YthiochcpmfkgcaaGreatDoor.An {a b:Prop} (h:a) (k:b):a /\ b:=And.intro h k
theorem Go.Proofs.YthiochcpmfkgcaaGreatDoor.Hd {p:Prop} (h:p):Go.RowKit.Hid p:=Go.Lib.hid h
namespace Go.Proofs.YthiochcpmfkgcaaGreatDoor.Gl
abbrev Nd:=Nat × Nat
structure Al where
 prod:Nat
 src:Nat
 til:Nat
 cuts:List Nat
deriving DecidableEq
structure Tab where
 shift:Nat->UInt8->Option Nat
 goto_:Nat->Int->Option Nat
 done:Nat->List Nat
 len:Nat->Nat
 left:Nat->Int
def Way (E:Nd->Nd->Prop):Nat->Nd->Nd->List Nat->Prop
 | 0,x,y,c=>x=y /\ c=[]
 | n+1,x,y,c=>∃ z d,E x z /\ Way E n z y d /\ c=d++[x.2]
theorem Way.mono {E F:Nd->Nd->Prop} (h:∀ x y,E x y->F x y):∀ {n:Nat} {x y:Nd} {c:List Nat},Way E n x y c->Way F n x y c
 | 0,_,_,_,k=>k
 | n+1,_,_,_,⟨z,d,k1,k2,k3⟩=>⟨z,d,h _ _ k1,Way.mono h k2,k3⟩
structure Closed (T:Tab) (w:List UInt8) (N:Nd->Prop) (E:Nd->Nd->Prop) (A:Al->Prop):Prop where
 start:N (0,0)
 node:∀ x y,E x y->N x
 shift:∀ s i b t,N (s,i)->w[i]?=some b->T.shift s b=some t->E (t,i+1) (s,i)
 alt:∀ s j p y c,N (s,j)->j<=w.length->p∈T.done s->Way E (T.len p) (s,j) y c->A ⟨p,y.2,j,c⟩
 goto_:∀ s j p y c t,N (s,j)->j<=w.length->p∈T.done s->Way E (T.len p) (s,j) y c->T.goto_ y.1 (T.left p)=some t->E (t,j) y
def LN (T:Tab) (w:List UInt8) (x:Nd):Prop:=∀ N E A,Closed T w N E A->N x
def LE (T:Tab) (w:List UInt8) (x y:Nd):Prop:=∀ N E A,Closed T w N E A->E x y
def LA (T:Tab) (w:List UInt8) (a:Al):Prop:=∀ N E A,Closed T w N E A->A a
theorem least_closed (T:Tab) (w:List UInt8):Closed T w (LN T w) (LE T w) (LA T w) where
 start:=fun N E A h=>h.start
 node:=fun x y k N E A h=>h.node x y (k N E A h)
 shift:=fun s i b t k1 k2 k3 N E A h=>h.shift s i b t (k1 N E A h) k2 k3
 alt:=fun s j p y c k1 k2 k3 k4 N E A h=>h.alt s j p y c (k1 N E A h) k2 k3 (k4.mono fun _ _ k=>k N E A h)
 goto_:=fun s j p y c t k1 k2 k3 k4 k5 N E A h=>h.goto_ s j p y c t (k1 N E A h) k2 k3 (k4.mono fun _ _ k=>k N E A h) k5
theorem least_ind {T:Tab} {w:List UInt8} {N:Nd->Prop} {E:Nd->Nd->Prop} {A:Al->Prop} (h:Closed T w (fun x=>LN T w x /\ N x) (fun x y=>LE T w x y /\ E x y) (fun a=>LA T w a /\ A a)) :
  (∀ x,LN T w x->N x) /\ (∀ x y,LE T w x y->E x y) /\ (∀ a,LA T w a->A a) :=
 ⟨fun x k=>(k _ _ _ h).2,fun x y k=>(k _ _ _ h).2,fun a k=>(k _ _ _ h).2⟩

/-! The run. -/
structure Rn where
  left:Nat
  nodes:List Nd
  edges:List (Nd × Nd)
  alts:List Al
  tries:List (Nd × Nd)
inductive Out (α:Type) where
 | stop (r:Rn)
 | ok (a:α)
def rowF (r:Rn) (i:Nat):List Nat:=(r.nodes.filter fun x=>x.2==i).map (·.1)
def backF (edges:List (Nd × Nd)) (x:Nd):List Nd:=(edges.filter fun e=>e.1==x).map (·.2)
def waysF (edges:List (Nd × Nd)):Nat->Nd->List (Nd × List Nat)
 | 0,x=>[(x,[])]
 | n+1,x=>(backF edges x).flatMap fun z=>(waysF edges n z).map fun y=>(y.1,y.2++[x.2])
def pushF (r:Rn) (x:Nd):Rn:=if x∈r.nodes then r else { r with nodes:=r.nodes++[x] }
def linkF (r:Rn) (x y:Nd):Out (Rn × Bool) :=
 if (x,y)∈r.edges then .ok ({ r with tries:=r.tries++[(x,y)] },false)
 else if r.left=0 then .stop { r with tries:=r.tries++[(x,y)] }
 else .ok ({ pushF r x with left:=r.left - 1,edges:=r.edges++[(x,y)],tries:=r.tries++[(x,y)] },true)
def altF (r:Rn) (a:Al):Out (Rn × Bool) :=
 if a∈r.alts then .ok (r,false)
 else if r.left=0 then .stop r
 else .ok ({ r with left:=r.left - 1,alts:=r.alts++[a] },true)
def foundF (T:Tab) (j p:Nat):List (Nd × List Nat)->Rn->Bool->Out (Rn × Bool)
 | [],r,f=>.ok (r,f)
 | y::l,r,f =>
  match altF r ⟨p,y.1.2,j,y.2⟩ with
  | .stop r=>.stop r
  | .ok (r,f1) =>
   match T.goto_ y.1.1 (T.left p) with
   | none=>foundF T j p l r (f || f1)
   | some t =>
    match linkF r (t,j) y.1 with
    | .stop r=>.stop r
    | .ok (r,f2)=>foundF T j p l r (f || f1 || f2)
def prodsF (T:Tab) (x:Nd):List Nat->Rn->Bool->Out (Rn × Bool)
 | [],r,f=>.ok (r,f)
 | p::l,r,f =>
  match foundF T x.2 p (waysF r.edges (T.len p) x) r f with
  | .stop r=>.stop r
  | .ok (r,f)=>prodsF T x l r f
def reduceF (T:Tab) (r:Rn) (x:Nd):Out (Rn × Bool):=prodsF T x (T.done x.1) r false
def passF (T:Tab) (at_:Nat):List Nat->Rn->Out (Rn × Bool)
 | [],r=>.ok (r,false)
 | s::l,r =>
  match reduceF T r (s,at_) with
  | .stop r=>.stop r
  | .ok (r,true)=>.ok (r,true)
  | .ok (r,false)=>passF T at_ l r
def againF (T:Tab) (at_:Nat):Nat->Rn->Out Rn
 | 0,r=>.stop r
 | f+1,r =>
  match passF T at_ (rowF r at_) r with
  | .stop r=>.stop r
  | .ok (r,true)=>againF T at_ f r
  | .ok (r,false)=>.ok r
def shiftsF (T:Tab) (at_:Nat) (b:UInt8):List Nat->Rn->Out Rn
 | [],r=>.ok r
 | s::l,r =>
  match T.shift s b with
  | none=>shiftsF T at_ b l r
  | some t =>
   match linkF r (t,at_+1) (s,at_) with
   | .stop r=>.stop r
   | .ok (r,_)=>shiftsF T at_ b l r
def placeF (T:Tab) (w:List UInt8) (at_:Nat) (r:Rn):Out Rn :=
 match againF T at_ (r.left+1) r with
 | .stop r=>.stop r
 | .ok r =>
  match w[at_]? with
  | none=>.ok r
  | some b=>shiftsF T at_ b (rowF r at_) r
def goneGo (T:Tab) (w:List UInt8):Nat->Nat->Rn->Out Rn
 | 0,_,r=>.ok r
 | k+1,at_,r =>
  if rowF r at_=[] then .ok r
  else
   match placeF T w at_ r with
   | .stop r=>.stop r
   | .ok r=>goneGo T w k (at_+1) r
def newF (budget:Nat):Rn:=⟨budget,[(0,0)],[],[],[]⟩
def goneF (T:Tab) (w:List UInt8) (budget:Nat):Out Rn:=goneGo T w (w.length+1) 0 (newF budget)

/-! Ways, as they are found. -/
def eP (l:List (Nd × Nd)) (x y:Nd):Prop:=(x,y)∈l
theorem backF_mem {l:List (Nd × Nd)} {x z:Nd}:z∈backF l x↔eP l x z:=by
 unfold backF eP;simp only [List.mem_map,List.mem_filter,beq_iff_eq]
 constructor
 ·rintro ⟨e,⟨h1,h2⟩,h3⟩
  obtain ⟨a,b⟩:=e;simp only at h2 h3;rw [<- h2,<- h3];exact h1
 ·intro h
  exact ⟨(x,z),⟨h,rfl⟩,rfl⟩
theorem waysF_mem {l:List (Nd × Nd)}:∀ {n:Nat} {x:Nd} {y:Nd × List Nat},y∈waysF l n x↔Way (eP l) n x y.1 y.2
 | 0,x,y=>by
  unfold waysF Way;rw [List.mem_singleton]
  constructor
  ·rintro rfl;exact ⟨rfl,rfl⟩
  ·rintro ⟨h1,h2⟩;exact Prod.ext h1.symm h2
 | n+1,x,y=>by
  unfold waysF Way;simp only [List.mem_flatMap,List.mem_map]
  constructor
  ·rintro ⟨z,hz,u,hu,rfl⟩
   exact ⟨z,u.2,backF_mem.1 hz,waysF_mem.1 hu,rfl⟩
  ·rintro ⟨z,d,h1,h2,h3⟩
   exact ⟨z,backF_mem.2 h1,(y.1,d),waysF_mem.2 h2,Prod.ext rfl h3.symm⟩
theorem rowF_mem {r:Rn} {i s:Nat}:s∈rowF r i↔(s,i)∈r.nodes:=by
 unfold rowF;simp only [List.mem_map,List.mem_filter,beq_iff_eq]
 constructor
 ·rintro ⟨⟨a,b⟩,⟨h1,h2⟩,h3⟩
  simp only at h2 h3;rw [<- h2,<- h3];exact h1
 ·intro h
  exact ⟨(s,i),⟨h,rfl⟩,rfl⟩
end Go.Proofs.YthiochcpmfkgcaaGreatDoor.Gl
namespace Go.Proofs.YthiochcpmfkgcaaGreatDoor.Tb
structure Sy where
 kind:Int
 set:Nat
 sort:Int
instance:DecidableEq Sy:=fun a b =>
 if h:a.kind=b.kind /\ a.set=b.set /\ a.sort=b.sort then
  isTrue (by obtain ⟨a1,a2,a3⟩:=a;obtain ⟨b1,b2,b3⟩:=b;obtain ⟨h1,h2,h3⟩:=h;simp at h1 h2 h3;subst h1;subst h2;subst h3;rfl)
 else isFalse (by rintro rfl;exact h ⟨rfl,rfl,rfl⟩)
structure Pr where
 left:Int
 right:List Sy
 cons:List UInt8
 role:Int
 prefer:Bool
 avoid:Bool
 made:Int
structure Gr where
 sorts:List (List UInt8)
 prods:List Pr
 start:Int
 forbid:List (Int × Int × Int)
 follow:List (Int × Nat)
abbrev It:=Nat × Nat
def rightOf (g:Gr) (n:Nat):List Sy:=((g.prods[n]?).map (·.right)).getD []
def itemOk (g:Gr) (x:It):Bool:=x.1<g.prods.length&&x.2<=(rightOf g x.1).length
def ofS (g:Gr) (s:Int):List Nat :=
 (List.range g.prods.length).filter fun n=>match g.prods[n]? with | some p=>p.left==s&&p.role != 11 | none=>false
def aheadF (g:Gr) (x:It):Option Sy:=(rightOf g x.1)[x.2]?
def closeGo (g:Gr):Nat->Nat->List Int->List It->List It
 | 0,_,_,out=>out
 | f+1,i,seen,out =>
  match out[i]? with
  | none=>out
  | some x =>
   match aheadF g x with
   | none=>closeGo g f (i+1) seen out
   | some s =>
    if s.kind=1 then
     if s.sort∈seen then closeGo g f (i+1) seen out
     else closeGo g f (i+1) (s.sort::seen) (out++(ofS g s.sort).map (·,0))
    else closeGo g f (i+1) seen out
def itLe (a b:It):Bool:=a.1<b.1 || (a.1==b.1&&a.2<=b.2)
def insIt (x:It):List It->List It
 | []=>[x]
 | y::t=>if itLe x y then x::y::t else y::insIt x t
def sortIt (l:List It):List It:=l.foldr insIt []
def compactIt:List It->List It
 | []=>[]
 | [x]=>[x]
 | x::y::t=>if x=y then compactIt (y::t) else x::compactIt (y::t)
def closedF (g:Gr) (l:List It):List It:=compactIt (sortIt (closeGo g (l.length+g.prods.length+1) 0 [] l))
def numberF (all:List (List It)) (l:List It):Option (Nat × List (List It)) :=
 match all.findIdx? (·==l) with
 | some n=>some (n,all)
 | none=>if 16384<=all.length then none else some (all.length,all++[l])
def leastF (M:Nat):Nat:=((List.range 256).find? fun b=>M.testBit b).getD 0
def splitStep (parts:List Nat) (s:Nat):List Nat :=
 parts.foldl (fun next p=>[p &&& s,p &&& (2 ^ 256 - 1 - s)].foldl (fun next x=>if x=0∨x∈next then next else next++[x]) next) []
def insSet (x:Nat):List Nat->List Nat
 | []=>[x]
 | y::t=>if leastF x<=leastF y then x::y::t else y::insSet x t
def splitF (l:List Nat):List Nat:=(l.foldl splitStep [2 ^ 256 - 1]).foldr insSet []
def withinF (a b:Nat):Bool:=a &&& b==a
def insInt (x:Int):List Int->List Int
 | []=>[x]
 | y::t=>if x<=y then x::y::t else y::insInt x t
def sortStep (g:Gr) (o:List Int) (x:It):List Int:=match aheadF g x with | some s=>if s.kind=1 /\ s.sort ∉ o then o++[s.sort] else o | none=>o
def sortsOf (g:Gr) (l:List It):List Int:=(l.foldl (sortStep g) []).foldr insInt []
def setsOf (g:Gr) (l:List It):List Nat:=l.filterMap fun x=>match aheadF g x with | some s=>if s.kind=0 then some s.set else none | none=>none
def movedSort (g:Gr) (l:List It) (s:Int):List It:=(l.filter fun x=>match aheadF g x with | some y=>y.kind==1&&y.sort==s | none=>false).map fun x=>(x.1,x.2+1)
def movedSet (g:Gr) (l:List It) (c:Nat):List It:=(l.filter fun x=>match aheadF g x with | some y=>y.kind==0&&withinF c y.set | none=>false).map fun x=>(x.1,x.2+1)
def leadsF (g:Gr) (l:List It):List (Sy × List It) :=
 ((sortsOf g l).map fun s=>(⟨1,0,s⟩,closedF g (movedSort g l s))) ++
 ((splitF (setsOf g l)).filterMap fun c=>if (movedSet g l c).isEmpty then none else some (⟨0,c,0⟩,closedF g (movedSet g l c)))
def numbersF:List (List It)->List (Sy × List It)->Option (List (Sy × Nat) × List (List It))
 | all,[]=>some ([],all)
 | all,(s,l)::t =>
  match numberF all l with
  | none=>none
  | some (n,all') =>
   match numbersF all' t with
   | none=>none
   | some (e,all'')=>some ((s,n)::e,all'')
structure St where
 items:List It
 edges:List (Sy × Nat)
 done:List Nat
def doneF (g:Gr) (l:List It):List Nat:=(l.filter fun x=>x.2==(rightOf g x.1).length).map (·.1)
def nextF (e:List (Sy × Nat)):Nat:=e.foldl (fun a x=>if x.1.kind=0 then a ||| x.1.set else a) 0
def statesGo (g:Gr):Nat->Nat->List (List It)->Option (List St)
 | 0,_,_=>some []
 | f+1,n,all =>
  match all[n]? with
  | none=>some []
  | some l =>
   match numbersF all (leadsF g l) with
   | none=>none
   | some (e,all')=>(statesGo g f (n+1) all').map fun t=>⟨l,e,doneF g l⟩::t
def makeF (g:Gr):Option (List St):=statesGo g 16385 0 [closedF g ((ofS g g.start).map (·,0))]
theorem compactIt_cons (x y:It) (t:List It):compactIt (x::y::t)=if x=y then compactIt (y::t) else x::compactIt (y::t):=rfl
theorem closeGo_end (g:Gr) (f i:Nat) (seen:List Int) (out:List It) (h:out.length<=i):closeGo g f i seen out=out:=by
 cases f with
 | zero=>rfl
 | succ f=>rw [closeGo,List.getElem?_eq_none h]
end Go.Proofs.YthiochcpmfkgcaaGreatDoor.Tb
namespace Go.Proofs.YthiochcpmfkgcaaGreatDoor.Tb
open Go
def dgt (c:UInt8):Bool:=decide (48<=c.toNat)&&decide (c.toNat<=57)
def valD (l:List UInt8):Nat:=l.foldl (fun a c=>10 * a+(c.toNat - 48)) 0
theorem dgt_of (k:Nat) (h:k<10):dgt (UInt8.ofNat (48+k))=true /\ (UInt8.ofNat (48+k)).toNat - 48=k:=by
 have:(UInt8.ofNat (48+k)).toNat=48+k:=by simp;omega
 unfold dgt;rw [this];simp;omega
theorem dec_told (u:Nat):(Lib.decDigits u).all dgt=true /\ valD (Lib.decDigits u)=u:=by
 induction u using Nat.strongRecOn with
 | _ u ih =>
  rw [Lib.decDigits]
  by_cases h:u<10
  ·rw [dif_pos h]
   obtain ⟨h1,h2⟩:=dgt_of u h;exact ⟨by rw [List.all_cons,h1];rfl,by simp only [valD,List.foldl_cons,List.foldl_nil];omega⟩
  ·rw [dif_neg h]
   obtain ⟨i1,i2⟩:=ih (u / 10) (by omega)
   obtain ⟨h1,h2⟩:=dgt_of (u % 10) (Nat.mod_lt _ (by decide))
   refine ⟨by rw [List.all_append,i1,List.all_cons,h1];rfl,?_⟩
   unfold valD at i2 ⊢;rw [List.foldl_append,i2,List.foldl_cons,List.foldl_nil,h2];omega
theorem dec_inj {a b:Nat} (h:Lib.decDigits a=Lib.decDigits b):a=b:=by
 rw [<- (dec_told a).2,<- (dec_told b).2,h]
theorem take_dgt (D:List UInt8) (c:UInt8) (T:List UInt8) (h:D.all dgt=true) (hc:dgt c=false):(D++c::T).takeWhile dgt=D:=by
 induction D with
 | nil=>rw [List.nil_append,List.takeWhile_cons,if_neg (by rw [hc];decide)]
 | cons d D ih =>
  rw [List.all_cons,Bool.and_eq_true] at h;rw [List.cons_append,List.takeWhile_cons,if_pos h.1,ih h.2]
theorem part_dgt {D E:List UInt8} {c:UInt8} {T U:List UInt8} (hD:D.all dgt=true) (hE:E.all dgt=true) (hc:dgt c=false) (h:D++c::T=E++c::U):D=E /\ T=U:=by
 have h1:D=E:=by
  have:=congrArg (List.takeWhile dgt) h
  rwa [take_dgt D c T hD hc,take_dgt E c U hE hc] at this
 subst h1;have h2:=List.append_cancel_left h;injection h2 with _ h2;exact ⟨rfl,h2⟩
def keyIt (x:It):List UInt8:=Lib.decDigits x.1++46::(Lib.decDigits x.2++[32])
def keyF (l:List It):List UInt8:=l.flatMap keyIt
theorem keyIt_cons (x:It) (t:List UInt8):keyIt x++t=Lib.decDigits x.1++46::(Lib.decDigits x.2++32::t):=by simp [keyIt]
theorem keyIt_ne (x:It) (t:List UInt8):keyIt x++t≠[]:=by rw [keyIt_cons];simp
theorem key_inj:∀ (l k:List It),keyF l=keyF k->l=k
 | [],[],_=>rfl
 | [],y::k,h=>absurd h.symm (by unfold keyF;rw [List.flatMap_cons];exact keyIt_ne _ _)
 | x::l,[],h=>absurd h (by unfold keyF;rw [List.flatMap_cons];exact keyIt_ne _ _)
 | x::l,y::k,h=>by
  unfold keyF at h;rw [List.flatMap_cons,List.flatMap_cons,keyIt_cons,keyIt_cons] at h;obtain ⟨h1,h2⟩:=part_dgt (dec_told x.1).1 (dec_told y.1).1 (by decide) h
  obtain ⟨h3,h4⟩:=part_dgt (dec_told x.2).1 (dec_told y.2).1 (by decide) h2
  have hxy:x=y:=Prod.ext (dec_inj h1) (dec_inj h3);rw [hxy,key_inj l k h4]
end Go.Proofs.YthiochcpmfkgcaaGreatDoor.Tb
namespace Go.Proofs.YthiochcpmfkgcaaGreatDoor.Tb
end Go.Proofs.YthiochcpmfkgcaaGreatDoor.Tb
namespace Go.Proofs.YthiochcpmfkgcaaGreatDoor.Tb
theorem insIt_perm (x:It):∀ l,(insIt x l).Perm (x::l)
 | []=>.refl _
 | y::t=>by
  rw [insIt];split
  ·exact .refl _
  ·exact ((insIt_perm x t).cons y).trans (.swap x y t)
theorem sortIt_perm:∀ l:List It,(sortIt l).Perm l
 | []=>.refl _
 | x::t=>(insIt_perm x (sortIt t)).trans ((sortIt_perm t).cons x)
theorem itLe_iff (a b:It):itLe a b=true↔a.1<b.1∨a.1=b.1 /\ a.2<=b.2:=by simp [itLe]
theorem itLe_total (a b:It):itLe a b=true∨itLe b a=true:=by simp only [itLe_iff];omega
theorem itLe_trans {a b c:It} (h:itLe a b=true) (k:itLe b c=true):itLe a c=true:=by simp only [itLe_iff] at *;omega
theorem itLe_anti {a b:It} (h:itLe a b=true) (k:itLe b a=true):a=b:=by
 simp only [itLe_iff] at *;obtain ⟨a1,a2⟩:=a;obtain ⟨b1,b2⟩:=b;simp at *;omega
theorem insIt_sorted (x:It):∀ l:List It,l.Pairwise (fun a b=>itLe a b=true)->(insIt x l).Pairwise (fun a b=>itLe a b=true)
 | [],_=>by simp [insIt]
 | y::t,h=>by
  rw [List.pairwise_cons] at h;rw [insIt];split
  ·rename_i hxy
   exact List.pairwise_cons.2 ⟨fun b hb=>by
    rcases List.mem_cons.1 hb with rfl | hb
    ·exact hxy
    ·exact itLe_trans hxy (h.1 b hb),List.pairwise_cons.2 h⟩
  ·rename_i hxy
   have hyx:itLe y x=true:=(itLe_total y x).resolve_right hxy;refine List.pairwise_cons.2 ⟨fun b hb=>?_,insIt_sorted x t h.2⟩
   rcases List.mem_cons.1 ((insIt_perm x t).mem_iff.1 hb) with rfl | hb
   ·exact hyx
   ·exact h.1 b hb
theorem sortIt_sorted:∀ l:List It,(sortIt l).Pairwise (fun a b=>itLe a b=true)
 | []=>List.Pairwise.nil
 | x::t=>insIt_sorted x _ (sortIt_sorted t)
theorem sortIt_unique {l l':List It} (hp:l'.Perm l) (hs:l'.Pairwise (fun a b=>itLe a b=true)):l'=sortIt l :=
 (hp.trans (sortIt_perm l).symm).eq_of_pairwise (fun a b _ _ h k=>itLe_anti h k) hs (sortIt_sorted l)

theorem insSet_perm (x:Nat):∀ l,(insSet x l).Perm (x::l)
 | []=>.refl _
 | y::t=>by
  rw [insSet];split
  ·exact .refl _
  ·exact ((insSet_perm x t).cons y).trans (.swap x y t)
theorem sortSet_perm:∀ l:List Nat,(l.foldr insSet []).Perm l
 | []=>.refl _
 | x::t=>(insSet_perm x _).trans ((sortSet_perm t).cons x)
theorem insSet_sorted (x:Nat):∀ l:List Nat,l.Pairwise (fun a b=>leastF a<=leastF b)->(insSet x l).Pairwise (fun a b=>leastF a<=leastF b)
 | [],_=>by simp [insSet]
 | y::t,h=>by
  rw [List.pairwise_cons] at h;rw [insSet];split
  ·rename_i hxy
   exact List.pairwise_cons.2 ⟨fun b hb=>by
    rcases List.mem_cons.1 hb with rfl | hb
    ·exact hxy
    ·exact Nat.le_trans hxy (h.1 b hb),List.pairwise_cons.2 h⟩
  ·rename_i hxy
   refine List.pairwise_cons.2 ⟨fun b hb=>?_,insSet_sorted x t h.2⟩
   rcases List.mem_cons.1 ((insSet_perm x t).mem_iff.1 hb) with rfl | hb
   ·omega
   ·exact h.1 b hb
theorem sortSet_sorted:∀ l:List Nat,(l.foldr insSet []).Pairwise (fun a b=>leastF a<=leastF b)
 | []=>List.Pairwise.nil
 | x::t=>insSet_sorted x _ (sortSet_sorted t)

theorem insInt_perm (x:Int):∀ l,(insInt x l).Perm (x::l)
 | []=>.refl _
 | y::t=>by
  rw [insInt];split
  ·exact .refl _
  ·exact ((insInt_perm x t).cons y).trans (.swap x y t)
theorem sortInt_perm:∀ l:List Int,(l.foldr insInt []).Perm l
 | []=>.refl _
 | x::t=>(insInt_perm x _).trans ((sortInt_perm t).cons x)
theorem insInt_sorted (x:Int):∀ l:List Int,l.Pairwise (fun a b=>a<=b)->(insInt x l).Pairwise (fun a b=>a<=b)
 | [],_=>by simp [insInt]
 | y::t,h=>by
  rw [List.pairwise_cons] at h;rw [insInt];split
  ·rename_i hxy
   exact List.pairwise_cons.2 ⟨fun b hb=>by
    rcases List.mem_cons.1 hb with rfl | hb
    ·exact hxy
    ·exact Int.le_trans hxy (h.1 b hb),List.pairwise_cons.2 h⟩
  ·rename_i hxy
   refine List.pairwise_cons.2 ⟨fun b hb=>?_,insInt_sorted x t h.2⟩
   rcases List.mem_cons.1 ((insInt_perm x t).mem_iff.1 hb) with rfl | hb
   ·omega
   ·exact h.1 b hb
theorem sortInt_sorted:∀ l:List Int,(l.foldr insInt []).Pairwise (fun a b=>a<=b)
 | []=>List.Pairwise.nil
 | x::t=>insInt_sorted x _ (sortInt_sorted t)
theorem sortInt_unique {l l':List Int} (hp:l'.Perm l) (hs:l'.Pairwise (fun a b=>a<=b)):l'=l.foldr insInt [] :=
 (hp.trans (sortInt_perm l).symm).eq_of_pairwise (fun a b _ _ h k=>by omega) hs (sortInt_sorted l)

/-! Parts: none is empty, no two share a bit. -/
/-- Parts that may be: below 2^256, none empty, pairwise apart. -/
def Parts (l:List Nat):Prop:=(∀ p∈l,p≠0 /\ p<2 ^ 256) /\ l.Pairwise (fun a b=>a &&& b=0)
theorem testBit_not (s i:Nat) (hs:s<2 ^ 256):(2 ^ 256 - 1 - s).testBit i=(decide (i<256)&&!s.testBit i):=by
 have h:2 ^ 256 - 1 - s=2 ^ 256 - (s+1):=by omega
 rw [h,Nat.testBit_two_pow_sub_succ hs]
theorem without_bit (p s i:Nat) (hs:s<2 ^ 256) (hp:p<2 ^ 256):(p &&& (2 ^ 256 - 1 - s)).testBit i=(p.testBit i&&!s.testBit i):=by
 rw [Nat.testBit_and,testBit_not s i hs]
 by_cases hi:i<256
 ·simp [hi]
 ·have:p.testBit i=false:=Nat.testBit_lt_two_pow (Nat.lt_of_lt_of_le hp (Nat.pow_le_pow_right (by omega) (by omega)))
  simp [this]
theorem apart_iff (a b:Nat):a &&& b=0↔∀ i,¬ (a.testBit i=true /\ b.testBit i=true):=by
 constructor
 ·intro h i hi
  have:=congrArg (fun n=>Nat.testBit n i) h
  simp [hi.1,hi.2] at this
 ·intro h
  apply Nat.eq_of_testBit_eq
  intro i;have:=h i;simp only [Nat.testBit_and,Nat.zero_testBit]
  cases ha:a.testBit i <;> cases hb:b.testBit i <;> simp_all
def cutF (next:List Nat) (p s:Nat):List Nat:=[p &&& s,p &&& (2 ^ 256 - 1 - s)].foldl (fun next x=>if x=0∨x∈next then next else next++[x]) next
theorem splitStep_eq (parts:List Nat) (s:Nat):splitStep parts s=parts.foldl (fun next p=>cutF next p s) []:=rfl
def addF (next:List Nat) (x:Nat):List Nat:=if x=0∨x∈next then next else next++[x]
theorem cutF_eq (next:List Nat) (p s:Nat):cutF next p s=addF (addF next (p &&& s)) (p &&& (2 ^ 256 - 1 - s)):=rfl
theorem addF_parts {next:List Nat} {x:Nat} (h:Parts next) (hx:x<2 ^ 256) (ha:∀ y∈next,y &&& x=0):Parts (addF next x):=by
 unfold addF
 split
 ·exact h
 ·rename_i hn
  simp only [not_or] at hn;refine ⟨fun p hp=>?_,List.pairwise_append.2 ⟨h.2,by simp,fun a ha' b hb=>?_⟩⟩
  ·rcases List.mem_append.1 hp with hp | hp
   ·exact h.1 p hp
   ·rw [List.mem_singleton] at hp;subst hp;exact ⟨hn.1,hx⟩
  ·rw [List.mem_singleton] at hb;subst hb;exact ha a ha'
theorem addF_mem {next:List Nat} {x y:Nat} (h:y∈addF next x):y∈next∨y=x:=by
 unfold addF at h
 split at h
 ·exact .inl h
 ·rcases List.mem_append.1 h with h | h
  ·exact .inl h
  ·exact .inr (List.mem_singleton.1 h)
theorem splitStep_parts {parts:List Nat} {s:Nat} (hs:s<2 ^ 256) (h:Parts parts):Parts (splitStep parts s):=by
 rw [splitStep_eq]
 suffices H:∀ (l next:List Nat),Parts l->Parts next->(∀ y∈next,∀ p∈l,y &&& p=0)->Parts (l.foldl (fun next p=>cutF next p s) next) from
  H parts [] h ⟨by simp,List.Pairwise.nil⟩ (by simp)
 intro l
 induction l with
 | nil=>intro next _ hn _;exact hn
 | cons p l ih =>
  intro next hl hn hx;rw [List.foldl_cons];have hp:=hl.1 p (by simp)
  have hpl:=List.pairwise_cons.1 hl.2;have e1:p &&& s<2 ^ 256:=Nat.lt_of_le_of_lt Nat.and_le_left hp.2;have e2:p &&& (2 ^ 256 - 1 - s)<2 ^ 256:=Nat.lt_of_le_of_lt Nat.and_le_left hp.2;have sub:∀ {y x t:Nat},y &&& p=0->y &&& (p &&& t)=0:=by
   intro y x t h;rw [apart_iff] at h ⊢;intro i hi;rw [Nat.testBit_and] at hi;exact h i ⟨hi.1,by simp at hi;exact hi.2.1⟩
  have n1:Parts (addF next (p &&& s)):=addF_parts hn e1 (fun y hy=>sub (x:=0) (hx y hy p (by simp)))
  have n2:Parts (cutF next p s):=by
   rw [cutF_eq];refine addF_parts n1 e2 (fun y hy=>?_)
   rcases addF_mem hy with hy | rfl
   ·exact sub (x:=0) (hx y hy p (by simp))
   ·rw [apart_iff]
    intro i hi;rw [without_bit p s i hs hp.2,Nat.testBit_and] at hi;simp at hi;rw [hi.1.2] at hi;simp at hi
  refine ih _ ⟨fun q hq=>hl.1 q (by simp [hq]),hpl.2⟩ n2 (fun y hy q hq=>?_)
  have hpq:=hpl.1 q hq;rw [cutF_eq] at hy
  rcases addF_mem hy with hy | rfl
  ·rcases addF_mem hy with hy | rfl
   ·exact hx y hy q (by simp [hq])
   ·rw [apart_iff] at hpq ⊢
    intro i hi;rw [Nat.testBit_and] at hi;simp at hi;exact hpq i ⟨hi.1.1,hi.2⟩
  ·rw [apart_iff] at hpq ⊢
   intro i hi;rw [without_bit p s i hs hp.2] at hi;simp at hi;exact hpq i ⟨hi.1.1,hi.2⟩
theorem full_parts:Parts [2 ^ 256 - 1]:=⟨by intro p hp;rw [List.mem_singleton] at hp;subst hp;exact ⟨by decide,by decide⟩,by simp⟩
theorem parts_all:∀ (l:List Nat) (parts:List Nat),(∀ s∈l,s<2 ^ 256)->Parts parts->Parts (l.foldl splitStep parts)
 | [],_,_,h=>h
 | s::l,parts,hl,h=>parts_all l _ (fun t ht=>hl t (by simp [ht])) (splitStep_parts (hl s (by simp)) h)
theorem exists_bit {M:Nat} (h0:M≠0) (h1:M<2 ^ 256):∃ b,b<256 /\ M.testBit b=true:=by
 obtain ⟨b,hb⟩:=Nat.exists_testBit_of_ne_zero h0;refine ⟨b,?_,hb⟩
 rcases Nat.lt_or_ge b 256 with h | h
 ·exact h
 ·rw [Nat.testBit_lt_two_pow (Nat.lt_of_lt_of_le h1 (Nat.pow_le_pow_right (by omega) h))] at hb;cases hb
theorem leastF_bit {M:Nat} (h0:M≠0) (h1:M<2 ^ 256):M.testBit (leastF M)=true:=by
 obtain ⟨b,hb,hbit⟩:=exists_bit h0 h1;unfold leastF
 cases hf:(List.range 256).find? (fun b=>M.testBit b) with
 | some x=>exact List.find?_some hf
 | none=>exact absurd hbit (List.find?_eq_none.1 hf b (by simp;omega))
theorem leastF_inj {a b:Nat} {l:List Nat} (h:Parts l) (ha:a∈l) (hb:b∈l) (e:leastF a=leastF b):a=b:=by
 have h1:=leastF_bit (h.1 a ha).1 (h.1 a ha).2;have h2:=leastF_bit (h.1 b hb).1 (h.1 b hb).2;rw [e] at h1
 rcases Classical.em (a=b) with hab | hab
 ·exact hab
 ·obtain ⟨i,hi,rfl⟩:=List.getElem_of_mem ha
  obtain ⟨j,hj,rfl⟩:=List.getElem_of_mem hb;have hp:=List.pairwise_iff_getElem.1 h.2
  rcases Nat.lt_trichotomy i j with hij | rfl | hij
  ·exact absurd ⟨h1,h2⟩ ((apart_iff _ _).1 (hp i j hi hj hij) _)
  ·exact absurd rfl hab
  ·exact absurd ⟨h2,h1⟩ ((apart_iff _ _).1 (hp j i hj hi hij) _)
theorem sortSet_unique {l l':List Nat} (h:Parts l) (hp:l'.Perm l) (hs:l'.Pairwise (fun a b=>leastF a<=leastF b)):l'=l.foldr insSet [] :=
 (hp.trans (sortSet_perm l).symm).eq_of_pairwise (fun a b ha hb h1 h2=>leastF_inj h (hp.mem_iff.1 ha) ((sortSet_perm l).mem_iff.1 hb) (Nat.le_antisymm h1 h2)) hs (sortSet_sorted l)
end Go.Proofs.YthiochcpmfkgcaaGreatDoor.Tb
namespace Go.Proofs.YthiochcpmfkgcaaGreatDoor.Tb
theorem nodup_le {α:Type} [DecidableEq α]:∀ (a b:List α),a.Nodup->(∀ x∈a,x∈b)->a.length<=b.length
 | [],b,_,_=>Nat.zero_le _
 | x::a,b,hn,h=>by
  rw [List.nodup_cons] at hn;have hx:x∈b:=h x (by simp)
  have:=nodup_le a (b.erase x) hn.2 (fun y hy=>by
   have hne:y≠x:=fun e=>hn.1 (e ▸ hy)
   exact (List.mem_erase_of_ne hne).2 (h y (by simp [hy])))
  rw [List.length_erase_of_mem hx] at this;have:0<b.length:=List.length_pos_of_mem hx;simp;omega
theorem numberF_some {all all':List (List It)} {l:List It} {n:Nat} (h:numberF all l=some (n,all')) (hn:all.Nodup) (hl:all.length<=16384) :
  all'.Nodup /\ all'.length<=16384 /\ l∈all' /\ (∃ t,all'=all++t) /\ (∀ x∈all',x∈all∨x=l):=by
 unfold numberF at h
 cases hf:all.findIdx? (·==l) with
 | some k =>
  rw [hf] at h;simp at h;obtain ⟨rfl,rfl⟩:=h;obtain ⟨hk,hp,_⟩:=List.findIdx?_eq_some_iff_getElem.1 hf;have hm:l∈all:=by
   have:all[k]=l:=by simpa using hp
   rw [<- this];exact List.getElem_mem hk
  exact ⟨hn,hl,hm,⟨[],by simp⟩,fun x hx=>.inl hx⟩
 | none =>
  rw [hf] at h;dsimp only at h;have hnot:l ∉ all:=by
   intro hm;have:=List.findIdx?_eq_none_iff.1 hf l hm;simp at this
  split at h
  ·cases h
  ·rename_i hlt
   injection h with h;injection h with h1 h2;subst h2;refine ⟨?_,by simp;omega,by simp,⟨[l],rfl⟩,fun x hx=>by simpa using hx⟩
   rw [List.nodup_append];exact ⟨hn,by simp,fun a ha b hb=>by simp at hb;subst hb;exact fun e=>hnot (e ▸ ha)⟩
theorem numbersF_some:∀ (L:List (Sy × List It)) (all all':List (List It)) (e:List (Sy × Nat)),numbersF all L=some (e,all')->all.Nodup->all.length<=16384 ->
  all'.Nodup /\ all'.length<=16384 /\ (∀ q∈L,q.2∈all') /\ (∃ t,all'=all++t) /\ (∀ x∈all',x∈all∨∃ q∈L,x=q.2)
 | [],all,all',e,h,hn,hl=>by
  simp [numbersF] at h;obtain ⟨_,rfl⟩:=h;exact ⟨hn,hl,(fun q hq=>by cases hq),⟨[],by simp⟩,fun x hx=>.inl hx⟩
 | (s,l)::L,all,all',e,h,hn,hl=>by
  rw [numbersF] at h
  cases h1:numberF all l with
  | none=>rw [h1] at h;cases h
  | some r =>
   obtain ⟨k,a1⟩:=r;rw [h1] at h;dsimp only at h
   cases h2:numbersF a1 L with
   | none=>rw [h2] at h;cases h
   | some r =>
    obtain ⟨e2,a2⟩:=r;rw [h2] at h;simp at h;obtain ⟨_,rfl⟩:=h;obtain ⟨n1,l1,m1,⟨t1,p1⟩,s1⟩:=numberF_some h1 hn hl;obtain ⟨n2,l2,m2,⟨t2,p2⟩,s2⟩:=numbersF_some L a1 a2 e2 h2 n1 l1;refine ⟨n2,l2,?_,⟨t1++t2,by rw [p2,p1,List.append_assoc]⟩,?_⟩
    ·intro q hq
     rcases List.mem_cons.1 hq with rfl | hq
     ·rw [p2];exact List.mem_append_left _ m1
     ·exact m2 q hq
    ·intro x hx
     rcases s2 x hx with h | ⟨q,hq,rfl⟩
     ·rcases s1 x h with h | rfl
      ·exact .inl h
      ·exact .inr ⟨(s,x),by simp,rfl⟩
     ·exact .inr ⟨q,by simp [hq],rfl⟩
end Go.Proofs.YthiochcpmfkgcaaGreatDoor.Tb
namespace Go.Proofs.YthiochcpmfkgcaaGreatDoor.Tb
def fresh (g:Gr) (seen:List Int):Nat:=g.prods.countP (fun p=>decide (p.left ∉ seen))
theorem range_filter_len {α:Type} (f:α->Bool):∀ l:List α,((List.range l.length).filter (fun i=>match l[i]? with | some p=>f p | none=>false)).length=l.countP f
 | []=>rfl
 | x::l=>by
  rw [List.length_cons,List.range_succ_eq_map,List.filter_cons,List.filter_map,List.countP_cons,<- range_filter_len f l];have e:((fun i=>match (x::l)[i]? with | some p=>f p | none=>false) ∘ Nat.succ)=(fun i=>match l[i]? with | some p=>f p | none=>false):=by
   funext i;simp
  rw [e]
  cases hx:f x <;> simp [hx]
theorem ofS_len (g:Gr) (s:Int):(ofS g s).length=g.prods.countP (fun p=>p.left==s&&p.role != 11):=by
 rw [<- range_filter_len];unfold ofS
 congr 1
 apply List.filter_congr
 intro i _
 cases g.prods[i]? <;> rfl
theorem countP_split {α:Type} (f a b:α->Bool) (hd:∀ x,a x=true->f x=true) (hb:∀ x,b x=true->f x=true) (hn:∀ x,¬ (a x=true /\ b x=true)):∀ l:List α,l.countP a+l.countP b<=l.countP f
 | []=>by simp
 | x::l=>by
  have:=countP_split f a b hd hb hn l;have h1:=hd x;have h2:=hb x;have h3:=hn x;rw [List.countP_cons,List.countP_cons,List.countP_cons]
  cases ha:a x <;> cases hbx:b x <;> simp_all <;> omega
theorem fresh_step (g:Gr) (s:Int) (seen:List Int) (hs:s ∉ seen):(ofS g s).length+fresh g (s::seen)<=fresh g seen:=by
 rw [ofS_len];refine countP_split _ _ _ (fun p hp=>?_) (fun p hp=>?_) (fun p hp=>?_) g.prods
 ·simp at hp ⊢;rw [hp.1];exact hs
 ·simp at hp ⊢;exact hp.2
 ·simp at hp;exact absurd hp.1.1 hp.2.1
theorem fresh_le (g:Gr) (seen:List Int):fresh g seen<=g.prods.length:=List.countP_le_length
theorem ofS_mem {g:Gr} {s:Int} {n:Nat} (h:n∈ofS g s):∃ p,g.prods[n]?=some p /\ p.left=s /\ p.role≠11:=by
 unfold ofS at h;rw [List.mem_filter] at h
 cases hp:g.prods[n]? with
 | none=>rw [hp] at h;simp at h
 | some p=>rw [hp] at h;simp at h;exact ⟨p,rfl,h.2⟩
theorem itemOk_iff (g:Gr) (x:It):itemOk g x=true↔x.1<g.prods.length /\ x.2<=(rightOf g x.1).length:=by simp [itemOk]
theorem itemOk_new {g:Gr} {s:Int} {n:Nat} (h:n∈ofS g s):itemOk g (n,0)=true:=by
 obtain ⟨p,hp,_⟩:=ofS_mem h;rw [itemOk_iff];exact ⟨(List.getElem?_eq_some_iff.1 hp).1,Nat.zero_le _⟩
def closeSeen (g:Gr) (seen:List Int) (x:It):List Int:=match aheadF g x with | some s=>if s.kind=1 /\ s.sort ∉ seen then s.sort::seen else seen | none=>seen
def closeOut (g:Gr) (seen:List Int) (out:List It) (x:It):List It:=match aheadF g x with | some s=>if s.kind=1 /\ s.sort ∉ seen then out++(ofS g s.sort).map (·,0) else out | none=>out
theorem closeGo_step (g:Gr) (f i:Nat) (seen:List Int) (out:List It) (x:It) (h:out[i]?=some x):closeGo g (f+1) i seen out=closeGo g f (i+1) (closeSeen g seen x) (closeOut g seen out x):=by
 rw [closeGo,h]
 show (match aheadF g x with | none=>closeGo g f (i+1) seen out | some s=>if s.kind=1 then if s.sort∈seen then closeGo g f (i+1) seen out else closeGo g f (i+1) (s.sort::seen) (out++(ofS g s.sort).map (·,0)) else closeGo g f (i+1) seen out)=_
 unfold closeSeen closeOut
 cases hx:aheadF g x with
 | none=>rfl
 | some s =>
  by_cases h1:s.kind=1
  ·by_cases h2:s.sort∈seen
   ·simp [h1,h2]
   ·simp [h1,h2]
  ·simp [h1]
structure CloseAt (g:Gr) (l:List It) (i:Nat) (seen:List Int) (out:List It):Prop where
 go:closedF g l=compactIt (sortIt (closeGo g (l.length+g.prods.length+1 - i) i seen out))
 fits:out.length+fresh g seen<=l.length+g.prods.length
 le:i<=out.length
 ok:∀ x∈out,itemOk g x=true
theorem CloseAt.start {g:Gr} {l:List It} (h:∀ x∈l,itemOk g x=true):CloseAt g l 0 [] l :=
 ⟨rfl,by have:=fresh_le g [];omega,Nat.zero_le _,h⟩
theorem CloseAt.step {g:Gr} {l:List It} {i:Nat} {seen:List Int} {out:List It} (h:CloseAt g l i seen out) {x:It} (hx:out[i]?=some x):CloseAt g l (i+1) (closeSeen g seen x) (closeOut g seen out x):=by
 have hi:=(List.getElem?_eq_some_iff.1 hx).1;have hf:=h.fits;refine ⟨?_,?_,?_,?_⟩
 ·rw [h.go,show l.length+g.prods.length+1 - i=(l.length+g.prods.length+1 - (i+1))+1 by omega,closeGo_step _ _ _ _ _ _ hx]
 ·unfold closeSeen closeOut
  cases hs:aheadF g x with
  | none=>exact hf
  | some s =>
   by_cases h1:s.kind=1 /\ s.sort ∉ seen
   ·simp only [h1,not_false_eq_true,and_self,if_true,List.length_append,List.length_map]
    have:=fresh_step g s.sort seen h1.2;omega
   ·simp only [h1,if_false];exact hf
 ·unfold closeOut
  cases hs:aheadF g x with
  | none=>exact hi
  | some s =>
   by_cases h1:s.kind=1 /\ s.sort ∉ seen
   ·simp only [h1,not_false_eq_true,and_self,if_true,List.length_append];omega
   ·simp only [h1,if_false];exact hi
 ·unfold closeOut
  cases hs:aheadF g x with
  | none=>exact h.ok
  | some s =>
   by_cases h1:s.kind=1 /\ s.sort ∉ seen
   ·simp only [h1,not_false_eq_true,and_self,if_true]
    intro y hy
    rcases List.mem_append.1 hy with hy | hy
    ·exact h.ok y hy
    ·obtain ⟨n,hn,rfl⟩:=List.mem_map.1 hy
     exact itemOk_new hn
   ·simp only [h1,if_false];exact h.ok
theorem CloseAt.done {g:Gr} {l:List It} {i:Nat} {seen:List Int} {out:List It} (h:CloseAt g l i seen out) (he:i=out.length):closedF g l=compactIt (sortIt out):=by
 rw [h.go,closeGo_end _ _ _ _ _ (by omega)]

theorem CloseAt.last {g:Gr} {l:List It}:∀ (m i:Nat) (seen:List Int) (out:List It),CloseAt g l i seen out->l.length+g.prods.length - i<=m->∃ seen' out',CloseAt g l out'.length seen' out'
 | m,i,seen,out,h,hm=>by
  have hf:=h.fits;have hle:=h.le
  rcases Nat.lt_or_ge i out.length with hi | hi
  ·have hx:out[i]?=some out[i]:=List.getElem?_eq_getElem hi
   have h2:=h.step hx
   match m,hm with
   | 0,hm=>omega
   | m+1,hm=>exact CloseAt.last m (i+1) _ _ h2 (by omega)
  ·obtain rfl:i=out.length:=by omega
   exact ⟨seen,out,h⟩
/-! 'compact'. -/
theorem compactIt_len:∀ l:List It,(compactIt l).length<=l.length
  | []=>Nat.le_refl _
  | [x]=>Nat.le_refl _
  | x::y::t=>by
    rw [compactIt_cons]
    split
    · have:=compactIt_len (y::t);simp at this ⊢;omega
    · have:=compactIt_len (y::t);simp at this ⊢;omega
theorem compactIt_mem:∀ (l:List It) (x:It),x∈compactIt l->x∈l
 | [],x,h=>h
 | [y],x,h=>h
 | y::z::t,x,h=>by
  rw [compactIt_cons] at h
  split at h
  ·exact List.mem_cons_of_mem _ (compactIt_mem (z::t) x h)
  ·rcases List.mem_cons.1 h with rfl | h
   ·simp
   ·exact List.mem_cons_of_mem _ (compactIt_mem (z::t) x h)
theorem compactIt_snoc:∀ (l:List It) (y x:It),compactIt (l++[y]++[x])=if y=x then compactIt (l++[y]) else compactIt (l++[y])++[x]
 | [],y,x=>by
  show compactIt (y::x::[])=_
  rw [compactIt_cons]
  by_cases h:y=x
  ·subst h;simp [compactIt]
  ·simp [h,compactIt]
 | [a],y,x=>by
  have ih:=compactIt_snoc [] y x
  show compactIt (a::y::[x])=_
  rw [compactIt_cons];have ih':compactIt (y::[x])=if y=x then compactIt [y] else compactIt [y]++[x]:=ih;rw [ih']
  show _=if y=x then compactIt (a::y::[]) else compactIt (a::y::[])++[x]
  rw [compactIt_cons]
  by_cases h:y=x <;> by_cases h2:a=y <;> simp [h,h2]
 | a::b::l,y,x=>by
  have ih:=compactIt_snoc (b::l) y x;simp only [List.cons_append] at ih ⊢;rw [compactIt_cons,compactIt_cons,ih]
  by_cases h:y=x <;> by_cases h2:a=b <;> simp [h,h2]
theorem take_two (l:List It) (i:Nat) (h:i+1<l.length):l.take (i+2)=l.take i++[l[i]]++[l[i+1]]:=by
 rw [show i+2=(i+1)+1 by omega,List.take_succ_eq_append_getElem (by omega),List.take_succ_eq_append_getElem (by omega)]
theorem compactIt_take (l:List It) (i:Nat) (h:i+1<l.length):compactIt (l.take (i+2))=if l[i]=l[i+1] then compactIt (l.take (i+1)) else compactIt (l.take (i+1))++[l[i+1]]:=by
 rw [take_two l i h,compactIt_snoc,List.take_succ_eq_append_getElem (by omega)]
theorem closedF_fits {g:Gr} {l:List It} (h:∀ x∈l,itemOk g x=true):(closedF g l).length<=l.length+g.prods.length /\ ∀ x∈closedF g l,itemOk g x=true:=by
 obtain ⟨seen,out,hC⟩:=CloseAt.last _ _ _ _ (CloseAt.start h) (Nat.le_refl _);rw [hC.done rfl];have hf:=hC.fits;have h1:=compactIt_len (sortIt out);have h2:=(sortIt_perm out).length_eq;refine ⟨by omega,fun x hx=>hC.ok x ?_⟩
 exact (sortIt_perm out).subset (compactIt_mem _ _ hx)
end Go.Proofs.YthiochcpmfkgcaaGreatDoor.Tb
namespace Go.Proofs.YthiochcpmfkgcaaGreatDoor.Gl
open Tb
def tailK (t:Nat):List Nat->List UInt8
 | []=>47::Lib.decDigits t
 | c::l=>32::(Lib.decDigits c++tailK t l)
def keyA (a:Al):List UInt8:=Lib.decDigits a.prod++32::(Lib.decDigits a.src++tailK a.til a.cuts)
theorem tail_head (t:Nat) (l:List Nat):∃ c T,tailK t l=c::T /\ dgt c=false:=by
 cases l with
 | nil=>exact ⟨47,_,rfl,by decide⟩
 | cons c l=>exact ⟨32,_,rfl,by decide⟩
theorem part_two {D E X Y:List UInt8} (hD:D.all dgt=true) (hE:E.all dgt=true) (hX:∃ c T,X=c::T /\ dgt c=false) (hY:∃ c T,Y=c::T /\ dgt c=false) (h:D++X=E++Y):D=E /\ X=Y:=by
 obtain ⟨c,T,rfl,hc⟩:=hX;obtain ⟨d,U,rfl,hd⟩:=hY;have h1:D=E:=by
  have:=congrArg (List.takeWhile dgt) h
  rwa [take_dgt D c T hD hc,take_dgt E d U hE hd] at this
 subst h1;exact ⟨rfl,List.append_cancel_left h⟩
theorem tail_inj {t t':Nat}:∀ {l k:List Nat},tailK t l=tailK t' k->l=k /\ t=t'
 | [],[],h=>by
  injection h with _ h;exact ⟨rfl,dec_inj h⟩
 | [],_::_,h=>by injection h with h _;exact absurd h (by decide)
 | _::_,[],h=>by injection h with h _;exact absurd h (by decide)
 | c::l,d::k,h=>by
  injection h with _ h;obtain ⟨h1,h2⟩:=part_two (dec_told c).1 (dec_told d).1 (tail_head _ _) (tail_head _ _) h;obtain ⟨h3,h4⟩:=tail_inj h2;exact ⟨by rw [dec_inj h1,h3],h4⟩
theorem keyA_inj {a b:Al} (h:keyA a=keyA b):a=b:=by
 unfold keyA at h;obtain ⟨h1,h2⟩:=part_dgt (dec_told a.prod).1 (dec_told b.prod).1 (by decide) h
 obtain ⟨h3,h4⟩:=part_two (dec_told a.src).1 (dec_told b.src).1 (tail_head _ _) (tail_head _ _) h2;obtain ⟨h5,h6⟩:=tail_inj h4;obtain ⟨p,s,t,c⟩:=a;obtain ⟨p',s',t',c'⟩:=b;simp only at h1 h3 h5 h6;rw [dec_inj h1,dec_inj h3,h5,h6]
def headK (a:Al) (n:Nat):List UInt8:=Lib.decDigits a.prod++32::(Lib.decDigits a.src++(a.cuts.take n).flatMap fun c=>32::Lib.decDigits c)
theorem tailK_eq (t:Nat):∀ l:List Nat,tailK t l=(l.flatMap fun c=>32::Lib.decDigits c)++47::Lib.decDigits t
 | []=>rfl
 | c::l=>by rw [tailK,tailK_eq t l,List.flatMap_cons];simp
theorem headK_all (a:Al):headK a a.cuts.length++47::Lib.decDigits a.til=keyA a:=by
 unfold headK keyA;rw [List.take_length,tailK_eq];simp
theorem headK_succ (a:Al) (n:Nat) (c:Nat) (h:a.cuts[n]?=some c):headK a (n+1)=headK a n++32::Lib.decDigits c:=by
 unfold headK;rw [List.take_add_one,h];simp
theorem headK_zero (a:Al):headK a 0=Lib.decDigits a.prod++32::Lib.decDigits a.src:=by simp [headK]
end Go.Proofs.YthiochcpmfkgcaaGreatDoor.Gl
namespace Go.Proofs.YthiochcpmfkgcaaGreatDoor.Mx
structure Held (p:Prop):Prop where
 out:p
theorem via {G:Prop} (P:Prop) (f:Held P->G) (h:P):G:=f ⟨h⟩
end Go.Proofs.YthiochcpmfkgcaaGreatDoor.Mx
namespace Go.Proofs.YthiochcpmfkgcaaGreatDoor.Mx
open Go.RowKit

def Blk (w:World) (g:Nat) (t:TypeId) (cs:Array Value):Prop:=w.heap[g]?=some (.cells cs t (0,0))
section
variable {w w':World} {g:Nat} {t:TypeId} {cs:Array Value}
theorem Blk.lt (h:Blk w g t cs):g<w.heap.size:=by
 rcases Nat.lt_or_ge g w.heap.size with hlt | hge
 ·exact hlt
 ·unfold Blk at h;rw [Array.getElem?_eq_none hge] at h;cases h
theorem Blk.cell (h:Blk w g t cs) (i:Nat):w.cell? ⟨g,i,none⟩=cs[i]?:=cell_of_row w g i cs t (0,0) h
theorem Blk.frozen (h:Blk w g t cs) (i:Nat):w.frozen? ⟨g,i,none⟩=false:=by
 unfold Blk at h;simp [World.frozen?,h]
theorem Blk.new (w:World) (t:TypeId) (cs:Array Value):Blk (w.alloc (.cells cs t)) w.heap.size t cs:=heap_alloc_new w _
theorem Blk.new_ {w:World} {g:Nat} (h:w.heap.size=g) (t:TypeId) (cs:Array Value):Blk (w.alloc (.cells cs t)) g t cs:=h ▸ Blk.new w t cs
theorem Blk.drew (h:Blk w g t cs):Blk w.drew g t cs:=h
theorem Blk.drewN (h:Blk w g t cs) (n:Nat):Blk (w.drewN n) g t cs:=h
theorem Blk.alloc (h:Blk w g t cs) (o:Obj):Blk (w.alloc o) g t cs:=(Below.heap_alloc w o g h.lt).trans h
theorem Blk.set_ (h:Blk w g t cs) (i:Nat) (u:Value):Blk (w.setCell ⟨g,i,none⟩ u) g t (cs.setIfInBounds i u):=by
 unfold Blk at h ⊢;simp [World.setCell,Array.getElem?_modify,h]
theorem Blk.far (h:Blk w g t cs) {p:Addr} (hp:g≠p.block) (u:Value):Blk (w.setCell p u) g t cs:=(Below.heap_setCell w p u g hp).trans h
theorem Blk.below {B:Nat} (h:Blk w g t cs) (hb:Below B w w') (hg:g<B):Blk w' g t cs:=(hb.block g hg).trans h
theorem Blk.grown {row:Option Nat} (h:Blk w g t cs) (hb:w.grownBy w' row) (hg:some g≠row):Blk w' g t cs:=(hb.block g h.lt hg).trans h
end
theorem Blk.facts1 {w:World} {g:Nat} {t:TypeId} {v0:Value} (h:Blk w g t #[v0]):w.cell? ⟨g,0,none⟩=some v0 /\ (∀ i,w.frozen? ⟨g,i,none⟩=false) :=
 ⟨h.cell 0,h.frozen⟩
theorem Blk.facts2 {w:World} {g:Nat} {t:TypeId} {v0 v1:Value} (h:Blk w g t #[v0,v1]):w.cell? ⟨g,0,none⟩=some v0 /\ w.cell? ⟨g,1,none⟩=some v1 /\ (∀ i,w.frozen? ⟨g,i,none⟩=false) :=
 ⟨h.cell 0,h.cell 1,h.frozen⟩
theorem Blk.facts3 {w:World} {g:Nat} {t:TypeId} {v0 v1 v2:Value} (h:Blk w g t #[v0,v1,v2]):w.cell? ⟨g,0,none⟩=some v0 /\ w.cell? ⟨g,1,none⟩=some v1 /\ w.cell? ⟨g,2,none⟩=some v2 /\ (∀ i,w.frozen? ⟨g,i,none⟩=false) :=
 ⟨h.cell 0,h.cell 1,h.cell 2,h.frozen⟩
theorem Blk.facts4 {w:World} {g:Nat} {t:TypeId} {v0 v1 v2 v3:Value} (h:Blk w g t #[v0,v1,v2,v3]):w.cell? ⟨g,0,none⟩=some v0 /\ w.cell? ⟨g,1,none⟩=some v1 /\ w.cell? ⟨g,2,none⟩=some v2 /\ w.cell? ⟨g,3,none⟩=some v3 /\ (∀ i,w.frozen? ⟨g,i,none⟩=false) :=
 ⟨h.cell 0,h.cell 1,h.cell 2,h.cell 3,h.frozen⟩
theorem cell_alloc_ {w:World} {a:Addr} {v:Value} (h:w.cell? a=some v) (o:Obj):(w.alloc o).cell? a=some v:=by
 rw [World.cell?_alloc_lt w o a (World.block_lt_of_cell? w a h)];exact h
theorem grown_trans {w w' w'':World} {g:Nat} (h:w.grownBy w' (some g)) (k:w'.grownBy w'' (some g)):w.grownBy w'' (some g) :=
 ⟨k.os.trans h.os,k.tape.trans h.tape,k.output.trans h.output,Nat.le_trans h.size k.size,fun i hi hne=>(k.block i (Nat.lt_of_lt_of_le hi h.size) hne).trans (h.block i hi hne)⟩
theorem grown_drewN {a w:World} {row:Option Nat} (h:a.grownBy w row) (n:Nat):a.grownBy (w.drewN n) row:=⟨h.os,h.tape,h.output,h.size,h.block⟩
theorem grown_set {a w:World} {g:Nat} (h:a.grownBy w (some g)) {p:Addr} (hp:p.block=g) (u:Value):a.grownBy (w.setCell p u) (some g) :=
 ⟨h.os,h.tape,h.output,by simpa [World.setCell] using h.size,fun i hi hne=>(Below.heap_setCell w p u i (by rintro rfl;exact hne (by rw [hp]))).trans (h.block i hi hne)⟩
theorem grown_alloc {a w:World} {row:Option Nat} (h:a.grownBy w row) (o:Obj):a.grownBy (w.alloc o) row :=
 ⟨h.os,h.tape,h.output,Nat.le_trans h.size (by simp),fun i hi hne=>(Below.heap_alloc w o i (Nat.lt_of_lt_of_le hi h.size)).trans (h.block i hi hne)⟩
theorem grown_below {a w w':World} {row:Option Nat} (h:a.grownBy w row) (hb:Below w.heap.size w w'):a.grownBy w' row :=
 ⟨hb.os.trans h.os,hb.tape.trans h.tape,hb.output.trans h.output,Nat.le_trans h.size hb.size,fun i hi hne=>(hb.block i (Nat.lt_of_lt_of_le hi h.size)).trans (h.block i hi hne)⟩
theorem grown_refl (w:World) (row:Option Nat):w.grownBy w row:=⟨rfl,rfl,rfl,Nat.le_refl _,fun _ _ _=>rfl⟩
theorem below_of_grown {B g:Nat} {w w':World} (h:w.grownBy w' (some g)) (hB:B<=w.heap.size) (hg:B<=g):Below B w w' :=
 ⟨h.os,h.tape,h.output,h.size,fun k hk=>h.block k (by omega) (by intro e;injection e with e;omega)⟩
theorem below_drewN {B:Nat} {a w:World} (h:Below B a w) (n:Nat):Below B a (w.drewN n):=⟨h.os,h.tape,h.output,h.size,h.block⟩
end Go.Proofs.YthiochcpmfkgcaaGreatDoor.Mx
namespace Go.Proofs.YthiochcpmfkgcaaGreatDoor.Mx
open Go.RowKit Go.Lib

end Go.Proofs.YthiochcpmfkgcaaGreatDoor.Mx
namespace Go.Proofs.YthiochcpmfkgcaaGreatDoor.Mx
open Go Go.RowKit

section
variable {α:Type}
structure RowAt (enc:α->List Value) (k:Nat) (w:World) (g o:Nat) (l:List α):Prop where
 lt:g<w.heap.size
 cells:∀ i x,l[i]?=some x->∀ j v,(enc x)[j]?=some v->w.cell? ⟨g,o+i * k+j,none⟩=some v
def OptK (D:Nat->Prop) (enc:α->List Value) (k:Nat) (w:World) (a:Option Addr) (l:List α):Prop :=
 l≠[]->∃ g o,a=some ⟨g,o,none⟩ /\ D g /\ RowAt enc k w g o l
def SliceK (D:Nat->Prop) (enc:α->List Value) (k:Nat) (w:World) (v:Value) (l:List α):Prop :=
 ∃ a cap,v=.slice a l.length cap /\ l.length<=cap /\ cap<=maxLen /\ OptK D enc k w a l
variable {D D':Nat → Prop} {enc:α → List Value} {k:Nat} {w w':World} {v:Value} {l:List α} {a:Option Addr}
theorem cell_same {g i:Nat} (e:w'.heap[g]?=w.heap[g]?):w'.cell? ⟨g,i,none⟩=w.cell? ⟨g,i,none⟩:=World.cell?_of_block e
theorem lt_same {g:Nat} (e:w'.heap[g]?=w.heap[g]?) (h:g<w.heap.size):g<w'.heap.size:=by
 rcases Nat.lt_or_ge g w'.heap.size with h1 | h1
 ·exact h1
 ·rw [Array.getElem?_eq_none h1,Array.getElem?_eq_getElem h] at e;cases e
theorem RowAt.same {g o:Nat} (h:RowAt enc k w g o l) (e:w'.heap[g]?=w.heap[g]?):RowAt enc k w' g o l :=
 ⟨lt_same e h.lt,fun i x hx j u hu=>(cell_same e).trans (h.cells i x hx j u hu)⟩
theorem OptK.keep (h:OptK D enc k w a l) (hD:∀ g,D g->g<w.heap.size->D' g /\ w'.heap[g]?=w.heap[g]?):OptK D' enc k w' a l:=fun hl=>by
 obtain ⟨g,o,e,hg,hr⟩:=h hl;exact ⟨g,o,e,(hD g hg hr.lt).1,hr.same (hD g hg hr.lt).2⟩
theorem SliceK.keep (h:SliceK D enc k w v l) (hD:∀ g,D g->g<w.heap.size->D' g /\ w'.heap[g]?=w.heap[g]?):SliceK D' enc k w' v l:=by
 obtain ⟨a,cap,e,h1,h2,h3⟩:=h;exact ⟨a,cap,e,h1,h2,h3.keep hD⟩
theorem SliceK.imp (h:SliceK D enc k w v l) (hD:∀ g,D g->g<w.heap.size->D' g):SliceK D' enc k w v l:=h.keep fun g hg hl=>⟨hD g hg hl,rfl⟩
theorem SliceK.all (h:SliceK D enc k w v l) (hb:Below w.heap.size w w'):SliceK D enc k w' v l:=h.keep fun g hg hl=>⟨hg,hb.block g hl⟩
theorem OptK.at_ (h:OptK D enc k w a l) {i:Nat} (hi:i<l.length):∃ g o,a=some ⟨g,o,none⟩ /\ D g /\ g<w.heap.size /\ ∀ j u,(enc l[i])[j]?=some u->w.cell? ⟨g,o+i * k+j,none⟩=some u:=by
 obtain ⟨g,o,e,hg,hr⟩:=h (by rintro rfl;exact absurd hi (by simp))
 exact ⟨g,o,e,hg,hr.lt,hr.cells i _ (List.getElem?_eq_getElem hi)⟩
theorem SliceK.nil:SliceK D enc k w (.slice none 0 0) ([]:List α):=⟨none,0,rfl,Nat.le_refl _,Nat.zero_le _,fun h=>absurd rfl h⟩

def flatK (enc:α->List Value) (l:List α):List Value:=l.flatMap enc
theorem flatK_cons (x:α) (l:List α):flatK enc (x::l)=enc x++flatK enc l:=by simp [flatK]
theorem flatK_append (l m:List α):flatK enc (l++m)=flatK enc l++flatK enc m:=by simp [flatK]
theorem flatK_snoc (l:List α) (x:α):flatK enc l++enc x=flatK enc (l++[x]):=by simp [flatK]
theorem flatK_len (hk:∀ x,(enc x).length=k):∀ l:List α,(flatK enc l).length=l.length * k
 | []=>by simp [flatK]
 | x::l=>by rw [flatK_cons,List.length_append,hk,flatK_len hk l,List.length_cons,Nat.succ_mul,Nat.add_comm]
theorem flatK_get (hk:∀ x,(enc x).length=k):∀ (l:List α) (i:Nat) (x:α) (j:Nat) (v:Value),l[i]?=some x->(enc x)[j]?=some v->(flatK enc l)[i * k+j]?=some v
 | [],i,x,j,v,h,_=>by simp at h
 | y::l,0,x,j,v,h,hv=>by
  have:y=x:=by simpa using h
  subst this;rw [flatK_cons,Nat.zero_mul,Nat.zero_add,List.getElem?_append_left (List.getElem?_eq_some_iff.1 hv).1];exact hv
 | y::l,i+1,x,j,v,h,hv=>by
  rw [flatK_cons,List.getElem?_append_right (by rw [hk,Nat.succ_mul];omega),hk,show (i+1) * k+j - k=i * k+j by rw [Nat.succ_mul];omega]
  exact flatK_get hk l i x j v (by simpa using h) hv
theorem own_sliceK {B:Nat} {t:TypeId} (hk:∀ x,(enc x).length=k) (h:w.ownsRow B t k v l.length (flatK enc l)):SliceK (fun g=>B<=g) enc k w v l:=by
 have hc:=fun g hg=>h.cells (g:=g) hg
 have hlt:=h.lt
 rcases h.2 with ⟨rfl,h1⟩ | ⟨g,cap,cur,rfl,hg,hh,hn,hm,_⟩
 ·have:l=[]:=List.eq_nil_of_length_eq_zero h1
  subst this;exact SliceK.nil
 ·refine ⟨some ⟨g,0,none⟩,cap,rfl,hn,hm,fun hl=>⟨g,0,rfl,hg,(hlt g rfl).2,fun i x hx j u hu=>?_⟩⟩
  have:=hc g rfl (i * k+j) u (flatK_get hk l i x j u hx hu);rw [show (⟨g,0,none⟩:Addr).add (i * k+j)=⟨g,i * k+j,none⟩ by unfold Addr.add;split <;> simp_all] at this
  rw [Nat.zero_add];exact this
def TyD (B:Nat) (t:TypeId) (w:World) (g:Nat):Prop:=B<=g /\ ∃ c fz,w.heap[g]?=some (.cells c t fz)
theorem TyD.low {B B':Nat} {t:TypeId} {g:Nat} (h:TyD B t w g) (hB:B'<=B):TyD B' t w g:=⟨Nat.le_trans hB h.1,h.2⟩
theorem TyD.same {B:Nat} {t:TypeId} {g:Nat} (h:TyD B t w g) (e:w'.heap[g]?=w.heap[g]?):TyD B t w' g:=⟨h.1,by rw [e];exact h.2⟩
theorem own_sliceT {B:Nat} {t:TypeId} (hk:∀ x,(enc x).length=k) (h:w.ownsRow B t k v l.length (flatK enc l)):SliceK (TyD B t w) enc k w v l:=by
 obtain ⟨a,cap,e,h1,h2,h3⟩:=own_sliceK hk h;refine ⟨a,cap,e,h1,h2,fun hl=>?_⟩
 obtain ⟨g,o,ea,hg,hr⟩:=h3 hl;refine ⟨g,o,ea,⟨hg,?_⟩,hr⟩
 rcases h.2 with ⟨h4,h5⟩ | ⟨g',cap',cur,e',_,hh,_⟩
 ·exact absurd (List.eq_nil_of_length_eq_zero h5) hl
 ·rw [e] at e'
  injection e' with e1;rw [ea] at e1;injection e1 with e1;injection e1 with e1;subst e1;exact ⟨cur,_,hh⟩
theorem SliceK.ty {B:Nat} {t:TypeId} (h:SliceK (TyD B t w) enc k w v l) (hb:∀ g c fz,w.heap[g]?=some (.cells c t fz)->B<=g->w'.heap[g]?=w.heap[g]?):SliceK (TyD B t w') enc k w' v l :=
 h.keep fun g hg _=>by
  obtain ⟨hB,c,fz,e⟩:=hg;exact ⟨⟨hB,by rw [hb g c fz e hB];exact ⟨c,fz,e⟩⟩,hb g c fz e hB⟩
theorem SliceK.tyBelow {B:Nat} {t:TypeId} (h:SliceK (TyD B t w) enc k w v l) (hb:Below w.heap.size w w'):SliceK (TyD B t w') enc k w' v l :=
 h.keep fun g hg hl=>⟨hg.same (hb.block g hl),hb.block g hl⟩
theorem SliceK.tyLow {B B':Nat} {t:TypeId} (h:SliceK (TyD B t w) enc k w v l) (hB:B'<=B):SliceK (TyD B' t w) enc k w v l:=h.imp fun g hg _=>hg.low hB
end
end Go.Proofs.YthiochcpmfkgcaaGreatDoor.Mx
namespace Go.Proofs.YthiochcpmfkgcaaGreatDoor.Mx
open Go Go.RowKit

section
variable {w:World} {B:Nat} {e:TypeId} {size g n m cap:Nat} {xs:List Value}
theorem own_shape {w:World} {B:Nat} {e:TypeId} {size:Nat} {v:Value} {n:Nat} {xs:List Value} (h:w.ownsRow B e size v n xs):∃ a c,v=.slice a n c:=by
 rcases h.2 with ⟨rfl,rfl⟩ | ⟨g,cap,cur,rfl,_⟩
 ·exact ⟨_,_,rfl⟩
 ·exact ⟨_,_,rfl⟩
theorem own_low {w:World} {B B':Nat} {e:TypeId} {size:Nat} {v:Value} {n:Nat} {xs:List Value} (h:w.ownsRow B e size v n xs) (hB:B'<=B):w.ownsRow B' e size v n xs:=by
 refine ⟨h.1,?_⟩
 rcases h.2 with h | ⟨g,cap,cur,hv,hg,hh,r⟩
 ·exact .inl h
 ·exact .inr ⟨g,cap,cur,hv,by omega,hh,r⟩
theorem own_some {w:World} {B:Nat} {e:TypeId} {size:Nat} {v:Value} {n:Nat} {xs:List Value} (h:w.ownsRow B e size v n xs) (hn:0<n):∃ g cap,v=.slice (some ⟨g,0,none⟩) n cap /\ B<=g /\ n<=cap /\ cap<=maxLen:=by
 rcases h.2 with ⟨_,h2⟩ | ⟨g,cap,cur,rfl,hg,_,h3,h4,_⟩
 ·omega
 ·exact ⟨g,cap,rfl,hg,h3,h4⟩
theorem row_below {w w':World} {B:Nat} {e:TypeId} {z:Nat} {v:Value} {n:Nat} {xs:List Value} (h:w.ownsRow B e z v n xs) (hb:Below w.heap.size w w'):w'.ownsRow B e z v n xs :=
 h.kept (row:=none) ⟨hb.os,hb.tape,hb.output,hb.size,fun k hk _=>hb.block k hk⟩ (by cases hv:v.ownBlock <;> simp)
theorem own_put (h:w.ownsRow B e size (.slice (some ⟨g,0,none⟩) n cap) n xs) (i:Nat) (hi:i<n * size) (u:Value) :
  (w.setCell ⟨g,i,none⟩ u).ownsRow B e size (.slice (some ⟨g,0,none⟩) n cap) n (xs.set i u):=by
 obtain ⟨h1,h2⟩:=h;refine ⟨by simpa using h1,?_⟩
 rcases h2 with ⟨h,_⟩ | ⟨g',cap',cur,hv,hB,hh,hn,hm,hs,ht⟩
 ·cases h
 ·injection hv with e1 e2 e3
  injection e1 with e1;injection e1 with e1;subst e1;subst e3;refine .inr ⟨g,cap,cur.setIfInBounds i u,rfl,hB,?_,hn,hm,by simpa using hs,?_⟩
  ·simp [World.setCell,Array.getElem?_modify,hh]
  ·rw [Array.toList_setIfInBounds,List.take_set,ht]
theorem own_cut (h:w.ownsRow B e size (.slice (some ⟨g,0,none⟩) n cap) n xs) (hmn:m<=n) :
  w.ownsRow B e size (.slice (some ⟨g,0,none⟩) m cap) m (xs.take (m * size)):=by
 obtain ⟨h1,h2⟩:=h;have hle:m * size<=n * size:=Nat.mul_le_mul_right _ hmn;refine ⟨by rw [List.length_take];omega,?_⟩
 rcases h2 with ⟨h,_⟩ | ⟨g',cap',cur,hv,hB,hh,hn,hm,hs,ht⟩
 ·cases h
 ·injection hv with e1 e2 e3
  injection e1 with e1;injection e1 with e1;subst e1;subst e3;refine .inr ⟨g,cap,cur,rfl,hB,hh,by omega,hm,hs,?_⟩
  rw [<- ht,List.take_take,Nat.min_eq_left hle]
theorem own_far (h:w.ownsRow B e size (.slice (some ⟨g,0,none⟩) n cap) n xs) (i:Nat) (hi:n * size<=i) (u:Value) :
  (w.setCell ⟨g,i,none⟩ u).ownsRow B e size (.slice (some ⟨g,0,none⟩) n cap) n xs:=by
 obtain ⟨h1,h2⟩:=h;refine ⟨h1,?_⟩
 rcases h2 with ⟨h,_⟩ | ⟨g',cap',cur,hv,hB,hh,hn,hm,hs,ht⟩
 ·cases h
 ·injection hv with e1 e2 e3
  injection e1 with e1;injection e1 with e1;subst e1;subst e3;refine .inr ⟨g,cap,cur.setIfInBounds i u,rfl,hB,?_,hn,hm,by simpa using hs,?_⟩
  ·simp [World.setCell,Array.getElem?_modify,hh]
  ·rw [Array.toList_setIfInBounds,List.take_set_of_le hi,ht]
end
theorem own_fresh (w:World) {B:Nat} (t:TypeId) (k n:Nat) (cs:Array Value) (hB:B<=w.heap.size) (hs:cs.size=n * k) (hn:n<=maxLen):(w.alloc (.cells cs t)).ownsRow B t k (.slice (some ⟨w.heap.size,0,none⟩) n n) n cs.toList:=by
 refine ⟨by simpa using hs,.inr ⟨w.heap.size,n,cs,rfl,hB,heap_alloc_new w _,Nat.le_refl _,hn,hs,?_⟩⟩
 rw [List.take_of_length_le (by simp;omega)]
theorem addr_add_ (g o j:Nat):(⟨g,o,none⟩:Addr).add j=⟨g,o+j,none⟩:=by
 unfold Addr.add
 by_cases h:j=0 <;> simp [h]
theorem own_fars {B:Nat} {e:TypeId} {size g n cap:Nat} {xs:List Value}:∀ (vs:List Value) (o:Nat) (w:World),n * size<=o->w.ownsRow B e size (.slice (some ⟨g,0,none⟩) n cap) n xs ->
  (w.setCells g o vs).ownsRow B e size (.slice (some ⟨g,0,none⟩) n cap) n xs
 | [],_,_,_,h=>h
 | v::vs,o,w,ho,h=>own_fars vs (o+1) _ (by omega) (own_far h o ho v)
theorem grown_sets {a:World} {g:Nat}:∀ (vs:List Value) (o:Nat) (w:World),a.grownBy w (some g)->a.grownBy (w.setCells g o vs) (some g)
 | [],_,_,h=>h
 | v::vs,o,w,h=>grown_sets vs (o+1) _ (grown_set (p:=⟨g,o,none⟩) h rfl v)
theorem run_clear_cells {P:Program} (w:World) (t e ty:TypeId) (z:Value) (ht:P.underlying t=some (.slice e)) (hv:∀ w,(zeroValue e).run P w=.ok z w) (vs:List Value) (b o n c:Nat) (hn:0<n)
  (hz:(Builtin.zeroCells z.cells n).toList=vs) (h1:∀ u∈vs,u.oneCell'=true)
  (hc:∀ j,j<vs.length->(w.cell? ⟨b,o+j,none⟩).isSome=true) (hf:∀ j,j<vs.length->w.frozen? ⟨b,o+j,none⟩=false) :
  (Builtin.clear_ #[t] ty #[.slice (some ⟨b,o,none⟩) n c]).run P w=.ok (.tuple #[]) (w.setCells b o vs):=by
 have hst:=run_storeCells_cells (P:=P) b o vs 0 w (by simpa using hc) (by simpa using hf) h1
 simp only [Nat.add_zero] at hst;obtain ⟨m,rfl⟩:∃ m,n=m+1:=⟨n - 1,by omega⟩
 simp [Builtin.clear_,run_underlying ht,hv,hz,hst]
theorem zero_cells_len (c:Array Value) (n:Nat):(Builtin.zeroCells c n).toList.length=n * c.size:=by simp [Builtin.zeroCells]
theorem flatK_take {α:Type} {enc:α->List Value} {k:Nat} (hk:∀ x,(enc x).length=k):∀ (l:List α) (m:Nat),(flatK enc l).take (m * k)=flatK enc (l.take m)
 | [],m=>by simp [flatK]
 | x::l,0=>by simp [flatK]
 | x::l,m+1=>by
  rw [flatK_cons,List.take_succ_cons,flatK_cons,<- flatK_take hk l m,Nat.succ_mul,Nat.add_comm (m * k) k,List.take_append,hk,Nat.add_sub_cancel_left,List.take_of_length_le (by rw [hk];omega)]
end Go.Proofs.YthiochcpmfkgcaaGreatDoor.Mx
namespace Go.Proofs.YthiochcpmfkgcaaGreatDoor.Mx
open Go Go.RowKit
section
variable {P:Program} (w:World)
theorem run_append_ownF (base:Nat) (t ty e:TypeId) (i:TypeInfo) (z:Value) (size bytes:Nat) (ht:P.underlying t=some (.slice e)) (hi:P.info? e=some i) (hz:i.zero=some z)
  (hsize:i.size=size) (hby:i.bytes=bytes) (hzs:z.cells.size=size) (hsz:0<size)
  (v:Value) (n:Nat) (xs:List Value) (hown:w.ownsRow base e size v n xs)
  (a:Addr) (m c:Nat) (news:List Value) (hl:news.length=m * size) (hnews:∀ j u,news[j]?=some u->w.cell? (a.add j)=some u) (h1:∀ u∈news,u.oneCell'=true)
  (h63:n+m<=maxLen) (hbytes:(n+m) * bytes<=140737488355328) (hbase:base<=w.heap.size) :
  ∃ v' w',(Builtin.append_ #[t,t] ty #[v,.slice (some a) m c]).run P w=.ok v' w' /\ w'.ownsRow base e size v' (n+m) (xs++news) /\ w.grownBy w' v.ownBlock /\
   ∀ b,v'.ownBlock=some b->v.ownBlock=some b∨w.heap.size<=b:=by
 obtain ⟨v',w',hr,h2,h3,h4⟩:=run_append_own (P:=P) w base t ty e i z size bytes ht hi hz hsize hby hzs hsz v n xs hown a m c news hl hnews h1 h63 hbytes hbase;refine ⟨v',w',hr,h2,h3,?_⟩
 rcases hown.2 with ⟨rfl,rfl⟩ | ⟨g,cap,cur,rfl,hbg,hg,hnc,hcm,hcs,htake⟩
 ·have hx:xs=[]:=List.eq_nil_of_length_eq_zero (by simpa using hown.1)
  subst hx;obtain ⟨v2,w2,hr2,k2,_,_⟩:=run_append_own (P:=P) w w.heap.size t ty e i z size bytes ht hi hz hsize hby hzs hsz (.slice none 0 0) 0 [] (World.ownsRow_nil w _ e size) a m c news hl hnews h1 h63 hbytes (Nat.le_refl _);rw [hr] at hr2;injection hr2 with e1 e2;subst e1;intro b hb;exact .inr (k2.lt b hb).1
 ·by_cases hroom:n+m<=cap
  ·have hfit:n * i.size+news.length<=cur.size:=by rw [hl,hcs,hsize,<- Nat.add_mul];exact Nat.mul_le_mul_right _ hroom
   have hr2:=run_append_room (P:=P) w t ty e i ht hi g n cap cur hg a m c news (by rw [hsize];exact hl) hnews h1 hroom hfit
   rw [hr] at hr2;injection hr2 with e1 e2;subst e1;intro b hb;exact .inl hb
  ·have holds:∀ j u,xs[j]?=some u->w.cell? ((⟨g,0,none⟩:Addr).add j)=some u:=hown.cells (g:=g) rfl
   have hsmall:n+m<=9223372036854775807:=by simp only [maxLen] at h63;omega
   have hr2:=run_append_grow (P:=P) w t ty e i z ht hi hz ⟨g,0,none⟩ n cap xs (by rw [hsize];exact hown.1) holds a m c news (by rw [hsize];exact hl) hnews (by omega) (by omega) (by rw [hby];exact growslice_fits (by omega) hbytes)
   rw [hr] at hr2;injection hr2 with e1 e2;subst e1;intro b hb;simp [Value.ownBlock] at hb;exact .inr (by omega)
theorem wpList_append_ownF {ops:Array Oper} {rest:List Oper} {o:Oper} {act:Act} {Q:Exit->Act->World->Prop} (hgd:o.guard=none) (s x:Operand) (t:TypeId)
  (ho:o.op=.call { callee:=.builtin .append,args:=#[s,x],argTypes:=#[t,t] })
  (base:Nat) (e:TypeId) (i:TypeInfo) (z:Value) (size bytes:Nat) (ht:P.underlying t=some (.slice e)) (hi:P.info? e=some i) (hz:i.zero=some z)
  (hsize:i.size=size) (hby:i.bytes=bytes) (hzs:z.cells.size=size) (hsz:0<size)
  (v:Value) (n:Nat) (xs:List Value) (hs:act.eval s=v) (hown:w.ownsRow base e size v n xs)
  (ad:Addr) (m c:Nat) (news:List Value) (hx:act.eval x=.slice (some ad) m c) (hl:news.length=m * size) (hnews:∀ j u,news[j]?=some u->w.cell? (ad.add j)=some u) (h1:∀ u∈news,u.oneCell'=true)
  (h63:n+m<=maxLen) (hbytes:(n+m) * bytes<=140737488355328) (hbase:base<=w.heap.size)
  (h:∀ v' w',w'.ownsRow base e size v' (n+m) (xs++news)->w.grownBy w' v.ownBlock->(∀ b,v'.ownBlock=some b->v.ownBlock=some b∨w.heap.size<=b)->wpList P ops Q rest (act.put o.dst v') w'):wpList P ops Q (o::rest) act w:=by
 refine wpList_plain hgd fun K hK=>?_
 obtain ⟨v',w',hr,h2,h3,h4⟩:=run_append_ownF (P:=P) w base t o.type e i z size bytes ht hi hz hsize hby hzs hsz v n xs hown ad m c news hl hnews h1 h63 hbytes hbase;unfold Oper.wp execOp;simp only [ho,resolve,invoke,builtin,Sem.run_bind,Sem.run_pure,Result.andThen_ok,List.map_toArray,List.map_cons,List.map_nil,hs,hx,hr];exact hK _ _ (h v' w' h2 h3 h4)
theorem wp_append_ownF {o:Oper} {act:Act} {K:Act->World->Prop} {Q:Exit->Act->World->Prop} (s x:Operand) (t:TypeId)
  (ho:o.op=.call { callee:=.builtin .append,args:=#[s,x],argTypes:=#[t,t] })
  (base:Nat) (e:TypeId) (i:TypeInfo) (z:Value) (size bytes:Nat) (ht:P.underlying t=some (.slice e)) (hi:P.info? e=some i) (hz:i.zero=some z)
  (hsize:i.size=size) (hby:i.bytes=bytes) (hzs:z.cells.size=size) (hsz:0<size)
  (v:Value) (n:Nat) (xs:List Value) (hs:act.eval s=v) (hown:w.ownsRow base e size v n xs)
  (ad:Addr) (m c:Nat) (news:List Value) (hx:act.eval x=.slice (some ad) m c) (hl:news.length=m * size) (hnews:∀ j u,news[j]?=some u->w.cell? (ad.add j)=some u) (h1:∀ u∈news,u.oneCell'=true)
  (h63:n+m<=maxLen) (hbytes:(n+m) * bytes<=140737488355328) (hbase:base<=w.heap.size)
  (h:∀ v' w',w'.ownsRow base e size v' (n+m) (xs++news)->w.grownBy w' v.ownBlock->(∀ b,v'.ownBlock=some b->v.ownBlock=some b∨w.heap.size<=b)->K (act.put o.dst v') w'):o.wp P act w K Q:=by
 obtain ⟨v',w',hr,h2,h3,h4⟩:=run_append_ownF (P:=P) w base t o.type e i z size bytes ht hi hz hsize hby hzs hsz v n xs hown ad m c news hl hnews h1 h63 hbytes hbase;unfold Oper.wp execOp;simp only [ho,resolve,invoke,builtin,Sem.run_bind,Sem.run_pure,Result.andThen_ok,List.map_toArray,List.map_cons,List.map_nil,hs,hx,hr];exact h v' w' h2 h3 h4
end
end Go.Proofs.YthiochcpmfkgcaaGreatDoor.Mx
namespace Go.Proofs.YthiochcpmfkgcaaGreatDoor.Mx
open Go Go.RowKit
section
variable {P:Program} {md:Region.Mode}
def concDsts (l:List Oper) (n:Nat):List Nat:=(l.take n).filterMap (·.dst)
def concB (md:Region.Mode) (l:List Oper) (n:Nat):Bool :=
 decide (n<=l.length)&&(l.take n).all (fun o=>o.guard.isNone&&o.dst.isSome)&&decide (concDsts l n).Nodup &&
 ((List.range n).all fun i=>((l[i]?).map fun o=>o.after.all fun e=>decide (e.on<i)).getD false) &&
 ((List.range l.length).all fun j=>decide (j<n) || ((List.range n).all fun i=>((l[j]?).map fun o=>o.after.any fun e=>Region.binds md e&&e.on==i).getD false))
structure ConcOk (md:Region.Mode) (l:List Oper) (n:Nat):Prop where
 le:n<=l.length
 guard:∀ (i:Nat) (o:Oper),i<n->l[i]?=some o->o.guard=none
 dst:∀ (i:Nat) (o:Oper),i<n->l[i]?=some o->∃ s,o.dst=some s
 apart:∀ (i j:Nat) (oi oj:Oper) (s:Nat),i<n->j<n->l[i]?=some oi->l[j]?=some oj->oi.dst=some s->oj.dst=some s->i=j
 back:∀ (i:Nat) (o:Oper),i<n->l[i]?=some o->∀ e∈o.after,e.on<i
 waits:∀ (j:Nat) (o:Oper),n<=j->l[j]?=some o->∀ i,i<n->∃ e∈o.after,Region.binds md e=true /\ e.on=i
theorem nodup_filterMap {l:List Oper}:∀ {i j:Nat} {oi oj:Oper} {s:Nat},(l.filterMap (·.dst)).Nodup->l[i]?=some oi->l[j]?=some oj->oi.dst=some s->oj.dst=some s->i=j:=by
 induction l with
 | nil=>intro i j oi oj s _ h;simp at h
 | cons o t ih =>
  intro i j oi oj s hn hi hj hsi hsj;have hmem:∀ (k:Nat) (ok:Oper),t[k]?=some ok->ok.dst=some s->s∈t.filterMap (·.dst):=fun k ok hk hs=>List.mem_filterMap.2 ⟨ok,List.mem_of_getElem? hk,hs⟩
  rw [List.filterMap_cons] at hn
  cases i with
  | zero =>
   cases j with
   | zero=>rfl
   | succ j =>
    simp at hi hj;subst hi;rw [hsi] at hn;exact absurd (hmem j oj hj hsj) (List.nodup_cons.1 hn).1
  | succ i =>
   cases j with
   | zero =>
    simp at hi hj;subst hj;rw [hsj] at hn;exact absurd (hmem i oi hi hsi) (List.nodup_cons.1 hn).1
   | succ j =>
    simp at hi hj;have hn2:(t.filterMap (·.dst)).Nodup:=by
     cases ho:o.dst with
     | none=>rw [ho] at hn;exact hn
     | some d=>rw [ho] at hn;exact (List.nodup_cons.1 hn).2
    rw [ih hn2 hi hj hsi hsj]
theorem concB_ok {l:List Oper} {n:Nat} (h:concB md l n=true):ConcOk md l n:=by
 unfold concB at h;simp only [Bool.and_eq_true,decide_eq_true_eq,List.all_eq_true,Bool.or_eq_true] at h;obtain ⟨⟨⟨⟨h1,h2⟩,h3⟩,h4⟩,h5⟩:=h;have tk:∀ (i:Nat) (o:Oper),i<n->l[i]?=some o->(l.take n)[i]?=some o:=fun i o hi ho=>by rw [List.getElem?_take_of_lt hi];exact ho
 refine ⟨h1,?_,?_,?_,?_,?_⟩
 ·intro i o hi ho
  have:=(h2 o (List.mem_of_getElem? (tk i o hi ho))).1
  simpa using this
 ·intro i o hi ho
  have:=(h2 o (List.mem_of_getElem? (tk i o hi ho))).2;exact Option.isSome_iff_exists.1 this
 ·intro i j oi oj s hi hj hoi hoj hsi hsj
  exact nodup_filterMap h3 (tk i oi hi hoi) (tk j oj hj hoj) hsi hsj
 ·intro i o hi ho e he
  have:=h4 i (List.mem_range.2 hi);rw [ho] at this;simp only [Option.map_some,Option.getD_some,Array.all_eq_true_iff_forall_mem,decide_eq_true_eq] at this;exact this e he
 ·intro j o hj ho i hi
  have hjl:=(List.getElem?_eq_some_iff.1 ho).1;have:=(h5 j (List.mem_range.2 hjl)).resolve_left (by omega) i (List.mem_range.2 hi)
  rw [ho] at this;simp only [Option.map_some,Option.getD_some] at this;rw [Array.any_eq_true] at this;obtain ⟨k,hk,h⟩:=this;simp only [Bool.and_eq_true,beq_iff_eq] at h;exact ⟨_,Array.getElem_mem hk,h.1,h.2⟩
def ConcOb (P:Program) (md:Region.Mode) (l:List Oper) (n:Nat) (R:Nat->Value->World->Prop) (G:World->World->Prop) (J:Array Bool->World->Prop) (Q:Exit->Act->World->Prop) (a0:Act) (w0:World) (i:Nat) (o:Oper):Prop :=
 ∀ (L:Array Bool) (T:Array Value) (w:World),G w0 w->J L w->L.size=l.length->L.getD i true=false->(∀ e∈o.after,Region.binds md e=true->L.getD e.on false=true) ->
  (∀ s,s ∉ concDsts l n->T.getD s undef=a0.tmps.getD s undef) ->
  (∀ e∈o.after,Region.binds md e=true->∀ s,(l[e.on]?).bind (·.dst)=some s->R e.on (T.getD s undef) w) ->
  ∀ K:Act->World->Prop,(∀ v w',G w w'->(∀ j u,j<n->j≠i->L.getD j false=true->R j u w->R j u w')->J (L.setIfInBounds i true) w'->R i v w'->K (Act.put { tmps:=T,defers:=a0.defers } o.dst v) w')->o.wp P { tmps:=T,defers:=a0.defers } w K Q
def ConcObs (P:Program) (md:Region.Mode) (l:List Oper) (n:Nat) (R:Nat->Value->World->Prop) (G:World->World->Prop) (J:Array Bool->World->Prop) (Q:Exit->Act->World->Prop) (a0:Act) (w0:World):List Oper->Nat->Prop
 | [],_=>True
 | o::r,i=>ConcOb P md l n R G J Q a0 w0 i o /\ ConcObs P md l n R G J Q a0 w0 r (i+1)
theorem concObs_at {l:List Oper} {n:Nat} {R:Nat->Value->World->Prop} {G:World->World->Prop} {J:Array Bool->World->Prop} {Q:Exit->Act->World->Prop} {a0:Act} {w0:World} :
  ∀ (r:List Oper) (k:Nat),ConcObs P md l n R G J Q a0 w0 r k->∀ (i:Nat) (o:Oper),r[i]?=some o->ConcOb P md l n R G J Q a0 w0 (k+i) o
 | [],k,_,i,o,h=>by simp at h
 | x::r,k,hobs,0,o,h=>by
  simp at h;subst h;exact hobs.1
 | x::r,k,hobs,i+1,o,h=>by
  have:=concObs_at r (k+1) hobs.2 i o (by simpa using h)
  rw [show k+(i+1)=k+1+i by omega];exact this
structure ConcInv (md:Region.Mode) (l:List Oper) (n:Nat) (R:Nat->Value->World->Prop) (G:World->World->Prop) (J:Array Bool->World->Prop) (a0:Act) (w0:World) (L:Array Bool) (a:Act) (w:World):Prop where
 size:L.size=l.length
 tail:∀ j,n<=j->L.getD j false=false
 grow:G w0 w
 inv:J L w
 defers:a.defers=a0.defers
 tmps:a.tmps.size=a0.tmps.size
 frame:∀ s,s ∉ concDsts l n->a.tmps.getD s undef=a0.tmps.getD s undef
 vals:∀ i,L.getD i false=true->∀ s,(l[i]?).bind (·.dst)=some s->R i (a.tmps.getD s undef) w
theorem getD_set_self {L:Array Bool} {i:Nat} (h:i<L.size):(L.setIfInBounds i true).getD i false=true:=by simp [h]
theorem getD_flip {L:Array Bool} {i:Nat} (h:i<L.size):L.getD i true=L.getD i false:=by simp [h]
theorem conc_rebuild:∀ (ds:List Nat) (t u:Array Value),t.size=u.size->(∀ s,s ∉ ds->t.getD s undef=u.getD s undef)->t=ds.foldl (fun x s=>x.setIfInBounds s (t.getD s undef)) u
 | [],t,u,hs,h=>by
  apply Array.ext hs
  intro i h1 h2;have:=h i (by simp)
  simpa [h1,h2] using this
 | d::ds,t,u,hs,h=>by
  rw [List.foldl_cons];refine conc_rebuild ds t _ (by simp [hs]) (fun s hsd=>?_)
  by_cases e:s=d
  ·subst e
   by_cases hlt:s<u.size
   ·simp [hlt]
   ·simp [Array.getElem?_eq_none (show t.size<=s by omega)]
  ·rw [h s (by simp [e,hsd])]
   simp [Array.getElem?_setIfInBounds_ne (Ne.symm e)]
theorem wpAny_conc {l:List Oper} {n:Nat} {R:Nat->Value->World->Prop} {G:World->World->Prop} {J:Array Bool->World->Prop} {Q:Exit->Act->World->Prop} {a0:Act} {w0:World}
  (hB:concB md l n=true) (hsz:∀ s∈concDsts l n,s<a0.tmps.size) (htrans:∀ {w1 w2:World},G w0 w1->G w1 w2->G w0 w2)
  (hop:ConcObs P md l n R G J Q a0 w0 (l.take n) 0)
  (hend:∀ (f:Nat->Value) (w:World),G w0 w->J ((Array.replicate n true)++(Array.replicate (l.length - n) false)) w->(∀ i s,i<n->(l[i]?).bind (·.dst)=some s->R i (f s) w) ->
   wpAny P md l.toArray Q (l.length - n) ((Array.replicate n true)++(Array.replicate (l.length - n) false)) { tmps:=(concDsts l n).foldl (fun x s=>x.setIfInBounds s (f s)) a0.tmps,defers:=a0.defers } w) :
  ∀ (m:Nat) (L:Array Bool) (a:Act) (w:World),ConcInv md l n R G J a0 w0 L a w->(List.range n).countP (fun i=>!L.getD i true)=m->wpAny P md l.toArray Q (m+(l.length - n)) L a w:=by
 have ok:=concB_ok hB;have hle:=ok.le;intro m
 induction m with
 | zero =>
  intro L a w inv hc;have hall:∀ i,i<n->L.getD i false=true:=fun i hi=>by
   rw [List.countP_eq_zero] at hc;have:=hc i (List.mem_range.2 hi);rw [getD_flip (by rw [inv.size];omega)] at this
   simpa using this
  have hL:L=(Array.replicate n true)++(Array.replicate (l.length - n) false):=by
   apply Array.ext (by simp [inv.size];omega)
   intro i h1 h2
   by_cases hi:i<n
   ·have:=hall i hi
    simp [h1] at this;rw [this,Array.getElem_append_left (by simpa using hi)];simp
   ·have:=inv.tail i (by omega)
    simp [h1] at this;rw [this,Array.getElem_append_right (by simp;omega)];simp
  rw [Nat.zero_add];have h1:=hend (fun s=>a.tmps.getD s undef) w inv.grow (hL ▸ inv.inv) (fun i s hi hs=>inv.vals i (hall i hi) s hs)
  rw [hL];have ha:a={ tmps:=(concDsts l n).foldl (fun x s=>x.setIfInBounds s (a.tmps.getD s undef)) a0.tmps,defers:=a0.defers }:=by
   obtain ⟨t,d⟩:=a;have e1:d=a0.defers:=inv.defers;subst e1
   congr 1
   exact conc_rebuild _ _ _ inv.tmps inv.frame
  rw [ha];exact h1
 | succ m ih =>
  intro L a w inv hc;obtain ⟨k,hk,hkL⟩:∃ k,k<n /\ L.getD k true=false:=by
   have:0<(List.range n).countP (fun i=>!L.getD i true):=by omega
   rw [List.countP_pos_iff] at this;obtain ⟨k,h1,h2⟩:=this;exact ⟨k,List.mem_range.1 h1,by simpa using h2⟩
  rw [show m+1+(l.length - n)=(m+(l.length - n))+1 by omega,wpAny]
  constructor
  ·intro hr
   exfalso
   obtain ⟨i,hin,hiL,hmin⟩:∃ i,i<n /\ L.getD i true=false /\ ∀ j,j<i->L.getD j true=true:=by
    have h:∃ i,i<n /\ L.getD i true=false:=⟨k,hk,hkL⟩;have:∀ b i,i<=b->i<n->L.getD i true=false->∃ i,i<n /\ L.getD i true=false /\ ∀ j,j<i->L.getD j true=true:=by
     intro b
     induction b with
     | zero=>intro i hi h1 h2;exact ⟨i,h1,h2,fun j hj=>by omega⟩
     | succ b ihb =>
      intro i hi h1 h2
      by_cases hx:∃ j,j<i /\ L.getD j true=false
      ·obtain ⟨j,hj,h3⟩:=hx
       exact ihb j (by omega) (by omega) h3
      ·refine ⟨i,h1,h2,fun j hj=>?_⟩
       cases h4:L.getD j true with
       | true=>rfl
       | false=>exact absurd ⟨j,hj,h4⟩ hx
    exact this k k (Nat.le_refl _) hk hkL
   have hil:i<l.length:=by omega
   have ho:l[i]?=some l[i]:=List.getElem?_eq_getElem hil;have hmem:i∈Region.ready md l.toArray L:=by
    rw [mem_ready];refine ⟨hiL,l[i],by simp,fun e he _=>?_⟩
    have hb:=ok.back i _ hin ho e he;rw [<- getD_flip (by rw [inv.size];omega)]
    exact hmin e.on hb
   rw [hr] at hmem
   cases hmem
  ·intro i hi
   obtain ⟨hiL,o,ho,hdep⟩:=mem_ready.1 hi;have ho':l[i]?=some o:=by simpa using ho
   have hin:i<n:=by
    rcases Nat.lt_or_ge i n with h | h
    ·exact h
    ·exfalso
     obtain ⟨e,he,hb,hon⟩:=ok.waits i o h ho' k hk;have:=hdep e he hb;rw [hon,<- getD_flip (by rw [inv.size];omega)] at this
     rw [hkL] at this
     cases this
   have hob:=concObs_at _ 0 hop i o (by rw [List.getElem?_take_of_lt hin];exact ho')
   rw [Nat.zero_add] at hob;obtain ⟨d,hd⟩:=ok.dst i o hin ho';have hdm:d∈concDsts l n:=List.mem_filterMap.2 ⟨o,List.mem_of_getElem? (show (l.take n)[i]?=some o by rw [List.getElem?_take_of_lt hin];exact ho'),hd⟩
   unfold wpOp;rw [ho];have hg:=ok.guard i o hin ho';have hw:Region.wanted o (yielded l.toArray a.tmps)=true:=by unfold Region.wanted;rw [hg]
   simp only [hw,if_true];have ea:a={ tmps:=a.tmps,defers:=a0.defers }:=by
    have:=inv.defers;obtain ⟨t,d⟩:=a;have e1:d=a0.defers:=this;subst e1
    rfl
   have key:=hob L a.tmps w inv.grow inv.inv inv.size hiL hdep inv.frame (fun e he hb s hs=>inv.vals e.on (hdep e he hb) s hs) (wpAny P md l.toArray Q (m+(l.length - n)) (L.setIfInBounds i true))
   rw [<- ea] at key;refine .inl (key ?_);intro v w' hG hst hJ hR;refine ih _ _ _ ⟨by simp [inv.size],?_,htrans inv.grow hG,hJ,by rw [hd];exact inv.defers,?_,?_,?_⟩ ?_
   ·intro j hj
    rw [getD_set_ne false (by omega)];exact inv.tail j hj
   ·rw [hd];simp [Act.put,inv.tmps]
   ·intro s hs
    have hne:d≠s:=by rintro rfl;exact hs hdm
    rw [hd]
    show (a.tmps.setIfInBounds d v).getD s undef=_
    rw [<- inv.frame s hs];simp [Array.getElem?_setIfInBounds_ne hne]
   ·intro j hj s hs
    rw [hd]
    show R j ((a.tmps.setIfInBounds d v).getD s undef) w'
    by_cases hji:j=i
    ·subst hji
     rw [ho'] at hs;simp at hs;rw [hd] at hs;injection hs with hs;subst hs;have hlt:d<a.tmps.size:=by rw [inv.tmps];exact hsz d hdm
     rw [show (a.tmps.setIfInBounds d v).getD d undef=v by simp [hlt]]
     exact hR
    ·have hj':L.getD j false=true:=by rwa [getD_set_ne false (Ne.symm hji)] at hj
     have hjn:j<n:=by
      rcases Nat.lt_or_ge j n with h | h
      ·exact h
      ·rw [inv.tail j h] at hj';cases hj'
     obtain ⟨oj,hoj⟩:∃ oj,l[j]?=some oj:=⟨_,List.getElem?_eq_getElem (show j<l.length by omega)⟩
     have hsj:oj.dst=some s:=by rw [hoj] at hs;simpa using hs
     have hne:d≠s:=by
      rintro rfl;exact hji (ok.apart j i oj o d hjn hin hoj ho' hsj hd)
     have hv:=inv.vals j hj' s hs;have e:(a.tmps.setIfInBounds d v).getD s undef=a.tmps.getD s undef:=by simp [Array.getElem?_setIfInBounds_ne hne]
     rw [e];exact hst j _ hjn hji hj' hv
   ·have hcnt:∀ (r:List Nat),r.Nodup->i∈r->r.countP (fun x=>!(L.setIfInBounds i true).getD x true)+1=r.countP (fun x=>!L.getD x true):=by
     intro r
     induction r with
     | nil=>intro _ h;cases h
     | cons x r ihr =>
      intro hn hm;rw [List.nodup_cons] at hn;rw [List.countP_cons,List.countP_cons]
      by_cases hx:x=i
      ·subst hx
       have h0:∀ y∈r,(L.setIfInBounds x true).getD y true=L.getD y true:=fun y hy=>getD_set_ne true (by rintro rfl;exact hn.1 hy)
       have h1:r.countP (fun y=>!(L.setIfInBounds x true).getD y true)=r.countP (fun y=>!L.getD y true):=by
        apply List.countP_congr
        intro y hy;rw [h0 y hy]
       rw [h1,hiL];have h2:(L.setIfInBounds x true).getD x true=true:=by rw [getD_flip (by simp [inv.size];omega)];exact getD_set_self (by rw [inv.size];omega)
       rw [h2];simp
      ·have h2:=ihr hn.2 (by rcases List.mem_cons.1 hm with h | h;exact absurd h.symm hx;exact h)
       rw [getD_set_ne true (Ne.symm hx)];omega
    have:=hcnt (List.range n) List.nodup_range (List.mem_range.2 hin);omega
theorem wp_region_conc {id:Nat} {l:List Oper} (n:Nat) {Q:Exit->Act->World->Prop} {a0:Act} {w:World} (R:Nat->Value->World->Prop) (G:World->World->Prop) (J:Array Bool->World->Prop)
  (hm:P.follows .mixedOrders=true) (hB:concB .any l n=true) (hS:Region.seqB .any l.toArray (l.length - n) n ((Array.replicate n true)++(Array.replicate (l.length - n) false))=true)
  (hsz:((concDsts l n).all fun s=>decide (s<a0.tmps.size))=true) (h0:G w.drew w.drew) (hJ:J (Array.replicate l.length false) w.drew)
  (htrans:∀ {w1 w2:World},G w.drew w1->G w1 w2->G w.drew w2)
  (hop:ConcObs P .any l n R G J Q a0 w.drew (l.take n) 0)
  (hend:∀ (f:Nat->Value) (w1:World),G w.drew w1->J ((Array.replicate n true)++(Array.replicate (l.length - n) false)) w1->(∀ i s,i<n->(l[i]?).bind (·.dst)=some s->R i (f s) w1) ->
   wpList P l.toArray Q (l.drop n) { tmps:=(concDsts l n).foldl (fun x s=>x.setIfInBounds s (f s)) a0.tmps,defers:=a0.defers } w1) :
  (Code.region id l.toArray true).wp P Q a0 w:=by
 refine wp_region_any hm ?_;have hle:=(concB_ok hB).le;have hrep:∀ j,(Array.replicate l.length false).getD j false=false:=fun j=>by
  by_cases h:j<l.length <;> simp [h]
 have hd:(l.drop n).length=l.length - n:=by simp
 have key:=wpAny_conc (P:=P) (md:=.any) (Q:=Q) (a0:=a0) (w0:=w.drew) hB (by simpa using hsz) htrans hop (fun f w1 h1 h2 h3=>by
  have:=wpAny_of_seq (P:=P) (md:=.any) (Q':=Q) (l.drop n) n _ _ w1 (fun j=>by simp [List.getElem?_drop]) (by rw [hd];exact hS) (hend f w1 h1 h2 h3)
  rwa [hd] at this) n (Array.replicate l.length false) a0 w.drew
  ⟨by simp,fun j _=>hrep j,h0,hJ,rfl,rfl,fun _ _=>rfl,fun i hi=>by rw [hrep] at hi;cases hi⟩ (by
   rw [List.countP_eq_length.2 (fun i hi=>by
    have h:=List.mem_range.1 hi;rw [getD_flip (by simp;omega),hrep];rfl)]
   simp)
 have e:n+(l.length - n)=l.toArray.size:=by simp;omega
 rw [e] at key;have e2:l.toArray.size=l.length:=by simp
 rw [<- e2] at key;exact key
end
end Go.Proofs.YthiochcpmfkgcaaGreatDoor.Mx
namespace Go.Proofs.YthiochcpmfkgcaaGreatDoor.Tb
open Go Go.RowKit Go.Proofs Mx
def encIt (x:It):List Value:=[.int .i64 (x.1:Int),.int .i64 (x.2:Int)]
theorem encIt_len (x:It):(encIt x).length=2:=rfl
theorem encIt_one (x:It):∀ v∈encIt x,v.oneCell'=true:=by intro v hv;simp [encIt] at hv;rcases hv with rfl | rfl <;> rfl
def wd (M j:Nat):Int:=((M / 2 ^ (64 * j) % 18446744073709551616:Nat):Int)
def setV (M:Nat):Value:=.agg #[.int .u64 (wd M 0),.int .u64 (wd M 1),.int .u64 (wd M 2),.int .u64 (wd M 3)]
def setC (M:Nat):Array Value:=#[.int .u64 (wd M 0),.int .u64 (wd M 1),.int .u64 (wd M 2),.int .u64 (wd M 3)]
def encSet (M:Nat):List Value:=[.int .u64 (wd M 0),.int .u64 (wd M 1),.int .u64 (wd M 2),.int .u64 (wd M 3)]
theorem encSet_len (M:Nat):(encSet M).length=4:=rfl
def encSy (s:Sy):List Value:=[.int .i64 s.kind,.int .u64 (wd s.set 0),.int .u64 (wd s.set 1),.int .u64 (wd s.set 2),.int .u64 (wd s.set 3),.int .i64 s.sort]
theorem encSy_len (s:Sy):(encSy s).length=6:=rfl
def encPr (x:Value × Pr):List Value:=[.int .i64 x.2.left,x.1,.string ⟨x.2.cons.toArray⟩,.int .i64 x.2.role,.bool x.2.prefer,.bool x.2.avoid,.int .i64 x.2.made]
theorem encPr_len (x:Value × Pr):(encPr x).length=7:=rfl
structure ProdsL (D:Nat->Prop) (w:World) (v:Value) (l:List (Value × Pr)):Prop where
 row:SliceK D encPr 7 w v l
 right:∀ x∈l,SliceK D encSy 6 w x.1 x.2.right
def ProdsAt (D:Nat->Prop) (w:World) (v:Value) (ps:List Pr):Prop:=∃ l,ProdsL D w v l /\ l.map (·.2)=ps
def encN (n:Nat):List Value:=[.int .i64 (n:Int)]
theorem encN_len (n:Nat):(encN n).length=1:=rfl
def encOf (x:Value × List Nat):List Value:=[x.1]
structure OfL (D:Nat->Prop) (w:World) (v:Value) (l:List (Value × List Nat)):Prop where
 row:SliceK D encOf 1 w v l
 each:∀ x∈l,SliceK D encN 1 w x.1 x.2
def OfAt (D:Nat->Prop) (w:World) (v:Value) (g:Gr):Prop:=∃ l,OfL D w v l /\ l.length=g.sorts.length /\ ∀ (s:Nat) (x:Value × List Nat),l[s]?=some x->x.2=ofS g (s:Int)
structure MkR (D:Nat->Prop) (w:World) (mb:Nat) (g:Gr):Prop where
 lt:mb<w.heap.size
 prods:∃ vp,w.cell? ⟨mb,1,none⟩=some vp /\ ProdsAt D w vp g.prods
 of:∃ vo,w.cell? ⟨mb,5,none⟩=some vo /\ OfAt D w vo g
structure Good (g:Gr):Prop where
 prods:g.prods.length<=100
 sorts:g.sorts.length<=1000
 start:0<=g.start /\ g.start<g.sorts.length
 left:∀ p∈g.prods,0<=p.left /\ p.left<g.sorts.length
 right:∀ p∈g.prods,p.right.length<=30
 sym:∀ p∈g.prods,∀ s∈p.right,(s.kind=0 /\ s.sort=0 /\ s.set≠0 /\ s.set<2 ^ 256)∨(s.kind=1 /\ s.set=0 /\ 0<=s.sort /\ s.sort<g.sorts.length)
theorem compactIt_nodup:∀ l:List It,l.Pairwise (fun a b=>itLe a b=true)->(compactIt l).Nodup
 | [],_=>List.nodup_nil
 | [x],_=>by simp [compactIt]
 | x::y::t,h=>by
  rw [compactIt_cons];obtain ⟨h1,h2⟩:=List.pairwise_cons.1 h;have ih:=compactIt_nodup (y::t) h2
  by_cases e:x=y
  ·rw [if_pos e];exact ih
  ·rw [if_neg e]
   refine List.nodup_cons.2 ⟨fun hm=>?_,ih⟩
   have hm2:=compactIt_mem _ _ hm
   rcases List.mem_cons.1 hm2 with h3 | h3
   ·exact e h3
   ·exact e (itLe_anti (h1 y (by simp)) ((List.pairwise_cons.1 h2).1 x h3))
theorem closedF_small {g:Gr} (hg:Good g) {l:List It} (h:∀ x∈l,itemOk g x=true):(closedF g l).length<=3100:=by
 have h1:(closedF g l).Nodup:=compactIt_nodup _ (sortIt_sorted _);have h2:=nodup_le (closedF g l) ((List.range 100).flatMap fun n=>(List.range 31).map fun d=>(n,d)) h1 (fun x hx=>by
  have hok:=(itemOk_iff g x).1 ((closedF_fits h).2 x hx);have h3:(rightOf g x.1).length<=30:=by
   unfold rightOf;rw [List.getElem?_eq_getElem hok.1];exact hg.right _ (List.getElem_mem _)
  have h4:=hg.prods;rw [List.mem_flatMap];exact ⟨x.1,by simp;omega,by rw [List.mem_map];exact ⟨x.2,by simp;omega,rfl⟩⟩)
 refine Nat.le_trans h2 ?_
 decide +kernel
section
variable {D D':Nat → Prop} {w w':World} {v:Value} {mb:Nat} {g:Gr}
theorem ProdsL.keep {l:List (Value × Pr)} (h:ProdsL D w v l) (hD:∀ g,D g->g<w.heap.size->D' g /\ w'.heap[g]?=w.heap[g]?):ProdsL D' w' v l :=
 ⟨h.row.keep hD,fun x hx=>(h.right x hx).keep hD⟩
theorem OfL.keep {l:List (Value × List Nat)} (h:OfL D w v l) (hD:∀ g,D g->g<w.heap.size->D' g /\ w'.heap[g]?=w.heap[g]?):OfL D' w' v l :=
 ⟨h.row.keep hD,fun x hx=>(h.each x hx).keep hD⟩
theorem ProdsAt.keep {ps:List Pr} (h:ProdsAt D w v ps) (hD:∀ g,D g->g<w.heap.size->D' g /\ w'.heap[g]?=w.heap[g]?):ProdsAt D' w' v ps:=by
 obtain ⟨l,hl,e⟩:=h;exact ⟨l,hl.keep hD,e⟩
theorem OfAt.keep (h:OfAt D w v g) (hD:∀ g,D g->g<w.heap.size->D' g /\ w'.heap[g]?=w.heap[g]?):OfAt D' w' v g:=by
 obtain ⟨l,hl,e⟩:=h;exact ⟨l,hl.keep hD,e⟩
theorem MkR.keep (h:MkR D w mb g) (hD:∀ g,D g->g<w.heap.size->D' g /\ w'.heap[g]?=w.heap[g]?) (hm:w'.heap.size ≥ w.heap.size) (h1:w'.cell? ⟨mb,1,none⟩=w.cell? ⟨mb,1,none⟩) (h5:w'.cell? ⟨mb,5,none⟩=w.cell? ⟨mb,5,none⟩):MkR D' w' mb g:=by
 obtain ⟨hl,⟨vp,p1,p2⟩,⟨vo,o1,o2⟩⟩:=h;exact ⟨Nat.lt_of_lt_of_le hl hm,⟨vp,h1.trans p1,p2.keep hD⟩,⟨vo,h5.trans o1,o2.keep hD⟩⟩
theorem MkR.below (h:MkR D w mb g) (hb:Below w.heap.size w w'):MkR D w' mb g :=
 h.keep (fun g hg hl=>⟨hg,hb.block g hl⟩) hb.size (World.cell?_of_block (hb.block mb h.lt)) (World.cell?_of_block (hb.block mb h.lt))
theorem MkR.prod (h:MkR D w mb g) {n:Nat} {p:Pr} (hp:g.prods[n]?=some p):∃ a cap b o vr,w.cell? ⟨mb,1,none⟩=some (.slice (some ⟨b,o,none⟩) g.prods.length cap) /\ a=b /\ SliceK D encSy 6 w vr p.right /\
  (∀ j u,(encPr (vr,p))[j]?=some u->w.cell? ⟨b,o+n * 7+j,none⟩=some u):=by
 obtain ⟨vp,p1,l,hl,e⟩:=h.prods;have hlen:l.length=g.prods.length:=by rw [<- e];simp
 have hn:=(List.getElem?_eq_some_iff.1 hp).1;have hx:∃ vr,l[n]?=some (vr,p):=by
  rw [<- e,List.getElem?_map] at hp
  cases hq:l[n]? with
  | none=>rw [hq] at hp;simp at hp
  | some q=>rw [hq] at hp;simp at hp;exact ⟨q.1,by rw [<- hp]⟩
 obtain ⟨vr,hx⟩:=hx;obtain ⟨a,cap,rfl,hc1,hc2,hK⟩:=hl.row;obtain ⟨b,o,rfl,hDb,hr⟩:=hK (by rintro rfl;simp at hx)
 rw [hlen] at p1;exact ⟨b,cap,b,o,vr,p1,rfl,hl.right _ (List.mem_of_getElem? hx),fun j u hu=>hr.cells n _ hx j u hu⟩
end
end Go.Proofs.YthiochcpmfkgcaaGreatDoor.Tb
namespace Go.Proofs.YthiochcpmfkgcaaGreatDoor.Mx
open Go Go.RowKit Go.Maps

def asIs (v:Value):Option (DataW Value × List MemPlace):=some (.held v,[])
def MapV (P:Program) (k:TypeId) (w:World) (b n:Nat) (f:Lit->Option Value):Prop :=
 ∃ D:DataW Value,w.ownsMap P k asIs b n D /\ ∀ l,(∃ v,keyOf P k v=some l)->Maps.has D l=(f l).isSome /\ ∀ z,D.atKey l (.held z)=.held ((f l).getD z)
section
variable {P:Program} {k:TypeId} {w w':World} {b n:Nat} {f:Lit → Option Value}
theorem MapV.made (w:World) (P:Program) (k:TypeId):MapV P k (w.alloc (.map #[] 0)) w.heap.size 0 (fun _=>none) :=
 ⟨.map [],World.ownsMap_made w P k asIs,fun l _=>⟨rfl,fun z=>rfl⟩⟩
theorem MapV.of_block (h:MapV P k w b n f) (e:w'.heap[b]?=w.heap[b]?):MapV P k w' b n f:=by
 obtain ⟨D,⟨es,clock,hb,F,hs,hD⟩,hf⟩:=h;exact ⟨D,⟨es,clock,e.trans hb,F,hs,hD⟩,hf⟩
theorem MapV.lt (h:MapV P k w b n f):b<w.heap.size:=by obtain ⟨D,hD,_⟩:=h;exact hD.lt
theorem MapV.mono (h:MapV P k w b n f) {m:Nat} (hm:n<=m):MapV P k w b m f:=by obtain ⟨D,hD,hf⟩:=h;exact ⟨D,hD.mono hm,hf⟩
theorem MapV.alloc (h:MapV P k w b n f) (o:Obj):MapV P k (w.alloc o) b n f:=h.of_block (Below.heap_alloc w o b h.lt)
theorem MapV.drew (h:MapV P k w b n f):MapV P k w.drew b n f:=h
theorem MapV.drewN (h:MapV P k w b n f) (m:Nat):MapV P k (w.drewN m) b n f:=h
theorem MapV.below {B:Nat} (h:MapV P k w b n f) (hb:Below B w w') (hB:b<B):MapV P k w' b n f:=h.of_block (hb.block b hB)
theorem MapV.grown {row:Option Nat} (h:MapV P k w b n f) (hb:w.grownBy w' row) (hne:some b≠row):MapV P k w' b n f:=h.of_block (hb.block b h.lt hne)
theorem MapV.setCell (h:MapV P k w b n f) {p:Addr} (hp:b≠p.block) (u:Value):MapV P k (w.setCell p u) b n f:=h.of_block (Below.heap_setCell w p u b hp)
theorem asIs_inv {v:Value} {d:DataW Value} {ps:List MemPlace} (h:asIs v=some (d,ps)):d=.held v:=by
 simp [asIs] at h;exact h.1.symm

theorem MapV.lookup {t e:TypeId} (h:MapV P k w b n f) (K:Keyed P k) (ht:P.underlying t=some (.map k e)) {z:Value} (hz:(zeroValue e).run P w=.ok z w)
  {key:Value} {kl:Lit} (hkey:keyOf P k key=some kl):(Instr.lookup t (.map (some b)) key false).run P w=.ok ((f kl).getD z) w:=by
 obtain ⟨D,hD,hf⟩:=h;obtain ⟨v,ps,hrun,hv⟩:=hD.lookup K ht hz (zd:=.held z) (zp:=[]) rfl hkey;have h1:=asIs_inv hv;rw [(hf kl ⟨key,hkey⟩).2 z] at h1;injection h1 with h1;rw [h1];exact hrun
theorem MapV.look_ok {t e:TypeId} (h:MapV P k w b n f) (K:Keyed P k) (ht:P.underlying t=some (.map k e)) {z:Value} (hz:(zeroValue e).run P w=.ok z w)
  {key:Value} {kl:Lit} (hkey:keyOf P k key=some kl):(Instr.lookup t (.map (some b)) key true).run P w=.ok (.tuple #[(f kl).getD z,.bool (f kl).isSome]) w:=by
 obtain ⟨D,hD,hf⟩:=h;obtain ⟨v,ps,hrun,hv⟩:=hD.look_ok K ht hz (zd:=.held z) (zp:=[]) rfl hkey;have h1:=asIs_inv hv;rw [(hf kl ⟨key,hkey⟩).2 z] at h1;injection h1 with h1;rw [h1,<- (hf kl ⟨key,hkey⟩).1];exact hrun
def putV (f:Lit->Option Value) (kl:Lit) (v:Value):Lit->Option Value:=fun l=>if l.sameKey kl then some v else f l
theorem putV_same (f:Lit->Option Value) {kl:Lit} (v:Value) (hk:WideAt.IsKeyLit kl):putV f kl v kl=some v:=by simp [putV,WideAt.sameKey_self hk]
theorem putV_other (f:Lit->Option Value) {kl l:Lit} (v:Value) (h:l≠kl):putV f kl v l=f l:=by simp [putV,Maps.sameKey_ne h]
theorem putV_int (f:Lit->Option Value) (q:IntKind) (a b:Int) (v:Value):putV f (.int q a) v (.int q b)=if b=a then some v else f (.int q b):=by simp [putV,Lit.sameKey]
theorem putV_string (f:Lit->Option Value) (a b:List UInt8) (v:Value):putV f (.string a) v (.string b)=if b=a then some v else f (.string b):=by simp [putV,Lit.sameKey]
theorem MapV.put {D:DataW Value} (hm:IsMap D) (K:Keyed P k) {kl:Lit} {key:Value} (hkey:keyOf P k key=some kl) (v:Value)
  (hf:∀ l,(∃ v,keyOf P k v=some l)->Maps.has D l=(f l).isSome /\ ∀ z,D.atKey l (.held z)=.held ((f l).getD z)) :
  ∀ l,(∃ v,keyOf P k v=some l)->Maps.has (D.put kl (.held v)) l=(putV f kl v l).isSome /\ ∀ z,(D.put kl (.held v)).atKey l (.held z)=.held ((putV f kl v l).getD z):=by
 intro l hl;have hik:=K.key hkey
 by_cases e:l=kl
 ·subst e
  rw [putV_same _ _ hik];exact ⟨has_put_same hm hik _,fun z=>atKey_put_same hm hik _ _⟩
 ·rw [putV_other _ _ e]
  exact ⟨by rw [has_put_other e];exact (hf l hl).1,fun z=>by rw [atKey_put_other e];exact (hf l hl).2 z⟩
theorem MapV.update {t e:TypeId} (h:MapV P k w b n f) (K:Keyed P k) (ht:P.underlying t=some (.map k e)) (hn:n<maxLen) {key val:Value} {kl:Lit}
  (hkey:keyOf P k key=some kl):∃ w',(Instr.mapUpdate t (.map (some b)) key val).run P w=.ok () w' /\ MapV P k w' b (n+1) (putV f kl val) /\ w.grownBy w' (some b):=by
 obtain ⟨D,hD,hf⟩:=h;obtain ⟨w',hrun,h1,h2⟩:=hD.update K ht hn hkey (val:=val) (d:=.held val) (ps:=[]) rfl;exact ⟨w',hrun,⟨_,h1,MapV.put hD.isMap K hkey val hf⟩,h2⟩
end
section
variable {P:Program} (w:World) {ops:Array Oper} {rest:List Oper} {o:Oper} {a:Act} {Q:Exit → Act → World → Prop}
theorem wpList_lookupV (hg:o.guard=none) (m x:Operand) (t:TypeId) (hop:o.op=Op.lookup t m x false)
  (k e:TypeId) (K:Keyed P k) (ht:P.underlying t=some (.map k e)) (z:Value) (hz:(zeroValue e).run P w=.ok z w) (b n:Nat) (f:Lit->Option Value)
  (hm:a.eval m=.map (some b)) (hown:MapV P k w b n f) (key:Value) (kl:Lit) (hx:a.eval x=key) (hkey:keyOf P k key=some kl)
  (hK:wpList P ops Q rest (a.put o.dst ((f kl).getD z)) w) :
  wpList P ops Q (o::rest) a w:=by
 refine wpList_plain hg fun K' hK'=>?_
 unfold Oper.wp;simp [execOp,hop,hm,hx,hown.lookup K ht hz hkey,Result.andThen];exact hK' _ _ hK
theorem wpList_mapUpdateV (hg:o.guard=none) (m x v:Operand) (t:TypeId) (hop:o.op=Op.mapUpdate t m x v)
  (k e:TypeId) (K:Keyed P k) (ht:P.underlying t=some (.map k e)) (b n:Nat) (f:Lit->Option Value)
  (hm:a.eval m=.map (some b)) (hown:MapV P k w b n f) (hn:n<maxLen) (key val:Value) (kl:Lit) (hx:a.eval x=key) (hv:a.eval v=val) (hkey:keyOf P k key=some kl)
  (hK:∀ w',MapV P k w' b (n+1) (putV f kl val)->w.grownBy w' (some b)->wpList P ops Q rest (a.put o.dst undef) w') :
  wpList P ops Q (o::rest) a w:=by
 refine wpList_plain hg fun K' hK'=>?_
 obtain ⟨w',hrun,r1,r2⟩:=hown.update K ht hn hkey (val:=val);unfold Oper.wp;simp [execOp,hop,hm,hx,hv,hrun,Result.andThen];exact hK' _ _ (hK w' r1 r2)
end
section
variable {P:Program} (w:World)
theorem wp_mapUpdateV {o:Oper} {a:Act} {K':Act->World->Prop} {Q:Exit->Act->World->Prop} (m x v:Operand) (t:TypeId) (hop:o.op=Op.mapUpdate t m x v)
  (k e:TypeId) (K:Keyed P k) (ht:P.underlying t=some (.map k e)) (b n:Nat) (f:Lit->Option Value)
  (hm:a.eval m=.map (some b)) (hown:MapV P k w b n f) (hn:n<maxLen) (key val:Value) (kl:Lit) (hx:a.eval x=key) (hv:a.eval v=val) (hkey:keyOf P k key=some kl)
  (hK:∀ w',MapV P k w' b (n+1) (putV f kl val)->w.grownBy w' (some b)->K' (a.put o.dst undef) w'):o.wp P a w K' Q:=by
 obtain ⟨w',hrun,r1,r2⟩:=hown.update K ht hn hkey (val:=val);unfold Oper.wp;simp [execOp,hop,hm,hx,hv,hrun,Result.andThen];exact hK w' r1 r2
end
end Go.Proofs.YthiochcpmfkgcaaGreatDoor.Mx
namespace Go.Proofs.YthiochcpmfkgcaaGreatDoor.Mx
open Go Go.RowKit Go.Maps Go.WideMaps
section
variable {P:Program} {k e t:TypeId} {w w':World} {b n:Nat} {f:Lit → Option Value}
theorem setBlock_twice (w:World) (b:Nat) (o o':Obj):ChangeMaps.setBlock (ChangeMaps.setBlock w b o) b o'=ChangeMaps.setBlock w b o':=by
 simp [ChangeMaps.setBlock]
theorem MapV.entry (h:MapV P k w b n f) (K:KeyLaw P k) (ht:P.underlying t=some (.map k e)) {z:Value} (hz:∀ u:World,(zeroValue e).run P u=.ok z u) (hn:n<maxLen) {key:Value} {kl:Lit}
  (hkey:keyOf P k key=some kl):∃ (v0:Value) (st:Int) (w1:World),(Instr.mapEntry t (.map (some b)) key).run P w=.ok (.tuple #[v0,.int .i64 st]) w1 /\ (∀ a:Addr,a.block≠b->w1.cell? a=w.cell? a) /\
   ∀ val,∃ w2,(Instr.entryStore t (.map (some b)) (.int .i64 st) val).run P w1=.ok () w2 /\ MapV P k w2 b (n+1) (putV f kl val) /\ w.grownBy w2 (some b):=by
 obtain ⟨D,⟨es,clock,hb,F,hs,hD⟩,hf⟩:=h;obtain ⟨v0,st,es1,clock1,h1,_,h2⟩:=WideElems.entry_then_store (R:=asIs) K ht hz hb F hkey;refine ⟨v0,st,_,h1,fun a ha=>?_,fun val=>?_⟩
 ·apply World.cell?_of_block
  show (w.heap.setIfInBounds b _)[a.block]?=_
  rw [Array.getElem?_setIfInBounds_ne (Ne.symm ha)]
 ·have hlt:b<w.heap.size:=(Array.getElem?_eq_some_iff.1 hb).1
  obtain ⟨es',clock',h3,h4⟩:=h2 (ChangeMaps.setBlock w b (.map es1 clock1)) val (by simp [ChangeMaps.setBlock,hlt])
  rw [setBlock_twice] at h3;obtain ⟨w',hrun,hm,hg⟩:=MapV.update (P:=P) (k:=k) (w:=w) (b:=b) (n:=n) (f:=f) ⟨D,⟨es,clock,hb,F,hs,hD⟩,hf⟩ (Keyed.of_law K) ht hn (val:=val) hkey;rw [hrun] at h4;injection h4 with _ h4;subst h4;exact ⟨_,h3,hm,hg⟩
theorem MapV.entry_look (h:MapV P k w b n f) (K:KeyLaw P k) (ht:P.underlying t=some (.map k e)) {z:Value} (hz:∀ u:World,(zeroValue e).run P u=.ok z u) (hn:n<maxLen) {key:Value} {kl:Lit}
  (hkey:keyOf P k key=some kl) {v:Value} {w1:World} (hrun:(Instr.mapEntry t (.map (some b)) key).run P w=.ok v w1) :
  (Instr.lookup t (.map (some b)) key false).run P w1=.ok ((f kl).getD z) w1:=by
 have hM:=h;obtain ⟨D,⟨es,clock,hb,F,hs,hD⟩,hf⟩:=h;have hlt:b<w.heap.size:=(Array.getElem?_eq_some_iff.1 hb).1;have hl:=hM.lookup (Keyed.of_law K) ht (hz w) hkey
 rcases K.find w hkey es.toList F.keys with ⟨h1,h2⟩ | ⟨j,e0,h1,h2,h3⟩
 ·have e1:(f kl).getD z=z:=by
   simp [Instr.lookup,run_underlying ht,MapKept.run_getObj_map hb,K.check w es.isEmpty hkey,h1,hz,Result.andThen] at hl;exact hl.symm
  obtain ⟨w2,hu,hm2,_⟩:=hM.update (Keyed.of_law K) ht hn (val:=z) hkey;have e2:w1=w2:=by
   simp [Instr.mapEntry,run_underlying ht,MapKept.run_getObj_map hb,K.check w false hkey,h1,hz,MapKept.run_setObj_map _ hb,Result.andThen,ChangeMaps.setBlock] at hrun;simp [Instr.mapUpdate,run_underlying ht,MapKept.run_getObj_map hb,K.check w false hkey,h1,MapKept.run_setObj_map _ hb,Result.andThen,ChangeMaps.setBlock] at hu;rw [<- hrun.2,<- hu]
  subst e2;have hl2:=hm2.lookup (Keyed.of_law K) ht (hz w1) hkey;rw [putV_same _ _ (Keyed.of_law K |>.key hkey)] at hl2;rw [e1];exact hl2
 ·have hj:es[j]?=some e0:=by simpa using h2
  have hsame:es.modify j (fun e=>{ e with key:=key })=es:=by
   apply Array.ext'
   rw [Array.toList_modify,ChangeMaps.modify_eq_set _ _ _ _ h2];have:({ e0 with key:=key }:MapEntry)=e0:=by rw [<- h3]
   rw [this];exact WideElems.set_self _ _ _ h2
  have e2:w1=ChangeMaps.setBlock w b (.map es clock):=by
   simp [Instr.mapEntry,run_underlying ht,MapKept.run_getObj_map hb,K.check w false hkey,h1,hj,h3,K.stays w hkey,hsame,MapKept.run_setObj_map _ hb,Result.andThen,ChangeMaps.setBlock] at hrun;rw [<- hrun.2];rfl
  have e3:w1.heap[b]?=w.heap[b]?:=by rw [e2,hb];simp [ChangeMaps.setBlock,hlt]
  exact (hM.of_block e3).lookup (Keyed.of_law K) ht (hz w1) hkey
theorem keyOf_arr4 {q:IntKind} (A:ArrKey P k e 4) (he:P.underlying e=some (.int q)) (hsz:∃ m,P.types.size=m+1) {x0 x1 x2 x3:Int} (h0:(Lit.int q x0).wf=true) (h1:(Lit.int q x1).wf=true) (h2:(Lit.int q x2).wf=true) (h3:(Lit.int q x3).wf=true) :
  keyOf P k (.agg #[.int q x0,.int q x1,.int q x2,.int q x3])=some (.string (keyBytes [.int q x0,.int q x1,.int q x2,.int q x3])):=by
 have hkt:=A.keyType hsz;obtain ⟨m0,hm0⟩:=hsz;unfold keyOf;simp only [A.hu];rw [if_pos (by simp [hkt,Value.formed,A.hu,A.size]),hm0]
 unfold Program.keyLits;simp only [A.hu,Value.cells];rw [if_pos (by rw [A.size];rfl),A.one]
 simp [List.range_succ,Program.keyLits,he,h0,h1,h2,h3]
end
end Go.Proofs.YthiochcpmfkgcaaGreatDoor.Mx
