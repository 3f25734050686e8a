/- Walks and plain laws that the last text stands on: TbPureA, GlT, TbMem, MapA, MapB, GlMem, GlStep, ShelfT. -/
import Derived.Test.YthiochcpmfkgcaaGreatDoorSo1
import Derived.Test.YthiochcpmfkgcaaGreatDoorProg
import Derived.WideKeyArr2
import Derived.WideKeyEntry
import Derived.Shelf.Small.Bits
import Derived.Shelf.Strings.BuilderF
import Derived.Shelf.Strconv.Itoa3
set_option linter.unusedVariables false
set_option linter.unusedSimpArgs false
set_option maxRecDepth 100000
set_option maxHeartbeats 16000000
namespace Go.Proofs.YthiochcpmfkgcaaGreatDoor.Tb
structure Sy where
 kind:Int
 set:Nat
 sort:Int
instance:DecidableEq Sy:=fun a b =>
 if h:a.kind=b.kind /\ a.set=b.set /\ a.sort=b.sort then
  isTrue (by obtain ⟨a1,a2,a3⟩:=a;obtain ⟨b1,b2,b3⟩:=b;obtain ⟨h1,h2,h3⟩:=h;simp at h1 h2 h3;subst h1;subst h2;subst h3;rfl)
 else isFalse (by rintro rfl;exact h ⟨rfl,rfl,rfl⟩)
structure Pr where
 left:Int
 right:List Sy
 cons:List UInt8
 role:Int
 prefer:Bool
 avoid:Bool
 made:Int
structure Gr where
 sorts:List (List UInt8)
 prods:List Pr
 start:Int
 forbid:List (Int × Int × Int)
 follow:List (Int × Nat)
abbrev It:=Nat × Nat
def rightOf (g:Gr) (n:Nat):List Sy:=((g.prods[n]?).map (·.right)).getD []
def itemOk (g:Gr) (x:It):Bool:=x.1<g.prods.length&&x.2<=(rightOf g x.1).length
def ofS (g:Gr) (s:Int):List Nat :=
 (List.range g.prods.length).filter fun n=>match g.prods[n]? with | some p=>p.left==s&&p.role != 11 | none=>false
def aheadF (g:Gr) (x:It):Option Sy:=(rightOf g x.1)[x.2]?
def closeGo (g:Gr):Nat->Nat->List Int->List It->List It
 | 0,_,_,out=>out
 | f+1,i,seen,out =>
  match out[i]? with
  | none=>out
  | some x =>
   match aheadF g x with
   | none=>closeGo g f (i+1) seen out
   | some s =>
    if s.kind=1 then
     if s.sort∈seen then closeGo g f (i+1) seen out
     else closeGo g f (i+1) (s.sort::seen) (out++(ofS g s.sort).map (·,0))
    else closeGo g f (i+1) seen out
def itLe (a b:It):Bool:=a.1<b.1 || (a.1==b.1&&a.2<=b.2)
def insIt (x:It):List It->List It
 | []=>[x]
 | y::t=>if itLe x y then x::y::t else y::insIt x t
def sortIt (l:List It):List It:=l.foldr insIt []
def compactIt:List It->List It
 | []=>[]
 | [x]=>[x]
 | x::y::t=>if x=y then compactIt (y::t) else x::compactIt (y::t)
def closedF (g:Gr) (l:List It):List It:=compactIt (sortIt (closeGo g (l.length+g.prods.length+1) 0 [] l))
def numberF (all:List (List It)) (l:List It):Option (Nat × List (List It)) :=
 match all.findIdx? (·==l) with
 | some n=>some (n,all)
 | none=>if 16384<=all.length then none else some (all.length,all++[l])
def leastF (M:Nat):Nat:=((List.range 256).find? fun b=>M.testBit b).getD 0
def splitStep (parts:List Nat) (s:Nat):List Nat :=
 parts.foldl (fun next p=>[p &&& s,p &&& (2 ^ 256 - 1 - s)].foldl (fun next x=>if x=0∨x∈next then next else next++[x]) next) []
def insSet (x:Nat):List Nat->List Nat
 | []=>[x]
 | y::t=>if leastF x<=leastF y then x::y::t else y::insSet x t
def splitF (l:List Nat):List Nat:=(l.foldl splitStep [2 ^ 256 - 1]).foldr insSet []
def withinF (a b:Nat):Bool:=a &&& b==a
def insInt (x:Int):List Int->List Int
 | []=>[x]
 | y::t=>if x<=y then x::y::t else y::insInt x t
def sortStep (g:Gr) (o:List Int) (x:It):List Int:=match aheadF g x with | some s=>if s.kind=1 /\ s.sort ∉ o then o++[s.sort] else o | none=>o
def sortsOf (g:Gr) (l:List It):List Int:=(l.foldl (sortStep g) []).foldr insInt []
def setsOf (g:Gr) (l:List It):List Nat:=l.filterMap fun x=>match aheadF g x with | some s=>if s.kind=0 then some s.set else none | none=>none
def movedSort (g:Gr) (l:List It) (s:Int):List It:=(l.filter fun x=>match aheadF g x with | some y=>y.kind==1&&y.sort==s | none=>false).map fun x=>(x.1,x.2+1)
def movedSet (g:Gr) (l:List It) (c:Nat):List It:=(l.filter fun x=>match aheadF g x with | some y=>y.kind==0&&withinF c y.set | none=>false).map fun x=>(x.1,x.2+1)
def leadsF (g:Gr) (l:List It):List (Sy × List It) :=
 ((sortsOf g l).map fun s=>(⟨1,0,s⟩,closedF g (movedSort g l s))) ++
 ((splitF (setsOf g l)).filterMap fun c=>if (movedSet g l c).isEmpty then none else some (⟨0,c,0⟩,closedF g (movedSet g l c)))
def numbersF:List (List It)->List (Sy × List It)->Option (List (Sy × Nat) × List (List It))
 | all,[]=>some ([],all)
 | all,(s,l)::t =>
  match numberF all l with
  | none=>none
  | some (n,all') =>
   match numbersF all' t with
   | none=>none
   | some (e,all'')=>some ((s,n)::e,all'')
structure St where
 items:List It
 edges:List (Sy × Nat)
 done:List Nat
def doneF (g:Gr) (l:List It):List Nat:=(l.filter fun x=>x.2==(rightOf g x.1).length).map (·.1)
def nextF (e:List (Sy × Nat)):Nat:=e.foldl (fun a x=>if x.1.kind=0 then a ||| x.1.set else a) 0
def statesGo (g:Gr):Nat->Nat->List (List It)->Option (List St)
 | 0,_,_=>some []
 | f+1,n,all =>
  match all[n]? with
  | none=>some []
  | some l =>
   match numbersF all (leadsF g l) with
   | none=>none
   | some (e,all')=>(statesGo g f (n+1) all').map fun t=>⟨l,e,doneF g l⟩::t
def makeF (g:Gr):Option (List St):=statesGo g 16385 0 [closedF g ((ofS g g.start).map (·,0))]
theorem compactIt_cons (x y:It) (t:List It):compactIt (x::y::t)=if x=y then compactIt (y::t) else x::compactIt (y::t):=rfl
theorem closeGo_end (g:Gr) (f i:Nat) (seen:List Int) (out:List It) (h:out.length<=i):closeGo g f i seen out=out:=by
 cases f with
 | zero=>rfl
 | succ f=>rw [closeGo,List.getElem?_eq_none h]
end Go.Proofs.YthiochcpmfkgcaaGreatDoor.Tb
namespace Go.Proofs.YthiochcpmfkgcaaGreatDoor.Tb
open Go
def dgt (c:UInt8):Bool:=decide (48<=c.toNat)&&decide (c.toNat<=57)
def valD (l:List UInt8):Nat:=l.foldl (fun a c=>10 * a+(c.toNat - 48)) 0
theorem dgt_of (k:Nat) (h:k<10):dgt (UInt8.ofNat (48+k))=true /\ (UInt8.ofNat (48+k)).toNat - 48=k:=by
 have:(UInt8.ofNat (48+k)).toNat=48+k:=by simp;omega
 unfold dgt;rw [this];simp;omega
theorem dec_told (u:Nat):(Lib.decDigits u).all dgt=true /\ valD (Lib.decDigits u)=u:=by
 induction u using Nat.strongRecOn with
 | _ u ih =>
  rw [Lib.decDigits]
  by_cases h:u<10
  ·rw [dif_pos h];obtain ⟨h1,h2⟩:=dgt_of u h;exact ⟨by rw [List.all_cons,h1];rfl,by simp only [valD,List.foldl_cons,List.foldl_nil];omega⟩
  ·rw [dif_neg h];obtain ⟨i1,i2⟩:=ih (u / 10) (by omega);obtain ⟨h1,h2⟩:=dgt_of (u % 10) (Nat.mod_lt _ (by decide));refine ⟨by rw [List.all_append,i1,List.all_cons,h1];rfl,?_⟩;unfold valD at i2 ⊢;rw [List.foldl_append,i2,List.foldl_cons,List.foldl_nil,h2];omega
theorem dec_inj {a b:Nat} (h:Lib.decDigits a=Lib.decDigits b):a=b:=by
 rw [<- (dec_told a).2,<- (dec_told b).2,h]
theorem take_dgt (D:List UInt8) (c:UInt8) (T:List UInt8) (h:D.all dgt=true) (hc:dgt c=false):(D++c::T).takeWhile dgt=D:=by
 induction D with
 | nil=>rw [List.nil_append,List.takeWhile_cons,if_neg (by rw [hc];decide)]
 | cons d D ih =>
  rw [List.all_cons,Bool.and_eq_true] at h;rw [List.cons_append,List.takeWhile_cons,if_pos h.1,ih h.2]
theorem part_dgt {D E:List UInt8} {c:UInt8} {T U:List UInt8} (hD:D.all dgt=true) (hE:E.all dgt=true) (hc:dgt c=false) (h:D++c::T=E++c::U):D=E /\ T=U:=by
 have h1:D=E:=by
  have:=congrArg (List.takeWhile dgt) h
  rwa [take_dgt D c T hD hc,take_dgt E c U hE hc] at this
 subst h1;have h2:=List.append_cancel_left h;injection h2 with _ h2;exact ⟨rfl,h2⟩
def keyIt (x:It):List UInt8:=Lib.decDigits x.1++46::(Lib.decDigits x.2++[32])
def keyF (l:List It):List UInt8:=l.flatMap keyIt
theorem keyIt_cons (x:It) (t:List UInt8):keyIt x++t=Lib.decDigits x.1++46::(Lib.decDigits x.2++32::t):=by simp [keyIt]
theorem keyIt_ne (x:It) (t:List UInt8):keyIt x++t≠[]:=by rw [keyIt_cons];simp
theorem key_inj:∀ (l k:List It),keyF l=keyF k->l=k
 | [],[],_=>rfl
 | [],y::k,h=>absurd h.symm (by unfold keyF;rw [List.flatMap_cons];exact keyIt_ne _ _)
 | x::l,[],h=>absurd h (by unfold keyF;rw [List.flatMap_cons];exact keyIt_ne _ _)
 | x::l,y::k,h=>by
  unfold keyF at h;rw [List.flatMap_cons,List.flatMap_cons,keyIt_cons,keyIt_cons] at h;obtain ⟨h1,h2⟩:=part_dgt (dec_told x.1).1 (dec_told y.1).1 (by decide) h;obtain ⟨h3,h4⟩:=part_dgt (dec_told x.2).1 (dec_told y.2).1 (by decide) h2;have hxy:x=y:=Prod.ext (dec_inj h1) (dec_inj h3);rw [hxy,key_inj l k h4]
end Go.Proofs.YthiochcpmfkgcaaGreatDoor.Tb
namespace Go.Proofs.YthiochcpmfkgcaaGreatDoor.Tb
end Go.Proofs.YthiochcpmfkgcaaGreatDoor.Tb
namespace Go.Proofs.YthiochcpmfkgcaaGreatDoor.Tb
theorem insIt_perm (x:It):∀ l,(insIt x l).Perm (x::l)
 | []=>.refl _
 | y::t=>by
  rw [insIt];split
  ·exact .refl _
  ·exact ((insIt_perm x t).cons y).trans (.swap x y t)
theorem sortIt_perm:∀ l:List It,(sortIt l).Perm l
 | []=>.refl _
 | x::t=>(insIt_perm x (sortIt t)).trans ((sortIt_perm t).cons x)
theorem itLe_iff (a b:It):itLe a b=true↔a.1<b.1∨a.1=b.1 /\ a.2<=b.2:=by simp [itLe]
theorem itLe_total (a b:It):itLe a b=true∨itLe b a=true:=by simp only [itLe_iff];omega
theorem itLe_trans {a b c:It} (h:itLe a b=true) (k:itLe b c=true):itLe a c=true:=by simp only [itLe_iff] at *;omega
theorem itLe_anti {a b:It} (h:itLe a b=true) (k:itLe b a=true):a=b:=by
 simp only [itLe_iff] at *;obtain ⟨a1,a2⟩:=a;obtain ⟨b1,b2⟩:=b;simp at *;omega
theorem insIt_sorted (x:It):∀ l:List It,l.Pairwise (fun a b=>itLe a b=true)->(insIt x l).Pairwise (fun a b=>itLe a b=true)
 | [],_=>by simp [insIt]
 | y::t,h=>by
  rw [List.pairwise_cons] at h;rw [insIt];split
  ·rename_i hxy
   exact List.pairwise_cons.2 ⟨fun b hb=>by
    rcases List.mem_cons.1 hb with rfl | hb
    ·exact hxy
    ·exact itLe_trans hxy (h.1 b hb),List.pairwise_cons.2 h⟩
  ·rename_i hxy;have hyx:itLe y x=true:=(itLe_total y x).resolve_right hxy;refine List.pairwise_cons.2 ⟨fun b hb=>?_,insIt_sorted x t h.2⟩
   rcases List.mem_cons.1 ((insIt_perm x t).mem_iff.1 hb) with rfl | hb
   ·exact hyx
   ·exact h.1 b hb
theorem sortIt_sorted:∀ l:List It,(sortIt l).Pairwise (fun a b=>itLe a b=true)
 | []=>List.Pairwise.nil
 | x::t=>insIt_sorted x _ (sortIt_sorted t)
theorem sortIt_unique {l l':List It} (hp:l'.Perm l) (hs:l'.Pairwise (fun a b=>itLe a b=true)):l'=sortIt l :=
 (hp.trans (sortIt_perm l).symm).eq_of_pairwise (fun a b _ _ h k=>itLe_anti h k) hs (sortIt_sorted l)

theorem insSet_perm (x:Nat):∀ l,(insSet x l).Perm (x::l)
 | []=>.refl _
 | y::t=>by
  rw [insSet];split
  ·exact .refl _
  ·exact ((insSet_perm x t).cons y).trans (.swap x y t)
theorem sortSet_perm:∀ l:List Nat,(l.foldr insSet []).Perm l
 | []=>.refl _
 | x::t=>(insSet_perm x _).trans ((sortSet_perm t).cons x)
theorem insSet_sorted (x:Nat):∀ l:List Nat,l.Pairwise (fun a b=>leastF a<=leastF b)->(insSet x l).Pairwise (fun a b=>leastF a<=leastF b)
 | [],_=>by simp [insSet]
 | y::t,h=>by
  rw [List.pairwise_cons] at h;rw [insSet];split
  ·rename_i hxy
   exact List.pairwise_cons.2 ⟨fun b hb=>by
    rcases List.mem_cons.1 hb with rfl | hb
    ·exact hxy
    ·exact Nat.le_trans hxy (h.1 b hb),List.pairwise_cons.2 h⟩
  ·rename_i hxy;refine List.pairwise_cons.2 ⟨fun b hb=>?_,insSet_sorted x t h.2⟩
   rcases List.mem_cons.1 ((insSet_perm x t).mem_iff.1 hb) with rfl | hb
   ·omega
   ·exact h.1 b hb
theorem sortSet_sorted:∀ l:List Nat,(l.foldr insSet []).Pairwise (fun a b=>leastF a<=leastF b)
 | []=>List.Pairwise.nil
 | x::t=>insSet_sorted x _ (sortSet_sorted t)

theorem insInt_perm (x:Int):∀ l,(insInt x l).Perm (x::l)
 | []=>.refl _
 | y::t=>by
  rw [insInt];split
  ·exact .refl _
  ·exact ((insInt_perm x t).cons y).trans (.swap x y t)
theorem sortInt_perm:∀ l:List Int,(l.foldr insInt []).Perm l
 | []=>.refl _
 | x::t=>(insInt_perm x _).trans ((sortInt_perm t).cons x)
theorem insInt_sorted (x:Int):∀ l:List Int,l.Pairwise (fun a b=>a<=b)->(insInt x l).Pairwise (fun a b=>a<=b)
 | [],_=>by simp [insInt]
 | y::t,h=>by
  rw [List.pairwise_cons] at h;rw [insInt];split
  ·rename_i hxy
   exact List.pairwise_cons.2 ⟨fun b hb=>by
    rcases List.mem_cons.1 hb with rfl | hb
    ·exact hxy
    ·exact Int.le_trans hxy (h.1 b hb),List.pairwise_cons.2 h⟩
  ·rename_i hxy;refine List.pairwise_cons.2 ⟨fun b hb=>?_,insInt_sorted x t h.2⟩
   rcases List.mem_cons.1 ((insInt_perm x t).mem_iff.1 hb) with rfl | hb
   ·omega
   ·exact h.1 b hb
theorem sortInt_sorted:∀ l:List Int,(l.foldr insInt []).Pairwise (fun a b=>a<=b)
 | []=>List.Pairwise.nil
 | x::t=>insInt_sorted x _ (sortInt_sorted t)
theorem sortInt_unique {l l':List Int} (hp:l'.Perm l) (hs:l'.Pairwise (fun a b=>a<=b)):l'=l.foldr insInt [] :=
 (hp.trans (sortInt_perm l).symm).eq_of_pairwise (fun a b _ _ h k=>by omega) hs (sortInt_sorted l)

/-! Parts: none is empty, no two share a bit. -/
/-- Parts that may be: below 2^256, none empty, pairwise apart. -/
def Parts (l:List Nat):Prop:=(∀ p∈l,p≠0 /\ p<2 ^ 256) /\ l.Pairwise (fun a b=>a &&& b=0)
theorem testBit_not (s i:Nat) (hs:s<2 ^ 256):(2 ^ 256 - 1 - s).testBit i=(decide (i<256)&&!s.testBit i):=by
 have h:2 ^ 256 - 1 - s=2 ^ 256 - (s+1):=by omega
 rw [h,Nat.testBit_two_pow_sub_succ hs]
theorem without_bit (p s i:Nat) (hs:s<2 ^ 256) (hp:p<2 ^ 256):(p &&& (2 ^ 256 - 1 - s)).testBit i=(p.testBit i&&!s.testBit i):=by
 rw [Nat.testBit_and,testBit_not s i hs]
 by_cases hi:i<256
 ·simp [hi]
 ·have:p.testBit i=false:=Nat.testBit_lt_two_pow (nL hp (Nat.pow_le_pow_right (by omega) (by omega)));simp [this]
theorem apart_iff (a b:Nat):a &&& b=0↔∀ i,¬ (a.testBit i=true /\ b.testBit i=true):=by
 constructor
 ·intro h i hi;have:=congrArg (fun n=>Nat.testBit n i) h;simp [hi.1,hi.2] at this
 ·intro h;apply Nat.eq_of_testBit_eq;intro i;have:=h i;simp only [Nat.testBit_and,Nat.zero_testBit]
  cases ha:a.testBit i <;> cases hb:b.testBit i <;> simp_all
def cutF (next:List Nat) (p s:Nat):List Nat:=[p &&& s,p &&& (2 ^ 256 - 1 - s)].foldl (fun next x=>if x=0∨x∈next then next else next++[x]) next
theorem splitStep_eq (parts:List Nat) (s:Nat):splitStep parts s=parts.foldl (fun next p=>cutF next p s) []:=rfl
def addF (next:List Nat) (x:Nat):List Nat:=if x=0∨x∈next then next else next++[x]
theorem cutF_eq (next:List Nat) (p s:Nat):cutF next p s=addF (addF next (p &&& s)) (p &&& (2 ^ 256 - 1 - s)):=rfl
theorem addF_parts {next:List Nat} {x:Nat} (h:Parts next) (hx:x<2 ^ 256) (ha:∀ y∈next,y &&& x=0):Parts (addF next x):=by
 unfold addF
 split
 ·exact h
 ·rename_i hn;simp only [not_or] at hn;refine ⟨fun p hp=>?_,List.pairwise_append.2 ⟨h.2,by simp,fun a ha' b hb=>?_⟩⟩
  ·rcases List.mem_append.1 hp with hp | hp
   ·exact h.1 p hp
   ·rw [List.mem_singleton] at hp;subst hp;exact ⟨hn.1,hx⟩
  ·rw [List.mem_singleton] at hb;subst hb;exact ha a ha'
theorem addF_mem {next:List Nat} {x y:Nat} (h:y∈addF next x):y∈next∨y=x:=by
 unfold addF at h
 split at h
 ·exact .inl h
 ·rcases List.mem_append.1 h with h | h
  ·exact .inl h
  ·exact .inr (List.mem_singleton.1 h)
theorem splitStep_parts {parts:List Nat} {s:Nat} (hs:s<2 ^ 256) (h:Parts parts):Parts (splitStep parts s):=by
 rw [splitStep_eq]
 suffices H:∀ (l next:List Nat),Parts l->Parts next->(∀ y∈next,∀ p∈l,y &&& p=0)->Parts (l.foldl (fun next p=>cutF next p s) next) from
  H parts [] h ⟨by simp,List.Pairwise.nil⟩ (by simp)
 intro l
 induction l with
 | nil=>intro next _ hn _;exact hn
 | cons p l ih =>
  intro next hl hn hx;rw [List.foldl_cons];have hp:=hl.1 p (by simp)
  have hpl:=List.pairwise_cons.1 hl.2;have e1:p &&& s<2 ^ 256:=Nat.lt_of_le_of_lt Nat.and_le_left hp.2;have e2:p &&& (2 ^ 256 - 1 - s)<2 ^ 256:=Nat.lt_of_le_of_lt Nat.and_le_left hp.2;have sub:∀ {y x t:Nat},y &&& p=0->y &&& (p &&& t)=0:=by
   intro y x t h;rw [apart_iff] at h ⊢;intro i hi;rw [Nat.testBit_and] at hi;exact h i ⟨hi.1,by simp at hi;exact hi.2.1⟩
  have n1:Parts (addF next (p &&& s)):=addF_parts hn e1 (fun y hy=>sub (x:=0) (hx y hy p (by simp)))
  have n2:Parts (cutF next p s):=by
   rw [cutF_eq];refine addF_parts n1 e2 (fun y hy=>?_)
   rcases addF_mem hy with hy | rfl
   ·exact sub (x:=0) (hx y hy p (by simp))
   ·rw [apart_iff];intro i hi;rw [without_bit p s i hs hp.2,Nat.testBit_and] at hi;simp at hi;rw [hi.1.2] at hi;simp at hi
  refine ih _ ⟨fun q hq=>hl.1 q (by simp [hq]),hpl.2⟩ n2 (fun y hy q hq=>?_);have hpq:=hpl.1 q hq;rw [cutF_eq] at hy
  rcases addF_mem hy with hy | rfl
  ·rcases addF_mem hy with hy | rfl
   ·exact hx y hy q (by simp [hq])
   ·rw [apart_iff] at hpq ⊢;intro i hi;rw [Nat.testBit_and] at hi;simp at hi;exact hpq i ⟨hi.1.1,hi.2⟩
  ·rw [apart_iff] at hpq ⊢;intro i hi;rw [without_bit p s i hs hp.2] at hi;simp at hi;exact hpq i ⟨hi.1.1,hi.2⟩
theorem full_parts:Parts [2 ^ 256 - 1]:=⟨by intro p hp;rw [List.mem_singleton] at hp;subst hp;exact ⟨by decide,by decide⟩,by simp⟩
theorem parts_all:∀ (l:List Nat) (parts:List Nat),(∀ s∈l,s<2 ^ 256)->Parts parts->Parts (l.foldl splitStep parts)
 | [],_,_,h=>h
 | s::l,parts,hl,h=>parts_all l _ (fun t ht=>hl t (by simp [ht])) (splitStep_parts (hl s (by simp)) h)
theorem exists_bit {M:Nat} (h0:M≠0) (h1:M<2 ^ 256):∃ b,b<256 /\ M.testBit b=true:=by
 obtain ⟨b,hb⟩:=Nat.exists_testBit_of_ne_zero h0;refine ⟨b,?_,hb⟩
 rcases Nat.lt_or_ge b 256 with h | h
 ·exact h
 ·rw [Nat.testBit_lt_two_pow (nL h1 (Nat.pow_le_pow_right (by omega) h))] at hb;cases hb
theorem leastF_bit {M:Nat} (h0:M≠0) (h1:M<2 ^ 256):M.testBit (leastF M)=true:=by
 obtain ⟨b,hb,hbit⟩:=exists_bit h0 h1;unfold leastF
 cases hf:(List.range 256).find? (fun b=>M.testBit b) with
 | some x=>exact List.find?_some hf
 | none=>exact absurd hbit (List.find?_eq_none.1 hf b (by simp;omega))
theorem leastF_inj {a b:Nat} {l:List Nat} (h:Parts l) (ha:a∈l) (hb:b∈l) (e:leastF a=leastF b):a=b:=by
 have h1:=leastF_bit (h.1 a ha).1 (h.1 a ha).2;have h2:=leastF_bit (h.1 b hb).1 (h.1 b hb).2;rw [e] at h1
 rcases Classical.em (a=b) with hab | hab
 ·exact hab
 ·obtain ⟨i,hi,rfl⟩:=List.getElem_of_mem ha;obtain ⟨j,hj,rfl⟩:=List.getElem_of_mem hb;have hp:=List.pairwise_iff_getElem.1 h.2
  rcases Nat.lt_trichotomy i j with hij | rfl | hij
  ·exact absurd ⟨h1,h2⟩ ((apart_iff _ _).1 (hp i j hi hj hij) _)
  ·exact absurd rfl hab
  ·exact absurd ⟨h2,h1⟩ ((apart_iff _ _).1 (hp j i hj hi hij) _)
theorem sortSet_unique {l l':List Nat} (h:Parts l) (hp:l'.Perm l) (hs:l'.Pairwise (fun a b=>leastF a<=leastF b)):l'=l.foldr insSet [] :=
 (hp.trans (sortSet_perm l).symm).eq_of_pairwise (fun a b ha hb h1 h2=>leastF_inj h (hp.mem_iff.1 ha) ((sortSet_perm l).mem_iff.1 hb) (Nat.le_antisymm h1 h2)) hs (sortSet_sorted l)
end Go.Proofs.YthiochcpmfkgcaaGreatDoor.Tb
namespace Go.Proofs.YthiochcpmfkgcaaGreatDoor.Tb
theorem nodup_le {α:Type} [DecidableEq α]:∀ (a b:List α),a.Nodup->(∀ x∈a,x∈b)->a.length<=b.length
 | [],b,_,_=>Nat.zero_le _
 | x::a,b,hn,h=>by
  rw [List.nodup_cons] at hn;have hx:x∈b:=h x (by simp)
  have:=nodup_le a (b.erase x) hn.2 (fun y hy=>by
   have hne:y≠x:=fun e=>hn.1 (e ▸ hy);exact (List.mem_erase_of_ne hne).2 (h y (by simp [hy])))
  rw [List.length_erase_of_mem hx] at this;have:0<b.length:=List.length_pos_of_mem hx;simp;omega
theorem numberF_some {all all':List (List It)} {l:List It} {n:Nat} (h:numberF all l=some (n,all')) (hn:all.Nodup) (hl:all.length<=16384) :
  all'.Nodup /\ all'.length<=16384 /\ l∈all' /\ (∃ t,all'=all++t) /\ (∀ x∈all',x∈all∨x=l):=by
 unfold numberF at h
 cases hf:all.findIdx? (·==l) with
 | some k =>
  rw [hf] at h;simp at h;obtain ⟨rfl,rfl⟩:=h;obtain ⟨hk,hp,_⟩:=List.findIdx?_eq_some_iff_getElem.1 hf;have hm:l∈all:=by
   have:all[k]=l:=by simpa using hp
   rw [<- this];exact List.getElem_mem hk
  exact ⟨hn,hl,hm,⟨[],by simp⟩,fun x hx=>.inl hx⟩
 | none =>
  rw [hf] at h;dsimp only at h;have hnot:l ∉ all:=by
   intro hm;have:=List.findIdx?_eq_none_iff.1 hf l hm;simp at this
  split at h
  ·cases h
  ·rename_i hlt;injection h with h;injection h with h1 h2;subst h2;refine ⟨?_,by simp;omega,by simp,⟨[l],rfl⟩,fun x hx=>by simpa using hx⟩
   rw [List.nodup_append];exact ⟨hn,by simp,fun a ha b hb=>by simp at hb;subst hb;exact fun e=>hnot (e ▸ ha)⟩
theorem numbersF_some:∀ (L:List (Sy × List It)) (all all':List (List It)) (e:List (Sy × Nat)),numbersF all L=some (e,all')->all.Nodup->all.length<=16384 ->
  all'.Nodup /\ all'.length<=16384 /\ (∀ q∈L,q.2∈all') /\ (∃ t,all'=all++t) /\ (∀ x∈all',x∈all∨∃ q∈L,x=q.2)
 | [],all,all',e,h,hn,hl=>by
  simp [numbersF] at h;obtain ⟨_,rfl⟩:=h;exact ⟨hn,hl,(fun q hq=>by cases hq),⟨[],by simp⟩,fun x hx=>.inl hx⟩
 | (s,l)::L,all,all',e,h,hn,hl=>by
  rw [numbersF] at h
  cases h1:numberF all l with
  | none=>rw [h1] at h;cases h
  | some r =>
   obtain ⟨k,a1⟩:=r;rw [h1] at h;dsimp only at h
   cases h2:numbersF a1 L with
   | none=>rw [h2] at h;cases h
   | some r =>
    obtain ⟨e2,a2⟩:=r;rw [h2] at h;simp at h;obtain ⟨_,rfl⟩:=h;obtain ⟨n1,l1,m1,⟨t1,p1⟩,s1⟩:=numberF_some h1 hn hl;obtain ⟨n2,l2,m2,⟨t2,p2⟩,s2⟩:=numbersF_some L a1 a2 e2 h2 n1 l1;refine ⟨n2,l2,?_,⟨t1++t2,by rw [p2,p1,List.append_assoc]⟩,?_⟩
    ·intro q hq
     rcases List.mem_cons.1 hq with rfl | hq
     ·rw [p2];exact List.mem_append_left _ m1
     ·exact m2 q hq
    ·intro x hx
     rcases s2 x hx with h | ⟨q,hq,rfl⟩
     ·rcases s1 x h with h | rfl
      ·exact .inl h
      ·exact .inr ⟨(s,x),by simp,rfl⟩
     ·exact .inr ⟨q,by simp [hq],rfl⟩
end Go.Proofs.YthiochcpmfkgcaaGreatDoor.Tb
namespace Go.Proofs.YthiochcpmfkgcaaGreatDoor.Tb
def fresh (g:Gr) (seen:List Int):Nat:=g.prods.countP (fun p=>decide (p.left ∉ seen))
theorem range_filter_len {α:Type} (f:α->Bool):∀ l:List α,((List.range l.length).filter (fun i=>match l[i]? with | some p=>f p | none=>false)).length=l.countP f
 | []=>rfl
 | x::l=>by
  rw [List.length_cons,List.range_succ_eq_map,List.filter_cons,List.filter_map,List.countP_cons,<- range_filter_len f l];have e:((fun i=>match (x::l)[i]? with | some p=>f p | none=>false) ∘ Nat.succ)=(fun i=>match l[i]? with | some p=>f p | none=>false):=by
   funext i;simp
  rw [e]
  cases hx:f x <;> simp [hx]
theorem ofS_len (g:Gr) (s:Int):(ofS g s).length=g.prods.countP (fun p=>p.left==s&&p.role != 11):=by
 rw [<- range_filter_len];unfold ofS;congr 1;apply List.filter_congr;intro i _
 cases g.prods[i]? <;> rfl
theorem countP_split {α:Type} (f a b:α->Bool) (hd:∀ x,a x=true->f x=true) (hb:∀ x,b x=true->f x=true) (hn:∀ x,¬ (a x=true /\ b x=true)):∀ l:List α,l.countP a+l.countP b<=l.countP f
 | []=>by simp
 | x::l=>by
  have:=countP_split f a b hd hb hn l;have h1:=hd x;have h2:=hb x;have h3:=hn x;rw [List.countP_cons,List.countP_cons,List.countP_cons]
  cases ha:a x <;> cases hbx:b x <;> simp_all <;> omega
theorem fresh_step (g:Gr) (s:Int) (seen:List Int) (hs:s ∉ seen):(ofS g s).length+fresh g (s::seen)<=fresh g seen:=by
 rw [ofS_len];refine countP_split _ _ _ (fun p hp=>?_) (fun p hp=>?_) (fun p hp=>?_) g.prods
 ·simp at hp ⊢;rw [hp.1];exact hs
 ·simp at hp ⊢;exact hp.2
 ·simp at hp;exact absurd hp.1.1 hp.2.1
theorem fresh_le (g:Gr) (seen:List Int):fresh g seen<=g.prods.length:=List.countP_le_length
theorem ofS_mem {g:Gr} {s:Int} {n:Nat} (h:n∈ofS g s):∃ p,g.prods[n]?=some p /\ p.left=s /\ p.role≠11:=by
 unfold ofS at h;rw [List.mem_filter] at h
 cases hp:g.prods[n]? with
 | none=>rw [hp] at h;simp at h
 | some p=>rw [hp] at h;simp at h;exact ⟨p,rfl,h.2⟩
theorem itemOk_iff (g:Gr) (x:It):itemOk g x=true↔x.1<g.prods.length /\ x.2<=(rightOf g x.1).length:=by simp [itemOk]
theorem itemOk_new {g:Gr} {s:Int} {n:Nat} (h:n∈ofS g s):itemOk g (n,0)=true:=by
 obtain ⟨p,hp,_⟩:=ofS_mem h;rw [itemOk_iff];exact ⟨(gS.1 hp).1,Nat.zero_le _⟩
def closeSeen (g:Gr) (seen:List Int) (x:It):List Int:=match aheadF g x with | some s=>if s.kind=1 /\ s.sort ∉ seen then s.sort::seen else seen | none=>seen
def closeOut (g:Gr) (seen:List Int) (out:List It) (x:It):List It:=match aheadF g x with | some s=>if s.kind=1 /\ s.sort ∉ seen then out++(ofS g s.sort).map (·,0) else out | none=>out
theorem closeGo_step (g:Gr) (f i:Nat) (seen:List Int) (out:List It) (x:It) (h:out[i]?=some x):closeGo g (f+1) i seen out=closeGo g f (i+1) (closeSeen g seen x) (closeOut g seen out x):=by
 rw [closeGo,h];show (match aheadF g x with | none=>closeGo g f (i+1) seen out | some s=>if s.kind=1 then if s.sort∈seen then closeGo g f (i+1) seen out else closeGo g f (i+1) (s.sort::seen) (out++(ofS g s.sort).map (·,0)) else closeGo g f (i+1) seen out)=_;unfold closeSeen closeOut
 cases hx:aheadF g x with
 | none=>rfl
 | some s =>
  by_cases h1:s.kind=1
  ·by_cases h2:s.sort∈seen
   ·simp [h1,h2]
   ·simp [h1,h2]
  ·simp [h1]
structure CloseAt (g:Gr) (l:List It) (i:Nat) (seen:List Int) (out:List It):Prop where
 go:closedF g l=compactIt (sortIt (closeGo g (l.length+g.prods.length+1 - i) i seen out))
 fits:out.length+fresh g seen<=l.length+g.prods.length
 le:i<=out.length
 ok:∀ x∈out,itemOk g x=true
theorem CloseAt.start {g:Gr} {l:List It} (h:∀ x∈l,itemOk g x=true):CloseAt g l 0 [] l :=
 ⟨rfl,by have:=fresh_le g [];omega,Nat.zero_le _,h⟩
theorem CloseAt.step {g:Gr} {l:List It} {i:Nat} {seen:List Int} {out:List It} (h:CloseAt g l i seen out) {x:It} (hx:out[i]?=some x):CloseAt g l (i+1) (closeSeen g seen x) (closeOut g seen out x):=by
 have hi:=(gS.1 hx).1;have hf:=h.fits;refine ⟨?_,?_,?_,?_⟩
 ·rw [h.go,show l.length+g.prods.length+1 - i=(l.length+g.prods.length+1 - (i+1))+1 by omega,closeGo_step _ _ _ _ _ _ hx]
 ·unfold closeSeen closeOut
  cases hs:aheadF g x with
  | none=>exact hf
  | some s =>
   by_cases h1:s.kind=1 /\ s.sort ∉ seen
   ·simp only [h1,not_false_eq_true,and_self,if_true,List.length_append,List.length_map];have:=fresh_step g s.sort seen h1.2;omega
   ·simp only [h1,if_false];exact hf
 ·unfold closeOut
  cases hs:aheadF g x with
  | none=>exact hi
  | some s =>
   by_cases h1:s.kind=1 /\ s.sort ∉ seen
   ·simp only [h1,not_false_eq_true,and_self,if_true,List.length_append];omega
   ·simp only [h1,if_false];exact hi
 ·unfold closeOut
  cases hs:aheadF g x with
  | none=>exact h.ok
  | some s =>
   by_cases h1:s.kind=1 /\ s.sort ∉ seen
   ·simp only [h1,not_false_eq_true,and_self,if_true];intro y hy
    rcases List.mem_append.1 hy with hy | hy
    ·exact h.ok y hy
    ·obtain ⟨n,hn,rfl⟩:=List.mem_map.1 hy;exact itemOk_new hn
   ·simp only [h1,if_false];exact h.ok
theorem CloseAt.done {g:Gr} {l:List It} {i:Nat} {seen:List Int} {out:List It} (h:CloseAt g l i seen out) (he:i=out.length):closedF g l=compactIt (sortIt out):=by
 rw [h.go,closeGo_end _ _ _ _ _ (by omega)]

theorem CloseAt.last {g:Gr} {l:List It}:∀ (m i:Nat) (seen:List Int) (out:List It),CloseAt g l i seen out->l.length+g.prods.length - i<=m->∃ seen' out',CloseAt g l out'.length seen' out'
 | m,i,seen,out,h,hm=>by
  have hf:=h.fits;have hle:=h.le
  rcases Nat.lt_or_ge i out.length with hi | hi
  ·have hx:out[i]?=some out[i]:=gE hi;have h2:=h.step hx
   match m,hm with
   | 0,hm=>omega
   | m+1,hm=>exact CloseAt.last m (i+1) _ _ h2 (by omega)
  ·obtain rfl:i=out.length:=by omega
   exact ⟨seen,out,h⟩
/-! 'compact'. -/
theorem compactIt_len:∀ l:List It,(compactIt l).length<=l.length
  | []=>nR _
  | [x]=>nR _
  | x::y::t=>by
    rw [compactIt_cons]
    split
    · have:=compactIt_len (y::t);simp at this ⊢;omega
    · have:=compactIt_len (y::t);simp at this ⊢;omega
theorem compactIt_mem:∀ (l:List It) (x:It),x∈compactIt l->x∈l
 | [],x,h=>h
 | [y],x,h=>h
 | y::z::t,x,h=>by
  rw [compactIt_cons] at h
  split at h
  ·exact List.mem_cons_of_mem _ (compactIt_mem (z::t) x h)
  ·rcases List.mem_cons.1 h with rfl | h
   ·simp
   ·exact List.mem_cons_of_mem _ (compactIt_mem (z::t) x h)
theorem compactIt_snoc:∀ (l:List It) (y x:It),compactIt (l++[y]++[x])=if y=x then compactIt (l++[y]) else compactIt (l++[y])++[x]
 | [],y,x=>by
  show compactIt (y::x::[])=_;rw [compactIt_cons]
  by_cases h:y=x
  ·subst h;simp [compactIt]
  ·simp [h,compactIt]
 | [a],y,x=>by
  have ih:=compactIt_snoc [] y x;show compactIt (a::y::[x])=_;rw [compactIt_cons];have ih':compactIt (y::[x])=if y=x then compactIt [y] else compactIt [y]++[x]:=ih;rw [ih']
  show _=if y=x then compactIt (a::y::[]) else compactIt (a::y::[])++[x]
  rw [compactIt_cons]
  by_cases h:y=x <;> by_cases h2:a=y <;> simp [h,h2]
 | a::b::l,y,x=>by
  have ih:=compactIt_snoc (b::l) y x;simp only [List.cons_append] at ih ⊢;rw [compactIt_cons,compactIt_cons,ih]
  by_cases h:y=x <;> by_cases h2:a=b <;> simp [h,h2]
theorem take_two (l:List It) (i:Nat) (h:i+1<l.length):l.take (i+2)=l.take i++[l[i]]++[l[i+1]]:=by
 rw [show i+2=(i+1)+1 by omega,List.take_succ_eq_append_getElem (by omega),List.take_succ_eq_append_getElem (by omega)]
theorem compactIt_take (l:List It) (i:Nat) (h:i+1<l.length):compactIt (l.take (i+2))=if l[i]=l[i+1] then compactIt (l.take (i+1)) else compactIt (l.take (i+1))++[l[i+1]]:=by
 rw [take_two l i h,compactIt_snoc,List.take_succ_eq_append_getElem (by omega)]
theorem closedF_fits {g:Gr} {l:List It} (h:∀ x∈l,itemOk g x=true):(closedF g l).length<=l.length+g.prods.length /\ ∀ x∈closedF g l,itemOk g x=true:=by
 obtain ⟨seen,out,hC⟩:=CloseAt.last _ _ _ _ (CloseAt.start h) (nR _);rw [hC.done rfl];have hf:=hC.fits;have h1:=compactIt_len (sortIt out);have h2:=(sortIt_perm out).length_eq;refine ⟨by omega,fun x hx=>hC.ok x ?_⟩;exact (sortIt_perm out).subset (compactIt_mem _ _ hx)
end Go.Proofs.YthiochcpmfkgcaaGreatDoor.Tb
namespace Go.Proofs.YthiochcpmfkgcaaGreatDoor.Gl
open Tb
def tailK (t:Nat):List Nat->List UInt8
 | []=>47::Lib.decDigits t
 | c::l=>32::(Lib.decDigits c++tailK t l)
def keyA (a:Al):List UInt8:=Lib.decDigits a.prod++32::(Lib.decDigits a.src++tailK a.til a.cuts)
theorem tail_head (t:Nat) (l:List Nat):∃ c T,tailK t l=c::T /\ dgt c=false:=by
 cases l with
 | nil=>exact ⟨47,_,rfl,by decide⟩
 | cons c l=>exact ⟨32,_,rfl,by decide⟩
theorem part_two {D E X Y:List UInt8} (hD:D.all dgt=true) (hE:E.all dgt=true) (hX:∃ c T,X=c::T /\ dgt c=false) (hY:∃ c T,Y=c::T /\ dgt c=false) (h:D++X=E++Y):D=E /\ X=Y:=by
 obtain ⟨c,T,rfl,hc⟩:=hX;obtain ⟨d,U,rfl,hd⟩:=hY;have h1:D=E:=by
  have:=congrArg (List.takeWhile dgt) h
  rwa [take_dgt D c T hD hc,take_dgt E d U hE hd] at this
 subst h1;exact ⟨rfl,List.append_cancel_left h⟩
theorem tail_inj {t t':Nat}:∀ {l k:List Nat},tailK t l=tailK t' k->l=k /\ t=t'
 | [],[],h=>by
  injection h with _ h;exact ⟨rfl,dec_inj h⟩
 | [],_::_,h=>by injection h with h _;exact absurd h (by decide)
 | _::_,[],h=>by injection h with h _;exact absurd h (by decide)
 | c::l,d::k,h=>by
  injection h with _ h;obtain ⟨h1,h2⟩:=part_two (dec_told c).1 (dec_told d).1 (tail_head _ _) (tail_head _ _) h;obtain ⟨h3,h4⟩:=tail_inj h2;exact ⟨by rw [dec_inj h1,h3],h4⟩
theorem keyA_inj {a b:Al} (h:keyA a=keyA b):a=b:=by
 unfold keyA at h;obtain ⟨h1,h2⟩:=part_dgt (dec_told a.prod).1 (dec_told b.prod).1 (by decide) h;obtain ⟨h3,h4⟩:=part_two (dec_told a.src).1 (dec_told b.src).1 (tail_head _ _) (tail_head _ _) h2;obtain ⟨h5,h6⟩:=tail_inj h4;obtain ⟨p,s,t,c⟩:=a;obtain ⟨p',s',t',c'⟩:=b;simp only at h1 h3 h5 h6;rw [dec_inj h1,dec_inj h3,h5,h6]
def headK (a:Al) (n:Nat):List UInt8:=Lib.decDigits a.prod++32::(Lib.decDigits a.src++(a.cuts.take n).flatMap fun c=>32::Lib.decDigits c)
theorem tailK_eq (t:Nat):∀ l:List Nat,tailK t l=(l.flatMap fun c=>32::Lib.decDigits c)++47::Lib.decDigits t
 | []=>rfl
 | c::l=>by rw [tailK,tailK_eq t l,List.flatMap_cons];simp
theorem headK_all (a:Al):headK a a.cuts.length++47::Lib.decDigits a.til=keyA a:=by
 unfold headK keyA;rw [List.take_length,tailK_eq];simp
theorem headK_succ (a:Al) (n:Nat) (c:Nat) (h:a.cuts[n]?=some c):headK a (n+1)=headK a n++32::Lib.decDigits c:=by
 unfold headK;rw [List.take_add_one,h];simp
theorem headK_zero (a:Al):headK a 0=Lib.decDigits a.prod++32::Lib.decDigits a.src:=by simp [headK]
end Go.Proofs.YthiochcpmfkgcaaGreatDoor.Gl
namespace Go.Proofs.YthiochcpmfkgcaaGreatDoor.Tb
open Go Go.RowKit Go.Proofs Mx
def encIt (x:It):List Value:=[.int .i64 x.1,.int .i64 x.2]
theorem encIt_len (x:It):(encIt x).length=2:=rfl
theorem encIt_one (x:It):∀ v∈encIt x,v.oneCell'=true:=by intro v hv;simp [encIt] at hv;rcases hv with rfl | rfl <;> rfl
def wd (M j:Nat):Int:=((M / 2 ^ (64 * j) % 18446744073709551616:Nat):Int)
def setV (M:Nat):Value:=.agg #[.int .u64 (wd M 0),.int .u64 (wd M 1),.int .u64 (wd M 2),.int .u64 (wd M 3)]
def setC (M:Nat):Array Value:=#[.int .u64 (wd M 0),.int .u64 (wd M 1),.int .u64 (wd M 2),.int .u64 (wd M 3)]
def encSet (M:Nat):List Value:=[.int .u64 (wd M 0),.int .u64 (wd M 1),.int .u64 (wd M 2),.int .u64 (wd M 3)]
theorem encSet_len (M:Nat):(encSet M).length=4:=rfl
def encSy (s:Sy):List Value:=[.int .i64 s.kind,.int .u64 (wd s.set 0),.int .u64 (wd s.set 1),.int .u64 (wd s.set 2),.int .u64 (wd s.set 3),.int .i64 s.sort]
theorem encSy_len (s:Sy):(encSy s).length=6:=rfl
def encPr (x:Value × Pr):List Value:=[.int .i64 x.2.left,x.1,.string ⟨x.2.cons.toArray⟩,.int .i64 x.2.role,.bool x.2.prefer,.bool x.2.avoid,.int .i64 x.2.made]
theorem encPr_len (x:Value × Pr):(encPr x).length=7:=rfl
structure ProdsL (D:Nat->Prop) (w:World) (v:Value) (l:List (Value × Pr)):Prop where
 row:SliceK D encPr 7 w v l
 right:∀ x∈l,SliceK D encSy 6 w x.1 x.2.right
def ProdsAt (D:Nat->Prop) (w:World) (v:Value) (ps:List Pr):Prop:=∃ l,ProdsL D w v l /\ l.map (·.2)=ps
def encN (n:Nat):List Value:=[.int .i64 n]
theorem encN_len (n:Nat):(encN n).length=1:=rfl
def encOf (x:Value × List Nat):List Value:=[x.1]
structure OfL (D:Nat->Prop) (w:World) (v:Value) (l:List (Value × List Nat)):Prop where
 row:SliceK D encOf 1 w v l
 each:∀ x∈l,SliceK D encN 1 w x.1 x.2
def OfAt (D:Nat->Prop) (w:World) (v:Value) (g:Gr):Prop:=∃ l,OfL D w v l /\ l.length=g.sorts.length /\ ∀ (s:Nat) (x:Value × List Nat),l[s]?=some x->x.2=ofS g (s:Int)
structure MkR (D:Nat->Prop) (w:World) (mb:Nat) (g:Gr):Prop where
 lt:mb<w.heap.size
 prods:∃ vp,w.cell? ⟨mb,1,none⟩=some vp /\ ProdsAt D w vp g.prods
 of:∃ vo,w.cell? ⟨mb,5,none⟩=some vo /\ OfAt D w vo g
structure Good (g:Gr):Prop where
 prods:g.prods.length<=100
 sorts:g.sorts.length<=1000
 start:0<=g.start /\ g.start<g.sorts.length
 left:∀ p∈g.prods,0<=p.left /\ p.left<g.sorts.length
 right:∀ p∈g.prods,p.right.length<=30
 sym:∀ p∈g.prods,∀ s∈p.right,(s.kind=0 /\ s.sort=0 /\ s.set≠0 /\ s.set<2 ^ 256)∨(s.kind=1 /\ s.set=0 /\ 0<=s.sort /\ s.sort<g.sorts.length)
theorem compactIt_nodup:∀ l:List It,l.Pairwise (fun a b=>itLe a b=true)->(compactIt l).Nodup
 | [],_=>List.nodup_nil
 | [x],_=>by simp [compactIt]
 | x::y::t,h=>by
  rw [compactIt_cons];obtain ⟨h1,h2⟩:=List.pairwise_cons.1 h;have ih:=compactIt_nodup (y::t) h2
  by_cases e:x=y
  ·rw [if_pos e];exact ih
  ·rw [if_neg e];refine List.nodup_cons.2 ⟨fun hm=>?_,ih⟩;have hm2:=compactIt_mem _ _ hm
   rcases List.mem_cons.1 hm2 with h3 | h3
   ·exact e h3
   ·exact e (itLe_anti (h1 y (by simp)) ((List.pairwise_cons.1 h2).1 x h3))
theorem closedF_small {g:Gr} (hg:Good g) {l:List It} (h:∀ x∈l,itemOk g x=true):(closedF g l).length<=3100:=by
 have h1:(closedF g l).Nodup:=compactIt_nodup _ (sortIt_sorted _);have h2:=nodup_le (closedF g l) ((List.range 100).flatMap fun n=>(List.range 31).map fun d=>(n,d)) h1 (fun x hx=>by
  have hok:=(itemOk_iff g x).1 ((closedF_fits h).2 x hx);have h3:(rightOf g x.1).length<=30:=by
   unfold rightOf;rw [gE hok.1];exact hg.right _ (List.getElem_mem _)
  have h4:=hg.prods;rw [List.mem_flatMap];exact ⟨x.1,by simp;omega,by rw [List.mem_map];exact ⟨x.2,by simp;omega,rfl⟩⟩)
 refine Nat.le_trans h2 ?_
 decide +kernel
section
variable {D D':Nat → Prop} {w w':World} {v:Value} {mb:Nat} {g:Gr}
theorem ProdsL.keep {l:List (Value × Pr)} (h:ProdsL D w v l) (hD:∀ g,D g->g<w.heap.size->D' g /\ w'.heap[g]?=w.heap[g]?):ProdsL D' w' v l :=
 ⟨h.row.keep hD,fun x hx=>(h.right x hx).keep hD⟩
theorem OfL.keep {l:List (Value × List Nat)} (h:OfL D w v l) (hD:∀ g,D g->g<w.heap.size->D' g /\ w'.heap[g]?=w.heap[g]?):OfL D' w' v l :=
 ⟨h.row.keep hD,fun x hx=>(h.each x hx).keep hD⟩
theorem ProdsAt.keep {ps:List Pr} (h:ProdsAt D w v ps) (hD:∀ g,D g->g<w.heap.size->D' g /\ w'.heap[g]?=w.heap[g]?):ProdsAt D' w' v ps:=by
 obtain ⟨l,hl,e⟩:=h;exact ⟨l,hl.keep hD,e⟩
theorem OfAt.keep (h:OfAt D w v g) (hD:∀ g,D g->g<w.heap.size->D' g /\ w'.heap[g]?=w.heap[g]?):OfAt D' w' v g:=by
 obtain ⟨l,hl,e⟩:=h;exact ⟨l,hl.keep hD,e⟩
theorem MkR.keep (h:MkR D w mb g) (hD:∀ g,D g->g<w.heap.size->D' g /\ w'.heap[g]?=w.heap[g]?) (hm:w'.heap.size ≥ w.heap.size) (h1:w'.cell? ⟨mb,1,none⟩=w.cell? ⟨mb,1,none⟩) (h5:w'.cell? ⟨mb,5,none⟩=w.cell? ⟨mb,5,none⟩):MkR D' w' mb g:=by
 obtain ⟨hl,⟨vp,p1,p2⟩,⟨vo,o1,o2⟩⟩:=h;exact ⟨nL hl hm,⟨vp,h1.trans p1,p2.keep hD⟩,⟨vo,h5.trans o1,o2.keep hD⟩⟩
theorem MkR.below (h:MkR D w mb g) (hb:Below w.heap.size w w'):MkR D w' mb g :=
 h.keep (fun g hg hl=>⟨hg,hb.block g hl⟩) hb.size (wB (hb.block mb h.lt)) (wB (hb.block mb h.lt))
theorem MkR.prod (h:MkR D w mb g) {n:Nat} {p:Pr} (hp:g.prods[n]?=some p):∃ a cap b o vr,w.cell? ⟨mb,1,none⟩=some (.slice (some ⟨b,o,none⟩) g.prods.length cap) /\ a=b /\ SliceK D encSy 6 w vr p.right /\
  (∀ j u,(encPr (vr,p))[j]?=some u->w.cell? ⟨b,o+n * 7+j,none⟩=some u):=by
 obtain ⟨vp,p1,l,hl,e⟩:=h.prods;have hlen:l.length=g.prods.length:=by rw [<- e];simp
 have hn:=(gS.1 hp).1;have hx:∃ vr,l[n]?=some (vr,p):=by
  rw [<- e,List.getElem?_map] at hp
  cases hq:l[n]? with
  | none=>rw [hq] at hp;simp at hp
  | some q=>rw [hq] at hp;simp at hp;exact ⟨q.1,by rw [<- hp]⟩
 obtain ⟨vr,hx⟩:=hx;obtain ⟨a,cap,rfl,hc1,hc2,hK⟩:=hl.row;obtain ⟨b,o,rfl,hDb,hr⟩:=hK (by rintro rfl;simp at hx);rw [hlen] at p1;exact ⟨b,cap,b,o,vr,p1,rfl,hl.right _ (gM hx),fun j u hu=>hr.cells n _ hx j u hu⟩
end
end Go.Proofs.YthiochcpmfkgcaaGreatDoor.Tb
namespace Go.Proofs.YthiochcpmfkgcaaGreatDoor.Mx
open Go Go.RowKit Go.Maps

def asIs (v:Value):Option (DataW Value × List MemPlace):=some (.held v,[])
def MapV (P:Program) (k:TypeId) (w:World) (b n:Nat) (f:Lit->Option Value):Prop :=
 ∃ D:DataW Value,w.ownsMap P k asIs b n D /\ ∀ l,(∃ v,keyOf P k v=some l)->Maps.has D l=(f l).isSome /\ ∀ z,D.atKey l (.held z)=.held ((f l).getD z)
section
variable {P:Program} {k:TypeId} {w w':World} {b n:Nat} {f:Lit → Option Value}
theorem MapV.made (w:World) (P:Program) (k:TypeId):MapV P k (w.alloc (.map #[] 0)) w.heap.size 0 (fun _=>none) :=
 ⟨.map [],World.ownsMap_made w P k asIs,fun l _=>⟨rfl,fun z=>rfl⟩⟩
theorem MapV.of_block (h:MapV P k w b n f) (e:w'.heap[b]?=w.heap[b]?):MapV P k w' b n f:=by
 obtain ⟨D,⟨es,clock,hb,F,hs,hD⟩,hf⟩:=h;exact ⟨D,⟨es,clock,e.trans hb,F,hs,hD⟩,hf⟩
theorem MapV.lt (h:MapV P k w b n f):b<w.heap.size:=by obtain ⟨D,hD,_⟩:=h;exact hD.lt
theorem MapV.mono (h:MapV P k w b n f) {m:Nat} (hm:n<=m):MapV P k w b m f:=by obtain ⟨D,hD,hf⟩:=h;exact ⟨D,hD.mono hm,hf⟩
theorem MapV.alloc (h:MapV P k w b n f) (o:Obj):MapV P k (w.alloc o) b n f:=h.of_block (Below.heap_alloc w o b h.lt)
theorem MapV.drew (h:MapV P k w b n f):MapV P k w.drew b n f:=h
theorem MapV.drewN (h:MapV P k w b n f) (m:Nat):MapV P k (w.drewN m) b n f:=h
theorem MapV.below {B:Nat} (h:MapV P k w b n f) (hb:Below B w w') (hB:b<B):MapV P k w' b n f:=h.of_block (hb.block b hB)
theorem MapV.grown {row:Option Nat} (h:MapV P k w b n f) (hb:w.grownBy w' row) (hne:some b≠row):MapV P k w' b n f:=h.of_block (hb.block b h.lt hne)
theorem MapV.setCell (h:MapV P k w b n f) {p:Addr} (hp:b≠p.block) (u:Value):MapV P k (w.setCell p u) b n f:=h.of_block (Below.heap_setCell w p u b hp)
theorem asIs_inv {v:Value} {d:DataW Value} {ps:List MemPlace} (h:asIs v=some (d,ps)):d=.held v:=by
 simp [asIs] at h;exact h.1.symm

theorem MapV.lookup {t e:TypeId} (h:MapV P k w b n f) (K:Keyed P k) (ht:P.underlying t=some (.map k e)) {z:Value} (hz:(zeroValue e).run P w=.ok z w)
  {key:Value} {kl:Lit} (hkey:keyOf P k key=some kl):(Instr.lookup t (.map (some b)) key false).run P w=.ok ((f kl).getD z) w:=by
 obtain ⟨D,hD,hf⟩:=h;obtain ⟨v,ps,hrun,hv⟩:=hD.lookup K ht hz (zd:=.held z) (zp:=[]) rfl hkey;have h1:=asIs_inv hv;rw [(hf kl ⟨key,hkey⟩).2 z] at h1;injection h1 with h1;rw [h1];exact hrun
theorem MapV.look_ok {t e:TypeId} (h:MapV P k w b n f) (K:Keyed P k) (ht:P.underlying t=some (.map k e)) {z:Value} (hz:(zeroValue e).run P w=.ok z w)
  {key:Value} {kl:Lit} (hkey:keyOf P k key=some kl):(Instr.lookup t (.map (some b)) key true).run P w=.ok (.tuple #[(f kl).getD z,.bool (f kl).isSome]) w:=by
 obtain ⟨D,hD,hf⟩:=h;obtain ⟨v,ps,hrun,hv⟩:=hD.look_ok K ht hz (zd:=.held z) (zp:=[]) rfl hkey;have h1:=asIs_inv hv;rw [(hf kl ⟨key,hkey⟩).2 z] at h1;injection h1 with h1;rw [h1,<- (hf kl ⟨key,hkey⟩).1];exact hrun
def putV (f:Lit->Option Value) (kl:Lit) (v:Value):Lit->Option Value:=fun l=>if l.sameKey kl then some v else f l
theorem putV_same (f:Lit->Option Value) {kl:Lit} (v:Value) (hk:WideAt.IsKeyLit kl):putV f kl v kl=some v:=by simp [putV,WideAt.sameKey_self hk]
theorem putV_other (f:Lit->Option Value) {kl l:Lit} (v:Value) (h:l≠kl):putV f kl v l=f l:=by simp [putV,Maps.sameKey_ne h]
theorem putV_int (f:Lit->Option Value) (q:IntKind) (a b:Int) (v:Value):putV f (.int q a) v (.int q b)=if b=a then some v else f (.int q b):=by simp [putV,Lit.sameKey]
theorem putV_string (f:Lit->Option Value) (a b:List UInt8) (v:Value):putV f (.string a) v (.string b)=if b=a then some v else f (.string b):=by simp [putV,Lit.sameKey]
theorem MapV.put {D:DataW Value} (hm:IsMap D) (K:Keyed P k) {kl:Lit} {key:Value} (hkey:keyOf P k key=some kl) (v:Value)
  (hf:∀ l,(∃ v,keyOf P k v=some l)->Maps.has D l=(f l).isSome /\ ∀ z,D.atKey l (.held z)=.held ((f l).getD z)) :
  ∀ l,(∃ v,keyOf P k v=some l)->Maps.has (D.put kl (.held v)) l=(putV f kl v l).isSome /\ ∀ z,(D.put kl (.held v)).atKey l (.held z)=.held ((putV f kl v l).getD z):=by
 intro l hl;have hik:=K.key hkey
 by_cases e:l=kl
 ·subst e;rw [putV_same _ _ hik];exact ⟨has_put_same hm hik _,fun z=>atKey_put_same hm hik _ _⟩
 ·rw [putV_other _ _ e];exact ⟨by rw [has_put_other e];exact (hf l hl).1,fun z=>by rw [atKey_put_other e];exact (hf l hl).2 z⟩
theorem MapV.update {t e:TypeId} (h:MapV P k w b n f) (K:Keyed P k) (ht:P.underlying t=some (.map k e)) (hn:n<maxLen) {key val:Value} {kl:Lit}
  (hkey:keyOf P k key=some kl):∃ w',(Instr.mapUpdate t (.map (some b)) key val).run P w=.ok () w' /\ MapV P k w' b (n+1) (putV f kl val) /\ w.grownBy w' (some b):=by
 obtain ⟨D,hD,hf⟩:=h;obtain ⟨w',hrun,h1,h2⟩:=hD.update K ht hn hkey (val:=val) (d:=.held val) (ps:=[]) rfl;exact ⟨w',hrun,⟨_,h1,MapV.put hD.isMap K hkey val hf⟩,h2⟩
end
section
variable {P:Program} (w:World) {ops:Array Oper} {rest:List Oper} {o:Oper} {a:Act} {Q:Exit → Act → World → Prop}
theorem wpList_lookupV (hg:o.guard=none) (m x:Operand) (t:TypeId) (hop:o.op=Op.lookup t m x false)
  (k e:TypeId) (K:Keyed P k) (ht:P.underlying t=some (.map k e)) (z:Value) (hz:(zeroValue e).run P w=.ok z w) (b n:Nat) (f:Lit->Option Value)
  (hm:a.eval m=.map (some b)) (hown:MapV P k w b n f) (key:Value) (kl:Lit) (hx:a.eval x=key) (hkey:keyOf P k key=some kl)
  (hK:wpList P ops Q rest (a.put o.dst ((f kl).getD z)) w) :
  wpList P ops Q (o::rest) a w:=by
 refine wpList_plain hg fun K' hK'=>?_;unfold Oper.wp;simp [execOp,hop,hm,hx,hown.lookup K ht hz hkey,Result.andThen];exact hK' _ _ hK
theorem wpList_mapUpdateV (hg:o.guard=none) (m x v:Operand) (t:TypeId) (hop:o.op=Op.mapUpdate t m x v)
  (k e:TypeId) (K:Keyed P k) (ht:P.underlying t=some (.map k e)) (b n:Nat) (f:Lit->Option Value)
  (hm:a.eval m=.map (some b)) (hown:MapV P k w b n f) (hn:n<maxLen) (key val:Value) (kl:Lit) (hx:a.eval x=key) (hv:a.eval v=val) (hkey:keyOf P k key=some kl)
  (hK:∀ w',MapV P k w' b (n+1) (putV f kl val)->w.grownBy w' (some b)->wpList P ops Q rest (a.put o.dst undef) w') :
  wpList P ops Q (o::rest) a w:=by
 refine wpList_plain hg fun K' hK'=>?_;obtain ⟨w',hrun,r1,r2⟩:=hown.update K ht hn hkey (val:=val);unfold Oper.wp;simp [execOp,hop,hm,hx,hv,hrun,Result.andThen];exact hK' _ _ (hK w' r1 r2)
end
section
variable {P:Program} (w:World)
theorem wp_mapUpdateV {o:Oper} {a:Act} {K':Act->World->Prop} {Q:Exit->Act->World->Prop} (m x v:Operand) (t:TypeId) (hop:o.op=Op.mapUpdate t m x v)
  (k e:TypeId) (K:Keyed P k) (ht:P.underlying t=some (.map k e)) (b n:Nat) (f:Lit->Option Value)
  (hm:a.eval m=.map (some b)) (hown:MapV P k w b n f) (hn:n<maxLen) (key val:Value) (kl:Lit) (hx:a.eval x=key) (hv:a.eval v=val) (hkey:keyOf P k key=some kl)
  (hK:∀ w',MapV P k w' b (n+1) (putV f kl val)->w.grownBy w' (some b)->K' (a.put o.dst undef) w'):o.wp P a w K' Q:=by
 obtain ⟨w',hrun,r1,r2⟩:=hown.update K ht hn hkey (val:=val);unfold Oper.wp;simp [execOp,hop,hm,hx,hv,hrun,Result.andThen];exact hK w' r1 r2
end
end Go.Proofs.YthiochcpmfkgcaaGreatDoor.Mx
namespace Go.Proofs.YthiochcpmfkgcaaGreatDoor.Mx
open Go Go.RowKit Go.Maps Go.WideMaps
section
variable {P:Program} {k e t:TypeId} {w w':World} {b n:Nat} {f:Lit → Option Value}
theorem setBlock_twice (w:World) (b:Nat) (o o':Obj):ChangeMaps.setBlock (ChangeMaps.setBlock w b o) b o'=ChangeMaps.setBlock w b o':=by
 simp [ChangeMaps.setBlock]
theorem MapV.entry (h:MapV P k w b n f) (K:KeyLaw P k) (ht:P.underlying t=some (.map k e)) {z:Value} (hz:∀ u:World,(zeroValue e).run P u=.ok z u) (hn:n<maxLen) {key:Value} {kl:Lit}
  (hkey:keyOf P k key=some kl):∃ (v0:Value) (st:Int) (w1:World),(Instr.mapEntry t (.map (some b)) key).run P w=.ok (.tuple #[v0,.int .i64 st]) w1 /\ (∀ a:Addr,a.block≠b->w1.cell? a=w.cell? a) /\
   ∀ val,∃ w2,(Instr.entryStore t (.map (some b)) (.int .i64 st) val).run P w1=.ok () w2 /\ MapV P k w2 b (n+1) (putV f kl val) /\ w.grownBy w2 (some b):=by
 obtain ⟨D,⟨es,clock,hb,F,hs,hD⟩,hf⟩:=h;obtain ⟨v0,st,es1,clock1,h1,_,h2⟩:=WideElems.entry_then_store (R:=asIs) K ht hz hb F hkey;refine ⟨v0,st,_,h1,fun a ha=>?_,fun val=>?_⟩
 ·apply wB;show (w.heap.setIfInBounds b _)[a.block]?=_;rw [Array.getElem?_setIfInBounds_ne (Ne.symm ha)]
 ·have hlt:b<w.heap.size:=(Array.getElem?_eq_some_iff.1 hb).1;obtain ⟨es',clock',h3,h4⟩:=h2 (ChangeMaps.setBlock w b (.map es1 clock1)) val (by simp [ChangeMaps.setBlock,hlt]);rw [setBlock_twice] at h3;obtain ⟨w',hrun,hm,hg⟩:=MapV.update (P:=P) (k:=k) (w:=w) (b:=b) (n:=n) (f:=f) ⟨D,⟨es,clock,hb,F,hs,hD⟩,hf⟩ (Keyed.of_law K) ht hn (val:=val) hkey;rw [hrun] at h4;injection h4 with _ h4;subst h4;exact ⟨_,h3,hm,hg⟩
theorem MapV.entry_look (h:MapV P k w b n f) (K:KeyLaw P k) (ht:P.underlying t=some (.map k e)) {z:Value} (hz:∀ u:World,(zeroValue e).run P u=.ok z u) (hn:n<maxLen) {key:Value} {kl:Lit}
  (hkey:keyOf P k key=some kl) {v:Value} {w1:World} (hrun:(Instr.mapEntry t (.map (some b)) key).run P w=.ok v w1) :
  (Instr.lookup t (.map (some b)) key false).run P w1=.ok ((f kl).getD z) w1:=by
 have hM:=h;obtain ⟨D,⟨es,clock,hb,F,hs,hD⟩,hf⟩:=h;have hlt:b<w.heap.size:=(Array.getElem?_eq_some_iff.1 hb).1;have hl:=hM.lookup (Keyed.of_law K) ht (hz w) hkey
 rcases K.find w hkey es.toList F.keys with ⟨h1,h2⟩ | ⟨j,e0,h1,h2,h3⟩
 ·have e1:(f kl).getD z=z:=by
   simp [Instr.lookup,run_underlying ht,MapKept.run_getObj_map hb,K.check w es.isEmpty hkey,h1,hz,Result.andThen] at hl;exact hl.symm
  obtain ⟨w2,hu,hm2,_⟩:=hM.update (Keyed.of_law K) ht hn (val:=z) hkey;have e2:w1=w2:=by
   simp [Instr.mapEntry,run_underlying ht,MapKept.run_getObj_map hb,K.check w false hkey,h1,hz,MapKept.run_setObj_map _ hb,Result.andThen,ChangeMaps.setBlock] at hrun;simp [Instr.mapUpdate,run_underlying ht,MapKept.run_getObj_map hb,K.check w false hkey,h1,MapKept.run_setObj_map _ hb,Result.andThen,ChangeMaps.setBlock] at hu;rw [<- hrun.2,<- hu]
  subst e2;have hl2:=hm2.lookup (Keyed.of_law K) ht (hz w1) hkey;rw [putV_same _ _ (Keyed.of_law K |>.key hkey)] at hl2;rw [e1];exact hl2
 ·have hj:es[j]?=some e0:=by simpa using h2
  have hsame:es.modify j (fun e=>{ e with key:=key })=es:=by
   apply Array.ext';rw [Array.toList_modify,ChangeMaps.modify_eq_set _ _ _ _ h2];have:({ e0 with key:=key }:MapEntry)=e0:=by rw [<- h3]
   rw [this];exact WideElems.set_self _ _ _ h2
  have e2:w1=ChangeMaps.setBlock w b (.map es clock):=by
   simp [Instr.mapEntry,run_underlying ht,MapKept.run_getObj_map hb,K.check w false hkey,h1,hj,h3,K.stays w hkey,hsame,MapKept.run_setObj_map _ hb,Result.andThen,ChangeMaps.setBlock] at hrun;rw [<- hrun.2];rfl
  have e3:w1.heap[b]?=w.heap[b]?:=by rw [e2,hb];simp [ChangeMaps.setBlock,hlt]
  exact (hM.of_block e3).lookup (Keyed.of_law K) ht (hz w1) hkey
theorem keyOf_arr4 {q:IntKind} (A:ArrKey P k e 4) (he:P.underlying e=some (.int q)) (hsz:∃ m,P.types.size=m+1) {x0 x1 x2 x3:Int} (h0:(Lit.int q x0).wf=true) (h1:(Lit.int q x1).wf=true) (h2:(Lit.int q x2).wf=true) (h3:(Lit.int q x3).wf=true) :
  keyOf P k (.agg #[.int q x0,.int q x1,.int q x2,.int q x3])=some (.string (keyBytes [.int q x0,.int q x1,.int q x2,.int q x3])):=by
 have hkt:=A.keyType hsz;obtain ⟨m0,hm0⟩:=hsz;unfold keyOf;simp only [A.hu];rw [if_pos (by simp [hkt,Value.formed,A.hu,A.size]),hm0];unfold Program.keyLits;simp only [A.hu,Value.cells];rw [if_pos (by rw [A.size];rfl),A.one];simp [List.range_succ,Program.keyLits,he,h0,h1,h2,h3]
end
def MapS (P:Program) (k:TypeId) (w:World) (b m:Nat) (f:Lit->Option Value):Prop :=
 ∃ D:DataW Value,w.ownsMap P k asIs b m D /\ Maps.size D=m /\ ∀ l,(∃ v,keyOf P k v=some l)->Maps.has D l=(f l).isSome /\ ∀ z,D.atKey l (.held z)=.held ((f l).getD z)
section
variable {P:Program} {k:TypeId} {w w':World} {b m:Nat} {f:Lit → Option Value}
theorem MapS.v (h:MapS P k w b m f):MapV P k w b m f:=by obtain ⟨D,h1,_,h3⟩:=h;exact ⟨D,h1,h3⟩
theorem own_tight {H:Type} {R:Value->Option (DataW H × List MemPlace)} {n:Nat} {D:DataW H} (h:w.ownsMap P k R b n D):w.ownsMap P k R b (Maps.size D) D:=by
 obtain ⟨es,clock,hb,F,hs,rfl⟩:=h;refine ⟨es,clock,hb,F,?_,rfl⟩;have e1:Maps.size (DataW.map ((es.toList.map (WideElems.rg P k R)).foldr DataW.insert []))=es.size:=by simp [Maps.size,length_sorted]
 rw [e1];exact nR _
theorem MapS.made (w:World) (P:Program) (k:TypeId):MapS P k (w.alloc (.map #[] 0)) w.heap.size 0 (fun _=>none) :=
 ⟨.map [],World.ownsMap_made w P k asIs,rfl,fun l _=>⟨rfl,fun z=>rfl⟩⟩
theorem MapS.of_block (h:MapS P k w b m f) (e:w'.heap[b]?=w.heap[b]?):MapS P k w' b m f:=by
 obtain ⟨D,⟨es,clock,hb,F,hs,hD⟩,h2,hf⟩:=h;exact ⟨D,⟨es,clock,e.trans hb,F,hs,hD⟩,h2,hf⟩
theorem MapS.lt (h:MapS P k w b m f):b<w.heap.size:=h.v.lt
theorem MapS.alloc (h:MapS P k w b m f) (o:Obj):MapS P k (w.alloc o) b m f:=h.of_block (Below.heap_alloc w o b h.lt)
theorem MapS.drewN (h:MapS P k w b m f) (j:Nat):MapS P k (w.drewN j) b m f:=h
theorem MapS.len {t e:TypeId} (h:MapS P k w b m f) (ht:P.underlying t=some (.map k e)) (ty:TypeId):(Builtin.len_ #[t] ty #[.map (some b)]).run P w=.ok (.int .i64 m) w:=by
 obtain ⟨D,hD,h2,hf⟩:=h;rw [hD.len ht ty,h2]
theorem MapS.update {t e:TypeId} (h:MapS P k w b m f) (K:Keyed P k) (ht:P.underlying t=some (.map k e)) (hn:m<maxLen) {key val:Value} {kl:Lit}
  (hkey:keyOf P k key=some kl):∃ w',(Instr.mapUpdate t (.map (some b)) key val).run P w=.ok () w' /\ MapS P k w' b (if (f kl).isSome then m else m+1) (putV f kl val) /\ w.grownBy w' (some b):=by
 obtain ⟨D,hD,h2,hf⟩:=h;obtain ⟨w',hrun,h1,h3⟩:=hD.update K ht hn hkey (val:=val) (d:=.held val) (ps:=[]) rfl;refine ⟨w',hrun,⟨_,?_,?_,MapV.put hD.isMap K hkey val hf⟩,h3⟩
 ·have h4:=own_tight h1;rw [size_put (hD.tidy K),(hf kl ⟨key,hkey⟩).1,h2] at h4;exact h4
 ·rw [size_put (hD.tidy K),(hf kl ⟨key,hkey⟩).1,h2]
theorem MapS.lookup {t e:TypeId} (h:MapS P k w b m f) (K:Keyed P k) (ht:P.underlying t=some (.map k e)) {z:Value} (hz:(zeroValue e).run P w=.ok z w)
  {key:Value} {kl:Lit} (hkey:keyOf P k key=some kl):(Instr.lookup t (.map (some b)) key false).run P w=.ok ((f kl).getD z) w:=h.v.lookup K ht hz hkey
theorem MapS.look_ok {t e:TypeId} (h:MapS P k w b m f) (K:Keyed P k) (ht:P.underlying t=some (.map k e)) {z:Value} (hz:(zeroValue e).run P w=.ok z w)
  {key:Value} {kl:Lit} (hkey:keyOf P k key=some kl):(Instr.lookup t (.map (some b)) key true).run P w=.ok (.tuple #[(f kl).getD z,.bool (f kl).isSome]) w:=h.v.look_ok K ht hz hkey
theorem MapS.entry {t e:TypeId} (h:MapS P k w b m f) (K:KeyLaw P k) (ht:P.underlying t=some (.map k e)) {z:Value} (hz:∀ u:World,(zeroValue e).run P u=.ok z u) (hn:m<maxLen) {key:Value} {kl:Lit}
  (hkey:keyOf P k key=some kl):∃ (st:Int) (o1:Obj) (w1:World),(Instr.mapEntry t (.map (some b)) key).run P w=.ok (.tuple #[(f kl).getD z,.int .i64 st]) w1 /\ w.grownBy w1 (some b) /\ w1.heap[b]?=some o1 /\ w1.heap.size=w.heap.size /\
   ∀ W:World,W.heap[b]?=some o1->(Instr.lookup t (.map (some b)) key false).run P W=.ok ((f kl).getD z) W /\
   ∀ val,∃ w2,(Instr.entryStore t (.map (some b)) (.int .i64 st) val).run P W=.ok () w2 /\ MapS P k w2 b (if (f kl).isSome then m else m+1) (putV f kl val) /\ W.grownBy w2 (some b):=by
 have hM:=h;have hV:=h.v;obtain ⟨D,⟨es,clock,hb,F,hs,hD⟩,hsz,hf⟩:=h;have hlt:b<w.heap.size:=(Array.getElem?_eq_some_iff.1 hb).1;obtain ⟨v0,st,es1,clock1,h1,_,h2⟩:=WideElems.entry_then_store (R:=asIs) K ht hz hb F hkey;have hl:=hV.lookup (Keyed.of_law K) ht (hz w) hkey;have hv0:v0=(f kl).getD z:=by
  rcases K.find w hkey es.toList F.keys with ⟨g1,g2⟩ | ⟨j,e0,g1,g2,g3⟩
  ·have e1:(f kl).getD z=z:=by
    simp [Instr.lookup,run_underlying ht,MapKept.run_getObj_map hb,K.check w es.isEmpty hkey,g1,hz,Result.andThen] at hl;exact hl.symm
   simp [Instr.mapEntry,run_underlying ht,MapKept.run_getObj_map hb,K.check w false hkey,g1,hz,MapKept.run_setObj_map _ hb,Result.andThen] at h1;rw [e1];exact h1.1.1.symm
  ·have hj:es[j]?=some e0:=by simpa using g2
   have e1:e0.val=(f kl).getD z:=by
    simp [Instr.lookup,run_underlying ht,MapKept.run_getObj_map hb,K.check w es.isEmpty hkey,g1,hj,Result.andThen] at hl;exact hl
   simp [Instr.mapEntry,run_underlying ht,MapKept.run_getObj_map hb,K.check w false hkey,g1,hj,g3,K.stays w hkey,MapKept.run_setObj_map _ hb,Result.andThen] at h1;rw [<- e1];exact h1.1.1.symm
 subst hv0;refine ⟨(st:Nat),.map es1 clock1,_,h1,⟨rfl,rfl,rfl,by simp [ChangeMaps.setBlock],fun i _ hi=>ChangeMaps.heap_setBlock_other hb _ (fun e=>hi (by rw [e]))⟩,ChangeMaps.heap_setBlock_same hb _,by simp [ChangeMaps.setBlock],fun W hW=>⟨?_,fun val=>?_⟩⟩
 ·have hmid:∃ m1 f1,MapS P k (ChangeMaps.setBlock w b (.map es1 clock1)) b m1 f1 /\ (f1 kl).getD z=(f kl).getD z:=by
   rcases K.find w hkey es.toList F.keys with ⟨g1,g2⟩ | ⟨j,e0,g1,g2,g3⟩
   ·have e1:(f kl).getD z=z:=by
     simp [Instr.lookup,run_underlying ht,MapKept.run_getObj_map hb,K.check w es.isEmpty hkey,g1,hz,Result.andThen] at hl;exact hl.symm
    obtain ⟨w2,hu,hm2,_⟩:=hM.update (Keyed.of_law K) ht hn (val:=z) hkey;have e2:ChangeMaps.setBlock w b (.map es1 clock1)=w2:=by
     simp [Instr.mapEntry,run_underlying ht,MapKept.run_getObj_map hb,K.check w false hkey,g1,hz,MapKept.run_setObj_map _ hb,Result.andThen] at h1;simp [Instr.mapUpdate,run_underlying ht,MapKept.run_getObj_map hb,K.check w false hkey,g1,MapKept.run_setObj_map _ hb,Result.andThen] at hu;rw [<- h1.2,<- hu]
    rw [e2];exact ⟨_,_,hm2,by rw [putV_same _ _ ((Keyed.of_law K).key hkey),e1];rfl⟩
   ·have hj:es[j]?=some e0:=by simpa using g2
    have hsame:es.modify j (fun e=>{ e with key:=key })=es:=by
     apply Array.ext';rw [Array.toList_modify,ChangeMaps.modify_eq_set _ _ _ _ g2];have:({ e0 with key:=key }:MapEntry)=e0:=by rw [<- g3]
     rw [this];exact WideElems.set_self _ _ _ g2
    have e2:ChangeMaps.setBlock w b (.map es1 clock1)=ChangeMaps.setBlock w b (.map es clock):=by
     simp [Instr.mapEntry,run_underlying ht,MapKept.run_getObj_map hb,K.check w false hkey,g1,hj,g3,K.stays w hkey,hsame,MapKept.run_setObj_map _ hb,Result.andThen,ChangeMaps.setBlock] at h1;simp only [ChangeMaps.setBlock];rw [<- h1.2]
    rw [e2];exact ⟨m,f,hM.of_block (by rw [ChangeMaps.heap_setBlock_same hb _,hb]),rfl⟩
  obtain ⟨m1,f1,hm1,hf1⟩:=hmid;have hmW:MapS P k W b m1 f1:=hm1.of_block (by rw [hW,ChangeMaps.heap_setBlock_same hb _]);rw [<- hf1];exact hmW.lookup (Keyed.of_law K) ht (hz W) hkey
 ·obtain ⟨es',clock',h3,h4⟩:=h2 W val hW;obtain ⟨w',hrun,hm,hg⟩:=MapS.update (P:=P) (k:=k) (w:=w) (b:=b) (m:=m) (f:=f) (val:=val) hM (Keyed.of_law K) ht hn hkey;rw [hrun] at h4;injection h4 with _ h4;subst h4;refine ⟨_,h3,hm.of_block ?_,⟨rfl,rfl,rfl,by simp [ChangeMaps.setBlock],fun i _ hi=>ChangeMaps.heap_setBlock_other hW _ (fun e=>hi (by rw [e]))⟩⟩
  rw [ChangeMaps.heap_setBlock_same hW _,ChangeMaps.heap_setBlock_same hb _]
end
end Go.Proofs.YthiochcpmfkgcaaGreatDoor.Mx
namespace Go.Proofs.YthiochcpmfkgcaaGreatDoor.Gl
open Go Go.RowKit Go.Proofs Go.Maps Go.WideMaps Mx Tb
inductive Role where
 | box | mback | medges | malts | mrows | mpushed
 | brow (x:Nd)
 | irow (i:Nat)
deriving DecidableEq
def NdOk (x:Nd):Prop:=x.1<1048576 /\ x.2<1048576
def encNd (x:Nd):List Value:=[.int .i64 x.1,.int .i64 x.2]
theorem encNd_len (x:Nd):(encNd x).length=2:=rfl
def ndV (x:Nd):Value:=.agg #[.int .i64 x.1,.int .i64 x.2]
def edV (x y:Nd):Value:=.agg #[.int .i64 x.1,.int .i64 x.2,.int .i64 y.1,.int .i64 y.2]
def kNd (x:Nd):Lit:=.string (keyBytes [.int .i64 x.1,.int .i64 x.2])
def kEd (x y:Nd):Lit:=.string (keyBytes [.int .i64 x.1,.int .i64 x.2,.int .i64 y.1,.int .i64 y.2])
theorem cwI:Tryz.prog.cellsOf 3=1:=by kernel_rfl
theorem tySize:∃ m,Tryz.prog.types.size=m+2:=⟨Tryz.prog.types.size - 2,by have h:(1<Tryz.prog.types.size):=of_decide_eq_true (by kernel_rfl);omega⟩
theorem laidG:laidOutB Tryz.prog=true:=by kernel_rfl
theorem ndLaw:KeyLaw Tryz.prog 150:=deep_law_laid laidG (m:=2) (by omega) (of_decide_eq_true (by kernel_rfl)) (by kernel_rfl) (by kernel_rfl)
theorem edLaw:KeyLaw Tryz.prog 213:=deep_law_laid laidG (m:=3) (by omega) (of_decide_eq_true (by kernel_rfl)) (by kernel_rfl) (by kernel_rfl)
theorem ndKeyType:Tryz.prog.keyType 150=true:=by kernel_rfl
theorem edKeyType:Tryz.prog.keyType 213=true:=by kernel_rfl
theorem ndCells:Tryz.prog.cellsOf 150=2:=by kernel_rfl
theorem edCells:Tryz.prog.cellsOf 213=4:=by kernel_rfl
theorem litN (n:Nat) (h:n<1048576):(Lit.int IntKind.i64 (n:Int)).wf=true:=by
 simp [Lit.wf,IntKind.min,IntKind.max,IntKind.bits,IntKind.signed];omega
theorem keyOf_nd (x:Nd) (h:NdOk x):keyOf Tryz.prog 150 (ndV x)=some (kNd x):=by
 obtain ⟨m0,hm0⟩:=tySize;unfold keyOf ndV;simp only [Tryz.underlying150];rw [if_pos (by simp [ndKeyType,Value.formed,Tryz.underlying150,ndCells]),hm0];unfold Program.keyLits;simp only [Tryz.underlying150,Value.cells];rw [if_pos (by rw [ndCells];exact ⟨rfl,by kernel_rfl⟩)];have h0:=litN x.1 h.1;have h1:=litN x.2 h.2;simp [Program.keyLits,Tryz.underlying3,cwI,h0,h1,kNd]
theorem keyLits_nd (d:Nat) (a b:Nat) (ha:a<1048576) (hb:b<1048576):Program.keyLits Tryz.prog (d+2) 150 [.int .i64 a,.int .i64 b]=some [.int .i64 a,.int .i64 b]:=by
 unfold Program.keyLits;simp only [Tryz.underlying150];rw [if_pos (by rw [ndCells];exact ⟨rfl,by kernel_rfl⟩)];have h0:=litN a ha;have h1:=litN b hb;simp [Program.keyLits,Tryz.underlying3,cwI,h0,h1]
theorem keyOf_ed (x y:Nd) (h:NdOk x) (k:NdOk y):keyOf Tryz.prog 213 (edV x y)=some (kEd x y):=by
 obtain ⟨m0,hm0⟩:=tySize;unfold keyOf edV;simp only [Tryz.underlying213];rw [if_pos (by simp [edKeyType,Value.formed,Tryz.underlying213,edCells]),hm0];unfold Program.keyLits;simp only [Tryz.underlying213,Value.cells];rw [if_pos (by rw [edCells];exact ⟨rfl,by kernel_rfl⟩)];have h0:=keyLits_nd m0 x.1 x.2 h.1 h.2;have h1:=keyLits_nd m0 y.1 y.2 k.1 k.2;simp [ndCells,h0,h1,kEd]
theorem kNd_inj {x y:Nd} (hx:NdOk x) (hy:NdOk y) (h:kNd x=kNd y):x=y:=by
 have h1:=ndLaw.inj (keyOf_nd x hx) (by rw [h];exact keyOf_nd y hy);simp [ndV] at h1;exact Prod.ext (by omega) (by omega)
theorem kEd_inj {x y x' y':Nd} (hx:NdOk x) (hy:NdOk y) (hx':NdOk x') (hy':NdOk y') (h:kEd x y=kEd x' y'):x=x' /\ y=y':=by
 have h1:=edLaw.inj (keyOf_ed x y hx hy) (by rw [h];exact keyOf_ed x' y' hx' hy');simp [edV] at h1;exact ⟨Prod.ext (by omega) (by omega),Prod.ext (by omega) (by omega)⟩
structure RC where
 rb:Nat
 bb:Nat
 be:Nat
 ba:Nat
 br:Nat
 bp:Nat
structure RP where
 sv:Value
 pv:Value
 st:Int
 fv:Value
 lv:Value
 tv:Value
 txt:List UInt8
def boxC (C:RC) (p:RP) (left:Nat):Array Value:=#[p.sv,p.pv,.int .i64 p.st,p.fv,p.lv,p.tv,.string ⟨p.txt.toArray⟩,.int .i64 left,.map (some C.bb),.map (some C.be),.map (some C.ba),.map (some C.br),.map (some C.bp)]
def alV (left:Nat->Int) (v:Value) (a:Al):Value:=.agg #[.int .i64 (left a.prod),.int .i64 a.src,.int .i64 a.til,.int .i64 a.prod,v]
structure AlOk (a:Al):Prop where
 prod:a.prod<1048576
 src:a.src<1048576
 til:a.til<1048576
 cuts:∀ c∈a.cuts,c<1048576
 len:a.cuts.length<=1000
structure RolesOk (C:RC) (ρ:Nat->Option Role):Prop where
 rb:ρ C.rb=some .box
 bb:ρ C.bb=some .mback
 be:ρ C.be=some .medges
 ba:ρ C.ba=some .malts
 br:ρ C.br=some .mrows
 bp:ρ C.bp=some .mpushed
structure Rm where
 left:Nat
 nodes:List Nd
 edges:List (Nd × Nd)
 tries:List (Nd × Nd)
 back:List (Nd × Nd)
 alts:List Al
 pn:List Nd
 pb:Nat
def BackW (C:RC) (ρ:Nat->Option Role) (E:List (Nd × Nd)) (w:World):Prop :=
 ∃ (m:Nat) (f:Lit->Option Value) (vb:Nd->Value),MapS Tryz.prog 150 w C.bb m f /\ m<=E.length /\ (∀ x,NdOk x->f (kNd x)=if backF E x=[] then none else some (vb x)) /\
  ∀ x,w.ownsRow 0 150 2 (vb x) (backF E x).length (flatK encNd (backF E x)) /\ (∀ b,(vb x).ownBlock=some b->ρ b=some (.brow x)) /\ (backF E x=[]->vb x=.slice none 0 0)
def EdgesW (C:RC) (E T:List (Nd × Nd)) (w:World):Prop :=
 ∃ f,MapS Tryz.prog 213 w C.be E.length f /\ ∀ x y,NdOk x->NdOk y->f (kEd x y)=if (x,y)∈E then some (.int .i64 (T.count (x,y):Int)) else none
def IntB (w:World) (g:Nat):Prop:=∃ c fz,w.heap[g]?=some (.cells c 3 fz)
def CutB (C:RC) (ρ:Nat->Option Role) (w:World) (b:Nat):Prop:=(ρ b=none /\ C.rb<=b) /\ IntB w b
theorem CutB.keep_ {C:RC} {ρ ρ':Nat->Option Role} {w w':World} {b:Nat} (h:CutB C ρ w b) (hr:ρ' b=ρ b) (he:w'.heap[b]?=w.heap[b]?):CutB C ρ' w' b :=
 ⟨⟨hr.trans h.1.1,h.1.2⟩,by obtain ⟨c,fz,e⟩:=h.2;exact ⟨c,fz,he.trans e⟩⟩
def AltsW (C:RC) (left:Nat->Int) (ρ:Nat->Option Role) (A:List Al) (w:World):Prop :=
 ∃ (f:Lit->Option Value) (va:Al->Value),MapS Tryz.prog 9 w C.ba A.length f /\ (∀ l,f (.string l)=(A.find? fun a=>keyA a==l).map fun a=>alV left (va a) a) /\ ∀ a∈A,SliceK (CutB C ρ w) encN 1 w (va a) a.cuts
def rowN (N:List Nd) (i:Nat):List Nat:=(N.filter fun x=>x.2==i).map (·.1)
def RowsW (C:RC) (ρ:Nat->Option Role) (N:List Nd) (w:World):Prop :=
 ∃ (m:Nat) (f:Lit->Option Value) (vr:Nat->Value),MapS Tryz.prog 3 w C.br m f /\ m<=N.length /\ (∀ z:Int,f (.int .i64 z)=if 0<=z /\ rowN N z.toNat≠[] then some (vr z.toNat) else none) /\
  ∀ i,w.ownsRow 0 3 1 (vr i) (rowN N i).length (flatK encN (rowN N i)) /\ (∀ b,(vr i).ownBlock=some b->ρ b=some (.irow i)) /\ (rowN N i=[]->vr i=.slice none 0 0)
def PushedW (C:RC) (N:List Nd) (pb:Nat) (w:World):Prop :=
 ∃ (f:Lit->Option Value) (c:Nd->Nat),MapS Tryz.prog 150 w C.bp N.length f /\ (∀ x,(c x=0↔x ∉ N) /\ c x<=pb) /\ ∀ x,NdOk x->f (kNd x)=if c x=0 then none else some (.int .i64 (c x:Int))
structure RunM (C:RC) (p:RP) (left:Nat->Int) (w0:World) (ρ:Nat->Option Role) (m:Rm) (w:World):Prop where
 low:Below w0.heap.size w0 w
 above:∀ b,b<w0.heap.size->ρ b=none
 lt:∀ b,ρ b≠none->b<w.heap.size
 roles:RolesOk C ρ
 box:Blk w C.rb 81 (boxC C p m.left)
 back:BackW C ρ m.back w
 edges:EdgesW C m.edges m.tries w
 alts:AltsW C left ρ m.alts w
 rows:RowsW C ρ m.nodes w
 pushed:PushedW C m.pn m.pb w
 nok:∀ x∈m.nodes,NdOk x
 eok:∀ e∈m.edges,NdOk e.1 /\ NdOk e.2
 bok:∀ e∈m.back,NdOk e.1 /\ NdOk e.2
 aok:∀ a∈m.alts,AlOk a
 ml:m.left<=4398046511104
 mn:m.nodes.length<=4398046511104
 me:m.edges.length<=4398046511104
 mb:m.back.length<=4398046511104
 ma:m.alts.length<=4398046511104
 mp:m.pb<=4398046511104
 mpn:m.pn.length<=4398046511104
def sumF (r:Rn):Nat:=r.left+r.edges.length+r.alts.length
def rmOf (r:Rn):Rm:=⟨r.left,r.nodes,r.edges,r.tries,r.edges,r.alts,r.nodes,r.edges.length+1⟩
structure RunW (C:RC) (p:RP) (left:Nat->Int) (w0:World) (ρ:Nat->Option Role) (r:Rn) (w:World):Prop where
 mem:RunM C p left w0 ρ (rmOf r) w
 nn:r.nodes.length<=r.edges.length+1
 tot:sumF r<=2199023255552
 te:∀ e,e∈r.tries↔e∈r.edges
structure KeepR (ρ:Nat->Option Role) (w w':World):Prop where
 os:w'.os=w.os
 tape:w'.tape=w.tape
 output:w'.output=w.output
 size:w.heap.size<=w'.heap.size
 block:∀ b,b<w.heap.size->ρ b=none->w'.heap[b]?=w.heap[b]?
def Roles (n:Nat) (ρ ρ':Nat->Option Role):Prop:=∀ b,b<n->ρ' b=ρ b
theorem Roles.refl (n:Nat) (ρ:Nat->Option Role):Roles n ρ ρ:=fun _ _=>rfl
theorem Roles.trans {n m:Nat} {ρ ρ' ρ'':Nat->Option Role} (h:Roles n ρ ρ') (k:Roles m ρ' ρ'') (hm:n<=m):Roles n ρ ρ'':=fun b hb=>(k b (by omega)).trans (h b hb)
section
variable {ρ ρ':Nat → Option Role} {w w' w'':World}
theorem KeepR.refl (ρ:Nat->Option Role) (w:World):KeepR ρ w w:=⟨rfl,rfl,rfl,nR _,fun _ _ _=>rfl⟩
theorem KeepR.of (h:Below w.heap.size w w'):KeepR ρ w w':=⟨h.os,h.tape,h.output,h.size,fun b hb _=>h.block b hb⟩
theorem KeepR.trans (h:KeepR ρ w w') (k:KeepR ρ' w' w'') (hr:Roles w.heap.size ρ ρ'):KeepR ρ w w'' :=
 ⟨k.os.trans h.os,k.tape.trans h.tape,k.output.trans h.output,Nat.le_trans h.size k.size,fun b hb hn=>(k.block b (nL hb h.size) ((hr b hb).trans hn)).trans (h.block b hb hn)⟩
theorem KeepR.same (h:KeepR ρ w w') (k:KeepR ρ w' w''):KeepR ρ w w'':=h.trans k (Roles.refl _ _)
theorem KeepR.grown {row:Option Nat} (h:w.grownBy w' row) (hr:∀ b,row=some b->ρ b≠none):KeepR ρ w w' :=
 ⟨h.os,h.tape,h.output,h.size,fun b hb hn=>h.block b hb (fun e=>hr b e.symm hn)⟩
theorem KeepR.blk (h:KeepR ρ w w') {b:Nat} {t:TypeId} {cs:Array Value} (hn:ρ b=none) (hc:Blk w b t cs):Blk w' b t cs:=(h.block b hc.lt hn).trans hc
theorem KeepR.low {n:Nat} {w0:World} (h:KeepR ρ w w') (hb:Below n w0 w) (hn:n<=w.heap.size) (ha:∀ b,b<n->ρ b=none):Below n w0 w' :=
 ⟨h.os.trans hb.os,h.tape.trans hb.tape,h.output.trans hb.output,Nat.le_trans hb.size h.size,fun b hb2=>(h.block b (by omega) (ha b hb2)).trans (hb.block b hb2)⟩
end
/-! Parts that stay. -/
/-- The blocks with roles of Q are as they were. -/
def SameQ (Q:Role->Prop) (ρ:Nat->Option Role) (w w':World):Prop:=∀ b R,b<w.heap.size->ρ b=some R->Q R->w'.heap[b]?=w.heap[b]?
section
variable {C:RC} {p:RP} {left:Nat → Int} {w0:World} {ρ ρ':Nat → Option Role} {m:Rm} {w w':World}
theorem own_of_block {B n k:Nat} {t:TypeId} {v:Value} {xs:List Value} (h:w.ownsRow B t k v n xs) (e:∀ b,v.ownBlock=some b->w'.heap[b]?=w.heap[b]?):w'.ownsRow B t k v n xs:=by
 refine ⟨h.1,?_⟩
 rcases h.2 with h2 | ⟨g,cap,cur,rfl,hB,hh,h3⟩
 ·exact .inl h2
 ·exact .inr ⟨g,cap,cur,rfl,hB,(e g rfl).trans hh,h3⟩
theorem own_lt {B n k:Nat} {t:TypeId} {v:Value} {xs:List Value} (h:w.ownsRow B t k v n xs) {b:Nat} (e:v.ownBlock=some b):b<w.heap.size:=(h.lt b e).2
theorem BackW.keep {E:List (Nd × Nd)} (h:BackW C ρ E w) (hbb:ρ C.bb=some .mback) (hs:SameQ (fun R=>R=.mback∨∃ x,R=.brow x) ρ w w') (hr:Roles w.heap.size ρ ρ'):BackW C ρ' E w':=by
 obtain ⟨m,f,vb,h1,h2,h3,h4⟩:=h;refine ⟨m,f,vb,h1.of_block (hs _ _ h1.lt hbb (.inl rfl)),h2,h3,fun x=>?_⟩;obtain ⟨k1,k2,k3⟩:=h4 x;exact ⟨own_of_block k1 fun b hb=>hs b _ (own_lt k1 hb) (k2 b hb) (.inr ⟨x,rfl⟩),fun b hb=>(hr b (own_lt k1 hb)).trans (k2 b hb),k3⟩
theorem EdgesW.keep {E T:List (Nd × Nd)} (h:EdgesW C E T w) (hbe:ρ C.be=some .medges) (hs:SameQ (·=.medges) ρ w w'):EdgesW C E T w':=by
 obtain ⟨f,h1,h2⟩:=h;exact ⟨f,h1.of_block (hs _ _ h1.lt hbe rfl),h2⟩
theorem AltsW.keep {A:List Al} (h:AltsW C left ρ A w) (hba:ρ C.ba=some .malts) (hs:SameQ (·=.malts) ρ w w') (hn:∀ b,b<w.heap.size->ρ b=none->w'.heap[b]?=w.heap[b]?) (hr:Roles w.heap.size ρ ρ'):AltsW C left ρ' A w':=by
 obtain ⟨f,va,h1,h2,h3⟩:=h;exact ⟨f,va,h1.of_block (hs _ _ h1.lt hba rfl),h2,fun a ha=>(h3 a ha).keep fun b hb hl=>⟨hb.keep_ (hr b hl) (hn b hl hb.1.1),hn b hl hb.1.1⟩⟩
theorem RowsW.keep {N:List Nd} (h:RowsW C ρ N w) (hbr:ρ C.br=some .mrows) (hs:SameQ (fun R=>R=.mrows∨∃ x,R=.irow x) ρ w w') (hr:Roles w.heap.size ρ ρ'):RowsW C ρ' N w':=by
 obtain ⟨m,f,vb,h1,h2,h3,h4⟩:=h;refine ⟨m,f,vb,h1.of_block (hs _ _ h1.lt hbr (.inl rfl)),h2,h3,fun x=>?_⟩;obtain ⟨k1,k2,k3⟩:=h4 x;exact ⟨own_of_block k1 fun b hb=>hs b _ (own_lt k1 hb) (k2 b hb) (.inr ⟨x,rfl⟩),fun b hb=>(hr b (own_lt k1 hb)).trans (k2 b hb),k3⟩
theorem PushedW.keep {N:List Nd} {pb:Nat} (h:PushedW C N pb w) (hbp:ρ C.bp=some .mpushed) (hs:SameQ (·=.mpushed) ρ w w'):PushedW C N pb w':=by
 obtain ⟨f,c,h1,h2⟩:=h;exact ⟨f,c,h1.of_block (hs _ _ h1.lt hbp rfl),h2⟩
theorem SameQ.grown {Q:Role->Prop} {row:Option Nat} (hg:w.grownBy w' row) (hn:∀ b R,row=some b->ρ b=some R->¬ Q R):SameQ Q ρ w w' :=
 fun b R hb hR hQ=>hg.block b hb fun e=>hn b R e.symm hR hQ
theorem RunM.below (h:RunM C p left w0 ρ m w) (hb:Below w.heap.size w w'):RunM C p left w0 ρ m w':=by
 have hs:∀ Q,SameQ Q ρ w w':=fun Q b R hb2 _ _=>hb.block b hb2
 have hr:=Roles.refl w.heap.size ρ;have hw:=h.low.size;exact { h with
  low:=h.low.trans (hb.mono hw)
  lt:=fun b hb2=>nL (h.lt b hb2) hb.size
  box:=h.box.below hb h.box.lt
  back:=h.back.keep h.roles.bb (hs _) hr
  edges:=h.edges.keep h.roles.be (hs _)
  alts:=h.alts.keep h.roles.ba (hs _) (fun b hb2 _=>hb.block b hb2) hr
  rows:=h.rows.keep h.roles.br (hs _) hr
  pushed:=h.pushed.keep h.roles.bp (hs _) }
theorem RunM.setLeft (h:RunM C p left w0 ρ m w) (k:Nat) (hk:k<=4398046511104):RunM C p left w0 ρ { m with left:=k } (w.setCell ⟨C.rb,7,none⟩ (.int .i64 k)) /\ KeepR ρ w (w.setCell ⟨C.rb,7,none⟩ (.int .i64 k)):=by
 have hg:w.grownBy (w.setCell ⟨C.rb,7,none⟩ (.int .i64 k)) (some C.rb):=grown_set (grown_refl w (some C.rb)) rfl _;have hkeep:KeepR ρ w (w.setCell ⟨C.rb,7,none⟩ (.int .i64 k)):=KeepR.grown hg (fun b e=>by injection e with e;subst e;rw [h.roles.rb];simp);have hs:∀ Q:Role->Prop,¬ Q .box->SameQ Q ρ w (w.setCell ⟨C.rb,7,none⟩ (.int .i64 k)):=fun Q hQ=>SameQ.grown hg (fun b R e hR=>by injection e with e;subst e;rw [h.roles.rb] at hR;injection hR with hR;subst hR;exact hQ)
 have hr:=Roles.refl w.heap.size ρ;refine ⟨{ h with
  low:=hkeep.low h.low h.low.size h.above
  lt:=fun b hb2=>nL (h.lt b hb2) hg.size
  box:=?_
  back:=h.back.keep h.roles.bb (hs _ (by simp)) hr
  edges:=h.edges.keep h.roles.be (hs _ (by simp))
  alts:=h.alts.keep h.roles.ba (hs _ (by simp)) hkeep.block hr
  rows:=h.rows.keep h.roles.br (hs _ (by simp)) hr
  pushed:=h.pushed.keep h.roles.bp (hs _ (by simp))
  ml:=hk },hkeep⟩
 exact h.box.set_ 7 (.int .i64 k)
theorem RunM.setEdges (h:RunM C p left w0 ρ m w) {E T:List (Nd × Nd)} (hg:w.grownBy w' (some C.be)) (hE:EdgesW C E T w') (hok:∀ e∈E,NdOk e.1 /\ NdOk e.2) (hl:E.length<=4398046511104) :
  RunM C p left w0 ρ { m with edges:=E,tries:=T } w' /\ KeepR ρ w w':=by
 have hkeep:KeepR ρ w w':=KeepR.grown hg (fun b e=>by injection e with e;subst e;rw [h.roles.be];simp);have hs:∀ Q:Role->Prop,¬ Q .medges->SameQ Q ρ w w':=fun Q hQ=>SameQ.grown hg (fun b R e hR=>by injection e with e;subst e;rw [h.roles.be] at hR;injection hR with hR;subst hR;exact hQ)
 have hr:=Roles.refl w.heap.size ρ;exact ⟨{ h with
  low:=hkeep.low h.low h.low.size h.above
  lt:=fun b hb2=>nL (h.lt b hb2) hg.size
  box:=(hs (·=.box) (by simp) _ _ h.box.lt h.roles.rb rfl).trans h.box
  back:=h.back.keep h.roles.bb (hs _ (by simp)) hr
  edges:=hE
  alts:=h.alts.keep h.roles.ba (hs _ (by simp)) hkeep.block hr
  rows:=h.rows.keep h.roles.br (hs _ (by simp)) hr
  pushed:=h.pushed.keep h.roles.bp (hs _ (by simp))
  eok:=hok
  me:=hl },hkeep⟩
theorem RunM.setPushed (h:RunM C p left w0 ρ m w) {N:List Nd} {pb:Nat} (hg:w.grownBy w' (some C.bp)) (hP:PushedW C N pb w') (hl:N.length<=4398046511104) (hpb:pb<=4398046511104) :
  RunM C p left w0 ρ { m with pn:=N,pb:=pb } w' /\ KeepR ρ w w':=by
 have hkeep:KeepR ρ w w':=KeepR.grown hg (fun b e=>by injection e with e;subst e;rw [h.roles.bp];simp);have hs:∀ Q:Role->Prop,¬ Q .mpushed->SameQ Q ρ w w':=fun Q hQ=>SameQ.grown hg (fun b R e hR=>by injection e with e;subst e;rw [h.roles.bp] at hR;injection hR with hR;subst hR;exact hQ)
 have hr:=Roles.refl w.heap.size ρ;exact ⟨{ h with
  low:=hkeep.low h.low h.low.size h.above
  lt:=fun b hb2=>nL (h.lt b hb2) hg.size
  box:=(hs (·=.box) (by simp) _ _ h.box.lt h.roles.rb rfl).trans h.box
  back:=h.back.keep h.roles.bb (hs _ (by simp)) hr
  edges:=h.edges.keep h.roles.be (hs _ (by simp))
  alts:=h.alts.keep h.roles.ba (hs _ (by simp)) hkeep.block hr
  rows:=h.rows.keep h.roles.br (hs _ (by simp)) hr
  pushed:=hP
  mp:=hpb
  mpn:=hl },hkeep⟩
structure Turn (Q:Role->Prop) (ρ ρ':Nat->Option Role) (w w':World):Prop where
 os:w'.os=w.os
 tape:w'.tape=w.tape
 output:w'.output=w.output
 size:w.heap.size<=w'.heap.size
 block:∀ b,b<w.heap.size->(∀ R,ρ b=some R->¬ Q R)->w'.heap[b]?=w.heap[b]?
 roles:Roles w.heap.size ρ ρ'
 lt:∀ b,w.heap.size<=b->ρ' b≠none->b<w'.heap.size
theorem Turn.keep {Q:Role->Prop} (t:Turn Q ρ ρ' w w'):KeepR ρ w w':=⟨t.os,t.tape,t.output,t.size,fun b hb hn=>t.block b hb (fun R hR=>by rw [hn] at hR;cases hR)⟩
theorem Turn.same {Q Q':Role->Prop} (t:Turn Q ρ ρ' w w') (h:∀ R,Q' R->¬ Q R):SameQ Q' ρ w w':=fun b R hb hR hQ=>t.block b hb (fun R' hR'=>by rw [hR] at hR';injection hR' with e;subst e;exact h _ hQ)
theorem RolesOk.turn {Q:Role->Prop} (h:RolesOk C ρ) (hl:∀ b,ρ b≠none->b<w.heap.size) (t:Turn Q ρ ρ' w w'):RolesOk C ρ':=by
 have hh:∀ b R,ρ b=some R->ρ' b=some R:=fun b R e=>(t.roles b (hl b (by rw [e];simp))).trans e;exact ⟨hh _ _ h.rb,hh _ _ h.bb,hh _ _ h.be,hh _ _ h.ba,hh _ _ h.br,hh _ _ h.bp⟩
theorem RunM.turnLt {Q:Role->Prop} (h:RunM C p left w0 ρ m w) (t:Turn Q ρ ρ' w w'):∀ b,ρ' b≠none->b<w'.heap.size:=fun b hb=>by
 by_cases hlt:b<w.heap.size
 ·exact nL hlt t.size
 ·exact t.lt b (by omega) hb
theorem RunM.turnAbove {Q:Role->Prop} (h:RunM C p left w0 ρ m w) (t:Turn Q ρ ρ' w w'):∀ b,b<w0.heap.size->ρ' b=none:=fun b hb=>(t.roles b (nL hb h.low.size)).trans (h.above b hb)
theorem RunM.setRows (h:RunM C p left w0 ρ m w) {N:List Nd} (t:Turn (fun R=>R=.mrows∨∃ i,R=.irow i) ρ ρ' w w') (hR:RowsW C ρ' N w') (hok:∀ x∈N,NdOk x) (hl:N.length<=4398046511104) :
  RunM C p left w0 ρ' { m with nodes:=N } w' :=
 { h with
  low:=t.keep.low h.low h.low.size h.above
  above:=h.turnAbove t
  lt:=h.turnLt t
  roles:=h.roles.turn h.lt t
  box:=(t.same (Q':=(·=.box)) (by simp) _ _ h.box.lt h.roles.rb rfl).trans h.box
  back:=h.back.keep h.roles.bb (t.same (by rintro R (rfl | ⟨x,rfl⟩) (h | ⟨y,h⟩) <;> cases h)) t.roles
  edges:=h.edges.keep h.roles.be (t.same (by simp))
  alts:=h.alts.keep h.roles.ba (t.same (by simp)) t.keep.block t.roles
  rows:=hR
  pushed:=h.pushed.keep h.roles.bp (t.same (by simp))
  nok:=hok
  mn:=hl }
theorem RunM.setBack (h:RunM C p left w0 ρ m w) {E:List (Nd × Nd)} (t:Turn (fun R=>R=.mback∨∃ i,R=.brow i) ρ ρ' w w') (hR:BackW C ρ' E w') (hok:∀ e∈E,NdOk e.1 /\ NdOk e.2) (hl:E.length<=4398046511104) :
  RunM C p left w0 ρ' { m with back:=E } w' :=
 { h with
  low:=t.keep.low h.low h.low.size h.above
  above:=h.turnAbove t
  lt:=h.turnLt t
  roles:=h.roles.turn h.lt t
  box:=(t.same (Q':=(·=.box)) (by simp) _ _ h.box.lt h.roles.rb rfl).trans h.box
  back:=hR
  edges:=h.edges.keep h.roles.be (t.same (by simp))
  alts:=h.alts.keep h.roles.ba (t.same (by simp)) t.keep.block t.roles
  rows:=h.rows.keep h.roles.br (t.same (by rintro R (rfl | ⟨x,rfl⟩) (h | ⟨y,h⟩) <;> cases h)) t.roles
  pushed:=h.pushed.keep h.roles.bp (t.same (by simp))
  bok:=hok
  mb:=hl }
theorem RunM.setAlts (h:RunM C p left w0 ρ m w) {A:List Al} (hg:w.grownBy w' (some C.ba)) (hA:AltsW C left ρ A w') (hok:∀ a∈A,AlOk a) (hl:A.length<=4398046511104) :
  RunM C p left w0 ρ { m with alts:=A } w' /\ KeepR ρ w w':=by
 have hkeep:KeepR ρ w w':=KeepR.grown hg (fun b e=>by injection e with e;subst e;rw [h.roles.ba];simp);have hs:∀ Q:Role->Prop,¬ Q .malts->SameQ Q ρ w w':=fun Q hQ=>SameQ.grown hg (fun b R e hR=>by injection e with e;subst e;rw [h.roles.ba] at hR;injection hR with hR;subst hR;exact hQ)
 have hr:=Roles.refl w.heap.size ρ;exact ⟨{ h with
  low:=hkeep.low h.low h.low.size h.above
  lt:=fun b hb2=>nL (h.lt b hb2) hg.size
  box:=(hs (·=.box) (by simp) _ _ h.box.lt h.roles.rb rfl).trans h.box
  back:=h.back.keep h.roles.bb (hs _ (by simp)) hr
  edges:=h.edges.keep h.roles.be (hs _ (by simp))
  alts:=hA
  rows:=h.rows.keep h.roles.br (hs _ (by simp)) hr
  pushed:=h.pushed.keep h.roles.bp (hs _ (by simp))
  aok:=hok
  ma:=hl },hkeep⟩
theorem PushedW.push {N:List Nd} {pb:Nat} {x:Nd} {f:Lit->Option Value} {c:Nd->Nat} (hx:NdOk x) (hc:∀ y,(c y=0↔y ∉ N) /\ c y<=pb) (hf:∀ y,NdOk y->f (kNd y)=if c y=0 then none else some (.int .i64 (c y:Int)))
  (hm:MapS Tryz.prog 150 w' C.bp (if (f (kNd x)).isSome then N.length else N.length+1) (putV f (kNd x) (.int .i64 ((c x:Int)+1)))):PushedW C (if x∈N then N else N++[x]) (pb+1) w':=by
 refine ⟨putV f (kNd x) (.int .i64 ((c x:Int)+1)),fun y=>if y=x then c x+1 else c y,?_,fun y=>?_,fun y hy=>?_⟩
 ·have e:(if (f (kNd x)).isSome then N.length else N.length+1)=(if x∈N then N else N++[x]).length:=by
   rw [hf x hx]
   by_cases h0:c x=0
   ·have:=(hc x).1.1 h0;simp [h0,this]
   ·have h1:x∈N:=Classical.byContradiction fun h=>h0 ((hc x).1.2 h);simp [h0,h1]
  rw [e] at hm;exact hm
 ·have h1:=(hc x).2;have h2:=hc y
  by_cases e:y=x
  ·subst e;dsimp only;rw [if_pos rfl];refine ⟨⟨fun h=>by omega,fun h=>absurd ?_ h⟩,by omega⟩
   by_cases h3:y∈N <;> simp [h3]
  ·dsimp only;rw [if_neg e];refine ⟨⟨fun h=>?_,fun h=>?_⟩,by omega⟩
   ·have:=h2.1.1 h
    by_cases h3:x∈N <;> simp [h3,this,e]
   ·refine h2.1.2 fun h3=>h ?_
    by_cases h4:x∈N <;> simp [h4,h3]
 ·by_cases e:y=x
  ·subst e;rw [putV_same _ _ ((Keyed.of_law ndLaw).key (keyOf_nd y hx))];simp
  ·rw [putV_other _ _ (fun h=>e (kNd_inj hy hx h)),hf y hy];simp only [if_neg e]
theorem rowN_snoc (N:List Nd) (a b i:Nat):rowN (N++[(a,b)]) i=if i=b then rowN N b++[a] else rowN N i:=by
 unfold rowN;rw [List.filter_append,List.map_append]
 by_cases e:i=b
 ·subst e;simp
 ·rw [if_neg e];simp [Ne.symm e]
theorem backF_snoc (E:List (Nd × Nd)) (x y z:Nd):backF (E++[(x,y)]) z=if z=x then backF E x++[y] else backF E z:=by
 unfold backF;rw [List.filter_append,List.map_append]
 by_cases e:z=x
 ·subst e;simp
 ·rw [if_neg e];have:(x==z)=false:=by simpa using Ne.symm e
  simp [this]
theorem RunM.pushRow (h:RunM C p left w0 ρ m w) {a b:Nat} (hx:NdOk (a,b)) (hl:m.nodes.length<4398046511104)
  {k:Nat} {f:Lit->Option Value} {vr:Nat->Value} (h1:MapS Tryz.prog 3 w C.br k f) (h2:k<=m.nodes.length) (h3:∀ z:Int,f (.int .i64 z)=if 0<=z /\ rowN m.nodes z.toNat≠[] then some (vr z.toNat) else none)
  (h4:∀ i,w.ownsRow 0 3 1 (vr i) (rowN m.nodes i).length (flatK encN (rowN m.nodes i)) /\ (∀ b,(vr i).ownBlock=some b->ρ b=some (.irow i)) /\ (rowN m.nodes i=[]->vr i=.slice none 0 0))
  {v':Value} {w5 w6:World} (hg5:w.grownBy w5 (vr b).ownBlock) (ho:w5.ownsRow 0 3 1 v' ((rowN m.nodes b).length+1) (flatK encN (rowN m.nodes b)++encN a))
  (hb:∀ q,v'.ownBlock=some q->(vr b).ownBlock=some q∨w.heap.size<=q) (hg6:w5.grownBy w6 (some C.br)) {k':Nat} (hk:k'<=k+1) (hm6:MapS Tryz.prog 3 w6 C.br k' (putV f (.int .i64 b) v')) :
  ∃ ρ',RunM C p left w0 ρ' { m with nodes:=m.nodes++[(a,b)] } w6 /\ KeepR ρ w w6 /\ Roles w.heap.size ρ ρ':=by
 have hrole:∀ q,(vr b).ownBlock=some q->ρ q=some (.irow b):=(h4 b).2.1;have t:Turn (fun R=>R=.mrows∨∃ i,R=.irow i) ρ (fun q=>if v'.ownBlock=some q then some (.irow b) else ρ q) w w6:=by
  refine ⟨hg6.os.trans hg5.os,hg6.tape.trans hg5.tape,hg6.output.trans hg5.output,Nat.le_trans hg5.size hg6.size,fun q hq hR=>?_,fun q hq=>?_,fun q hq hn=>?_⟩
  ·refine (hg6.block q (nL hq hg5.size) (fun e=>?_)).trans (hg5.block q hq fun e=>?_)
   ·injection e with e;subst e;exact hR _ h.roles.br (.inl rfl)
   ·exact hR _ (hrole q e.symm) (.inr ⟨b,rfl⟩)
  ·by_cases e:v'.ownBlock=some q
   ·rw [if_pos e]
    rcases hb q e with e2 | e2
    ·exact (hrole q e2).symm
    ·omega
   ·rw [if_neg e]
  ·by_cases e:v'.ownBlock=some q
   ·exact nL (own_lt ho e) hg6.size
   ·rw [if_neg e] at hn;have:=h.lt q hn;omega
 refine ⟨_,h.setRows t ⟨k',putV f (.int .i64 b) v',fun i=>if i=b then v' else vr i,hm6,by rw [List.length_append,List.length_singleton];omega,fun z=>?_,fun i=>?_⟩ (fun y hy=>?_) (by rw [List.length_append,List.length_singleton];omega),t.keep,t.roles⟩
 ·rw [putV_int,rowN_snoc]
  by_cases e:z=(b:Int)
  ·subst e;simp
  ·rw [if_neg e,h3]
   by_cases h0:0<=z
   ·have e2:¬ z.toNat=b:=by omega
    simp only [if_neg e2]
   ·simp [h0]
 ·rw [rowN_snoc]
  by_cases e:i=b
  ·subst e;rw [if_pos rfl];dsimp only;rw [if_pos rfl];refine ⟨?_,fun q hq=>by rw [if_pos hq],fun hh=>by simp at hh⟩
   have:=own_of_block (w':=w6) ho fun q hq=>hg6.block q (own_lt ho hq) (fun e=>by
    injection e with e;subst e
    rcases hb _ hq with e2 | e2
    ·have:=hrole _ e2;rw [h.roles.br] at this;cases this
    ·have:=h.lt C.br (by rw [h.roles.br];simp);omega)
   rw [flatK_snoc] at this;rw [List.length_append,List.length_singleton];exact this
  ·rw [if_neg e];dsimp only;rw [if_neg e];obtain ⟨k1,k2,k3⟩:=h4 i;refine ⟨own_of_block k1 fun q hq=>?_,fun q hq=>?_,k3⟩
   ·have hq1:=own_lt k1 hq;refine (hg6.block q (nL hq1 hg5.size) (fun e2=>?_)).trans (hg5.block q hq1 fun e2=>?_)
    ·injection e2 with e2;subst e2;have:=k2 _ hq;rw [h.roles.br] at this;cases this
    ·have h5:=hrole q e2.symm;rw [k2 q hq] at h5;injection h5 with h5;injection h5 with h5;exact e h5
   ·rw [if_neg (fun e2=>?_)]
    ·exact k2 q hq
    ·rcases hb q e2 with e3 | e3
     ·have h5:=hrole q e3;rw [k2 q hq] at h5;injection h5 with h5;injection h5 with h5;exact e h5
     ·have:=own_lt k1 hq;omega
 ·rcases List.mem_append.1 hy with hy | hy
  ·exact h.nok y hy
  ·rw [List.mem_singleton] at hy;subst hy;exact hx
theorem RunM.pushBack (h:RunM C p left w0 ρ m w) {x y:Nd} (hx:NdOk x) (hy:NdOk y) (hl:m.back.length<4398046511104)
  {k:Nat} {f:Lit->Option Value} {vb:Nd->Value} (h1:MapS Tryz.prog 150 w C.bb k f) (h2:k<=m.back.length) (h3:∀ x,NdOk x->f (kNd x)=if backF m.back x=[] then none else some (vb x))
  (h4:∀ x,w.ownsRow 0 150 2 (vb x) (backF m.back x).length (flatK encNd (backF m.back x)) /\ (∀ b,(vb x).ownBlock=some b->ρ b=some (.brow x)) /\ (backF m.back x=[]->vb x=.slice none 0 0))
  {v':Value} {w5 w6:World} (hg5:w.heap.size<=w5.heap.size) (hb5:∀ q,q<w.heap.size->(vb x).ownBlock≠some q->q≠C.bb->w5.heap[q]?=w.heap[q]?) (hos:w5.os=w.os /\ w5.tape=w.tape /\ w5.output=w.output) (ho:w5.ownsRow 0 150 2 v' ((backF m.back x).length+1) (flatK encNd (backF m.back x)++encNd y))
  (hb:∀ q,v'.ownBlock=some q->(vb x).ownBlock=some q∨w.heap.size<=q) (hg6:w5.grownBy w6 (some C.bb)) {k':Nat} (hk:k'<=k+1) (hm6:MapS Tryz.prog 150 w6 C.bb k' (putV f (kNd x) v')) :
  ∃ ρ',RunM C p left w0 ρ' { m with back:=m.back++[(x,y)] } w6 /\ KeepR ρ w w6 /\ Roles w.heap.size ρ ρ':=by
 have hrole:∀ q,(vb x).ownBlock=some q->ρ q=some (.brow x):=(h4 x).2.1;have t:Turn (fun R=>R=.mback∨∃ i,R=.brow i) ρ (fun q=>if v'.ownBlock=some q then some (.brow x) else ρ q) w w6:=by
  refine ⟨hg6.os.trans hos.1,hg6.tape.trans hos.2.1,hg6.output.trans hos.2.2,Nat.le_trans hg5 hg6.size,fun q hq hR=>?_,fun q hq=>?_,fun q hq hn=>?_⟩
  ·have hqb:q≠C.bb:=fun e=>by subst e;exact hR _ h.roles.bb (.inl rfl)
   refine (hg6.block q (nL hq hg5) (fun e=>?_)).trans (hb5 q hq (fun e=>?_) hqb)
   ·injection e with e;exact hqb e
   ·exact hR _ (hrole q e) (.inr ⟨x,rfl⟩)
  ·by_cases e:v'.ownBlock=some q
   ·rw [if_pos e]
    rcases hb q e with e2 | e2
    ·exact (hrole q e2).symm
    ·omega
   ·rw [if_neg e]
  ·by_cases e:v'.ownBlock=some q
   ·exact nL (own_lt ho e) hg6.size
   ·rw [if_neg e] at hn;have:=h.lt q hn;omega
 refine ⟨_,h.setBack t ⟨k',putV f (kNd x) v',fun i=>if i=x then v' else vb i,hm6,by rw [List.length_append,List.length_singleton];omega,fun z hz=>?_,fun i=>?_⟩ (fun e he=>?_) (by rw [List.length_append,List.length_singleton];omega),t.keep,t.roles⟩
 ·rw [backF_snoc]
  by_cases e:z=x
  ·subst e;rw [putV_same _ _ ((Keyed.of_law ndLaw).key (keyOf_nd z hx))];simp
  ·rw [putV_other _ _ (fun h=>e (kNd_inj hz hx h)),h3 z hz];simp only [if_neg e]
 ·rw [backF_snoc]
  by_cases e:i=x
  ·subst e;rw [if_pos rfl];dsimp only;rw [if_pos rfl];refine ⟨?_,fun q hq=>by rw [if_pos hq],fun hh=>by simp at hh⟩
   have:=own_of_block (w':=w6) ho fun q hq=>hg6.block q (own_lt ho hq) (fun e=>by
    injection e with e;subst e
    rcases hb _ hq with e2 | e2
    ·have:=hrole _ e2;rw [h.roles.bb] at this;cases this
    ·have:=h.lt C.bb (by rw [h.roles.bb];simp);omega)
   rw [flatK_snoc] at this;rw [List.length_append,List.length_singleton];exact this
  ·rw [if_neg e];dsimp only;rw [if_neg e];obtain ⟨k1,k2,k3⟩:=h4 i;refine ⟨own_of_block k1 fun q hq=>?_,fun q hq=>?_,k3⟩
   ·have hq1:=own_lt k1 hq;have hqb:q≠C.bb:=fun e2=>by subst e2;have:=k2 _ hq;rw [h.roles.bb] at this;cases this
    refine (hg6.block q (nL hq1 hg5) (fun e2=>?_)).trans (hb5 q hq1 (fun e2=>?_) hqb)
    ·injection e2 with e2;exact hqb e2
    ·have h5:=hrole q e2;rw [k2 q hq] at h5;injection h5 with h5;injection h5 with h5;exact e h5
   ·rw [if_neg (fun e2=>?_)]
    ·exact k2 q hq
    ·rcases hb q e2 with e3 | e3
     ·have h5:=hrole q e3;rw [k2 q hq] at h5;injection h5 with h5;injection h5 with h5;exact e h5
     ·have:=own_lt k1 hq;omega
 ·rcases List.mem_append.1 he with he | he
  ·exact h.bok e he
  ·rw [List.mem_singleton] at he;subst he;exact ⟨hx,hy⟩
theorem EdgesW.tried {E T:List (Nd × Nd)} {x y:Nd} {f:Lit->Option Value} (hx:NdOk x) (hy:NdOk y) (hE:∀ e∈E,NdOk e.1 /\ NdOk e.2) (hT:∀ e,e∈T↔e∈E) (hf:∀ x y,NdOk x->NdOk y->f (kEd x y)=if (x,y)∈E then some (.int .i64 (T.count (x,y):Int)) else none)
  (hm:MapS Tryz.prog 213 w' C.be (if (f (kEd x y)).isSome then E.length else E.length+1) (putV f (kEd x y) (.int .i64 ((T.count (x,y):Int)+1)))) :
  EdgesW C (if (x,y)∈E then E else E++[(x,y)]) (T++[(x,y)]) w':=by
 refine ⟨putV f (kEd x y) (.int .i64 ((T.count (x,y):Int)+1)),?_,fun u v hu hv=>?_⟩
 ·have e:(if (f (kEd x y)).isSome then E.length else E.length+1)=(if (x,y)∈E then E else E++[(x,y)]).length:=by
   rw [hf x y hx hy]
   by_cases h0:(x,y)∈E <;> simp [h0]
  rw [e] at hm;exact hm
 ·rw [List.count_append]
  by_cases e:u=x /\ v=y
  ·obtain ⟨rfl,rfl⟩:=e;rw [putV_same _ _ ((Keyed.of_law edLaw).key (keyOf_ed u v hu hv))]
   by_cases h0:(u,v)∈E <;> simp [h0]
  ·rw [putV_other _ _ (fun h=>e (kEd_inj hu hv hx hy h)),hf u v hu hv];have hne:(u,v)≠(x,y):=fun h=>by injection h with h1 h2;exact e ⟨h1,h2⟩
   have h3:([(x,y)]:List (Nd × Nd)).count (u,v)=0:=by rw [List.count_eq_zero];simpa using hne
   rw [h3,Nat.add_zero]
   by_cases h0:(x,y)∈E
   ·simp [h0]
   ·simp only [h0,if_false,List.mem_append,List.mem_singleton]
    by_cases h1:(u,v)∈E <;> simp [h1,hne]
end
def stopP:List PanicEntry:=[{ v:=.iface 147 (.agg #[]),recovered:=false }]
theorem heap_lt {w:World} {b:Nat} {o:Obj} (h:w.heap[b]?=some o):b<w.heap.size:=(Array.getElem?_eq_some_iff.1 h).1
theorem box_cells {C:RC} {p:RP} {left:Nat} {w:World} (h:Blk w C.rb 81 (boxC C p left)) :
  w.cell? ⟨C.rb,7,none⟩=some (.int .i64 left) /\ w.cell? ⟨C.rb,8,none⟩=some (.map (some C.bb)) /\ w.cell? ⟨C.rb,9,none⟩=some (.map (some C.be)) /\ w.cell? ⟨C.rb,10,none⟩=some (.map (some C.ba)) /\
  w.cell? ⟨C.rb,11,none⟩=some (.map (some C.br)) /\ w.cell? ⟨C.rb,12,none⟩=some (.map (some C.bp)) /\ (∀ i,w.frozen? ⟨C.rb,i,none⟩=false) :=
 ⟨h.cell 7,h.cell 8,h.cell 9,h.cell 10,h.cell 11,h.cell 12,h.frozen⟩
theorem step_go (C:RC) (p:RP) (left:Nat) (hl:left<=4611686018427387904) (w:World) (h:Blk w C.rb 81 (boxC C p (left+1))) :
  Calls Tryz.prog 124 #[.pointer (some ⟨C.rb,0,none⟩)] w fun e w'=>e=.returned (.tuple #[]) /\ w'=w.setCell ⟨C.rb,7,none⟩ (.int .i64 left):=by
 obtain ⟨b7,_,_,_,_,_,bz⟩:=box_cells h;have hlt:=h.lt;have hw:IntKind.i64.wrap (((left+1:Nat):Int) - 1)=(left:Int):=by rw [show (((left+1:Nat):Int) - 1)=left by omega];exact IntWalk.i64_in _ (by omega)
 have hd:decide ((left:Int)<0)=false:=decide_eq_false (by omega);clear h;go_enter Tryz.func124,Tryz.ntmps124;go_wp2_with fail
 go_end0
 exact ⟨rfl,rfl⟩
theorem step_stop (C:RC) (p:RP) (w:World) (h:Blk w C.rb 81 (boxC C p 0)) :
  Calls Tryz.prog 124 #[.pointer (some ⟨C.rb,0,none⟩)] w fun e w'=>e=.panicked stopP /\ w'=w.setCell ⟨C.rb,7,none⟩ (.int .i64 (-1)):=by
 obtain ⟨b7,_,_,_,_,_,bz⟩:=box_cells h;have hlt:=h.lt;have hw:IntKind.i64.wrap (((0:Nat):Int) - 1)=-1:=by decide
 clear h;go_enter Tryz.func124,Tryz.ntmps124;go_wp2_with fail
 exact A3 rfl rfl rfl
end Go.Proofs.YthiochcpmfkgcaaGreatDoor.Gl
namespace Go.Proofs
open Go.Shelf
def Tryz.lays169_ren:Go.Shelf.Ren:=⟨fun | 169=>84 | n=>n,fun | 70=>158 | 9=>9 | 0=>0 | 72=>160 | 37=>55 | 127=>194 | 3=>3 | 5=>5 | n=>n,fun | n=>n⟩
theorem Tryz.lays169:Go.Proofs.Lays.n169 Tryz.prog Tryz.lays169_ren:={
 mixed:=by kernel_rfl
 f169:=Tryz.func84.trans (congrArg some (by kernel_rfl))
 t0:=Tryz.underlying0
 a0:=Tryz.isAgg0
 z0:=Tryz.sizeOf0
 v0:=Tryz.zeroValue0
 t3:=Tryz.underlying3
 a3:=Tryz.isAgg3
 z3:=Tryz.sizeOf3
 v3:=Tryz.zeroValue3
 t9:=Tryz.underlying9
 a9:=Tryz.isAgg9
 z9:=Tryz.sizeOf9
 v9:=Tryz.zeroValue9
 t37:=Tryz.underlying55
 a37:=Tryz.isAgg55
 z37:=Tryz.sizeOf55
 v37:=Tryz.zeroValue55
 t70:=Tryz.underlying158
 a70:=Tryz.isAgg158
 z70:=Tryz.sizeOf158
 v70:=Tryz.zeroValue158
 t72:=Tryz.underlying160
 a72:=Tryz.isAgg160
 z72:=Tryz.sizeOf160
 v72:=Tryz.zeroValue160
 t127:=Tryz.underlying194
 a127:=Tryz.isAgg194
 z127:=Tryz.sizeOf194
 v127:=Tryz.zeroValue194 }
theorem Tryz.Builder_Extra_169:Builder.Extra Tryz.prog Tryz.lays169_ren:={
 sizeBuilder:=by kernel_rfl
 liesBuilder:=by kernel_rfl
 t5:=Tryz.underlying5
 a5:=Tryz.isAgg5
 z5:=Tryz.sizeOf5
 v5:=Tryz.zeroValue5
 infoByte:=by kernel_rfl
 cellsByte:=by kernel_rfl
 sizeByte:=by kernel_rfl
 neB5:=by decide }
def Tryz.lays125_ren:Go.Shelf.Ren:=⟨fun | 125=>76 | 128=>102 | 129=>103 | n=>n,fun | 46=>155 | 3=>3 | 51=>189 | 53=>31 | 4=>4 | 5=>5 | 9=>9 | n=>n,fun | n=>n⟩
theorem Tryz.lays125:Go.Proofs.Lays.n125 Tryz.prog Tryz.lays125_ren:={
 mixed:=by kernel_rfl
 f125:=Tryz.func76.trans (congrArg some (by kernel_rfl))
 f128:=Tryz.func102.trans (congrArg some (by kernel_rfl))
 f129:=Tryz.func103.trans (congrArg some (by kernel_rfl))
 t3:=Tryz.underlying3
 a3:=Tryz.isAgg3
 z3:=Tryz.sizeOf3
 v3:=Tryz.zeroValue3
 t4:=Tryz.underlying4
 a4:=Tryz.isAgg4
 z4:=Tryz.sizeOf4
 v4:=Tryz.zeroValue4
 t5:=Tryz.underlying5
 a5:=Tryz.isAgg5
 z5:=Tryz.sizeOf5
 v5:=Tryz.zeroValue5
 t9:=Tryz.underlying9
 a9:=Tryz.isAgg9
 z9:=Tryz.sizeOf9
 v9:=Tryz.zeroValue9
 t46:=Tryz.underlying155
 a46:=Tryz.isAgg155
 z46:=Tryz.sizeOf155
 v46:=Tryz.zeroValue155
 t51:=Tryz.underlying189
 a51:=Tryz.isAgg189
 z51:=Tryz.sizeOf189
 v51:=Tryz.zeroValue189
 t53:=Tryz.underlying31
 a53:=Tryz.isAgg31
 z53:=Tryz.sizeOf31
 v53:=Tryz.zeroValue31 }
theorem Tryz.bits_Len (x:Int) (w:World) (h0:0<=x) (h1:x<=18446744073709551615) :
  Calls Tryz.prog 76 #[.int .u64 x] w fun e w'=>e=.returned (.int .i64 (Lib.bitLen x.toNat)) /\ w'=w:=Any.bits_Len Tryz.lays125 x w h0 h1
open Go.RowKit in
/-- (*strings.Builder).String: "String returns the accumulated string.": WHATEVER THE BUILDER HOLDS; THE FORM '_f': OF A BUILDER THAT MAY HAVE BEEN READ BEFORE; AND IT IS A BUILDER STILL, holding the same bytes: it can be written on. (LAID: no walk: one application.) -/
theorem Tryz.Builder_String_any_f (B b:Nat) (l:List UInt8) (w:World) (h:Lib.IsBuilderF 160 5 B b (Lib.byteCells l) w) (hBw:B<=w.heap.size) :
    Calls Tryz.prog 84 #[.pointer (some ⟨b,0,none⟩)] w fun e w'=>e=.returned (.string ⟨l.toArray⟩) /\ (Lib.IsBuilderF 160 5 B b (Lib.byteCells l) w' /\ Below B w w'):=Any.Builder_String_any_f Tryz.lays169 Tryz.Builder_Extra_169 B b l w h hBw
def Tryz.laysM171_ren:Go.Shelf.Ren:=⟨fun | 171=>83 | 243=>111 | 246=>134 | 283=>157 | 284=>158 | 285=>159 | 286=>160 | 129=>103 | 317=>177 | 318=>178 | 319=>179 | 320=>180 | 337=>186 | 338=>173 | n=>n,fun | 3=>3 | 9=>9 | 2=>2 | 4=>4 | 171=>245 | 0=>0 | 53=>31 | 37=>55 | 5=>5 | 173=>247 | 212=>260 | 51=>189 | 20=>20 | 213=>261 | 46=>155 | 232=>268 | 233=>265 | n=>n,fun | 17=>0 | 18=>2 | 19=>1 | n=>n⟩
theorem Tryz.laysM171:Go.Proofs.LaysM.n171 Tryz.prog Tryz.laysM171_ren:={
 mixed:=by kernel_rfl
 f129:=Tryz.func103.trans (congrArg some (by kernel_rfl))
 f171:=Tryz.func83.trans (congrArg some (by kernel_rfl))
 f243:=Tryz.func111.trans (congrArg some (by kernel_rfl))
 f246:=Tryz.func134.trans (congrArg some (by kernel_rfl))
 f283:=Tryz.func157.trans (congrArg some (by kernel_rfl))
 f284:=Tryz.func158.trans (congrArg some (by kernel_rfl))
 f285:=Tryz.func159.trans (congrArg some (by kernel_rfl))
 f286:=Tryz.func160.trans (congrArg some (by kernel_rfl))
 f317:=Tryz.func177.trans (congrArg some (by kernel_rfl))
 f318:=Tryz.func178.trans (congrArg some (by kernel_rfl))
 f319:=Tryz.func179.trans (congrArg some (by kernel_rfl))
 f320:=Tryz.func180.trans (congrArg some (by kernel_rfl))
 f337:=Tryz.func186.trans (congrArg some (by kernel_rfl))
 f338:=Tryz.func173.trans (congrArg some (by kernel_rfl))
 t0:=Tryz.underlying0
 a0:=Tryz.isAgg0
 z0:=Tryz.sizeOf0
 v0:=Tryz.zeroValue0
 t2:=Tryz.underlying2
 a2:=Tryz.isAgg2
 z2:=Tryz.sizeOf2
 v2:=Tryz.zeroValue2
 t3:=Tryz.underlying3
 a3:=Tryz.isAgg3
 z3:=Tryz.sizeOf3
 v3:=Tryz.zeroValue3
 t4:=Tryz.underlying4
 a4:=Tryz.isAgg4
 z4:=Tryz.sizeOf4
 v4:=Tryz.zeroValue4
 t5:=Tryz.underlying5
 a5:=Tryz.isAgg5
 z5:=Tryz.sizeOf5
 v5:=Tryz.zeroValue5
 t9:=Tryz.underlying9
 a9:=Tryz.isAgg9
 z9:=Tryz.sizeOf9
 v9:=Tryz.zeroValue9
 t20:=Tryz.underlying20
 a20:=Tryz.isAgg20
 z20:=Tryz.sizeOf20
 v20:=Tryz.zeroValue20
 t37:=Tryz.underlying55
 a37:=Tryz.isAgg55
 z37:=Tryz.sizeOf55
 v37:=Tryz.zeroValue55
 t46:=Tryz.underlying155
 a46:=Tryz.isAgg155
 z46:=Tryz.sizeOf155
 v46:=Tryz.zeroValue155
 t51:=Tryz.underlying189
 a51:=Tryz.isAgg189
 z51:=Tryz.sizeOf189
 v51:=Tryz.zeroValue189
 t53:=Tryz.underlying31
 a53:=Tryz.isAgg31
 z53:=Tryz.sizeOf31
 v53:=Tryz.zeroValue31
 t171:=Tryz.underlying245
 a171:=Tryz.isAgg245
 z171:=Tryz.sizeOf245
 v171:=Tryz.zeroValue245
 t173:=Tryz.underlying247
 a173:=Tryz.isAgg247
 z173:=Tryz.sizeOf247
 v173:=Tryz.zeroValue247
 t212:=Tryz.underlying260
 a212:=Tryz.isAgg260
 z212:=Tryz.sizeOf260
 v212:=Tryz.zeroValue260
 t213:=Tryz.underlying261
 a213:=Tryz.isAgg261
 z213:=Tryz.sizeOf261
 t232:=Tryz.underlying268
 a232:=Tryz.isAgg268
 z232:=Tryz.sizeOf268
 v232:=Tryz.zeroValue268
 t233:=Tryz.underlying265
 a233:=Tryz.isAgg265
 z233:=Tryz.sizeOf265
 v233:=Tryz.zeroValue265
 g17:=by kernel_rfl
 g18:=by kernel_rfl
 g19:=by kernel_rfl
 i0:=by kernel_rfl
 i2:=by kernel_rfl
 i3:=by kernel_rfl
 i4:=by kernel_rfl
 i5:=by kernel_rfl
 i9:=by kernel_rfl
 i20:=by kernel_rfl
 i37:=by kernel_rfl
 i46:=by kernel_rfl
 i51:=by kernel_rfl
 i53:=by kernel_rfl
 i171:=by kernel_rfl
 i173:=by kernel_rfl
 i212:=by kernel_rfl
 i232:=by kernel_rfl
 i233:=by kernel_rfl
 m17:=by kernel_rfl
 m18:=by kernel_rfl
 m19:=by kernel_rfl }
open Go.RowKit Go.Sort Go.Lib in
/-- strconv.Itoa: "Itoa is equivalent to FormatInt(int64(i), 10).": i's DECIMAL NUMERAL ('Lib.itoa': a '-' where i is negative, then the digits), FOR EVERY int. The world behind the call: the world before it, new blocks behind the heap (the library's 'var a [24]byte'), draws. (LAID: no walk: one application.) -/
theorem Tryz.strconv_Itoa (n:Int) (h0:-9223372036854775808<=n) (h1:n<=9223372036854775807) (w:World) (htab:Lib.TabIs Tryz.prog w "internal/strconv.uint64pow10" .u64 Lib.pow10Tab) :
    Calls Tryz.prog 83 #[.int .i64 n] w fun e w'=>e=.returned (.string ⟨(Lib.itoa n).toArray⟩) /\ ∃ k os,w'=grow (w.drewN k) os:=Any.strconv_Itoa Tryz.laysM171 n h0 h1 w htab
def Tryz.lays171_ren:Go.Shelf.Ren:=⟨fun | 171=>83 | 243=>111 | 246=>134 | 283=>157 | 284=>158 | 285=>159 | 286=>160 | 129=>103 | 317=>177 | 318=>178 | 319=>179 | 320=>180 | 337=>186 | 338=>173 | n=>n,fun | 3=>3 | 9=>9 | 2=>2 | 4=>4 | 171=>245 | 0=>0 | 53=>31 | 37=>55 | 5=>5 | 173=>247 | 212=>260 | 51=>189 | 20=>20 | 213=>261 | 46=>155 | 232=>268 | 233=>265 | n=>n,fun | 17=>0 | 18=>2 | 19=>1 | n=>n⟩
theorem Tryz.lays171:Go.Proofs.Lays.n171 Tryz.prog Tryz.lays171_ren:={
 mixed:=by kernel_rfl
 f129:=Tryz.func103.trans (congrArg some (by kernel_rfl))
 f171:=Tryz.func83.trans (congrArg some (by kernel_rfl))
 f243:=Tryz.func111.trans (congrArg some (by kernel_rfl))
 f246:=Tryz.func134.trans (congrArg some (by kernel_rfl))
 f283:=Tryz.func157.trans (congrArg some (by kernel_rfl))
 f284:=Tryz.func158.trans (congrArg some (by kernel_rfl))
 f285:=Tryz.func159.trans (congrArg some (by kernel_rfl))
 f286:=Tryz.func160.trans (congrArg some (by kernel_rfl))
 f317:=Tryz.func177.trans (congrArg some (by kernel_rfl))
 f318:=Tryz.func178.trans (congrArg some (by kernel_rfl))
 f319:=Tryz.func179.trans (congrArg some (by kernel_rfl))
 f320:=Tryz.func180.trans (congrArg some (by kernel_rfl))
 f337:=Tryz.func186.trans (congrArg some (by kernel_rfl))
 f338:=Tryz.func173.trans (congrArg some (by kernel_rfl))
 t0:=Tryz.underlying0
 a0:=Tryz.isAgg0
 z0:=Tryz.sizeOf0
 v0:=Tryz.zeroValue0
 t2:=Tryz.underlying2
 a2:=Tryz.isAgg2
 z2:=Tryz.sizeOf2
 v2:=Tryz.zeroValue2
 t3:=Tryz.underlying3
 a3:=Tryz.isAgg3
 z3:=Tryz.sizeOf3
 v3:=Tryz.zeroValue3
 t4:=Tryz.underlying4
 a4:=Tryz.isAgg4
 z4:=Tryz.sizeOf4
 v4:=Tryz.zeroValue4
 t5:=Tryz.underlying5
 a5:=Tryz.isAgg5
 z5:=Tryz.sizeOf5
 v5:=Tryz.zeroValue5
 t9:=Tryz.underlying9
 a9:=Tryz.isAgg9
 z9:=Tryz.sizeOf9
 v9:=Tryz.zeroValue9
 t20:=Tryz.underlying20
 a20:=Tryz.isAgg20
 z20:=Tryz.sizeOf20
 v20:=Tryz.zeroValue20
 t37:=Tryz.underlying55
 a37:=Tryz.isAgg55
 z37:=Tryz.sizeOf55
 v37:=Tryz.zeroValue55
 t46:=Tryz.underlying155
 a46:=Tryz.isAgg155
 z46:=Tryz.sizeOf155
 v46:=Tryz.zeroValue155
 t51:=Tryz.underlying189
 a51:=Tryz.isAgg189
 z51:=Tryz.sizeOf189
 v51:=Tryz.zeroValue189
 t53:=Tryz.underlying31
 a53:=Tryz.isAgg31
 z53:=Tryz.sizeOf31
 v53:=Tryz.zeroValue31
 t171:=Tryz.underlying245
 a171:=Tryz.isAgg245
 z171:=Tryz.sizeOf245
 v171:=Tryz.zeroValue245
 t173:=Tryz.underlying247
 a173:=Tryz.isAgg247
 z173:=Tryz.sizeOf247
 v173:=Tryz.zeroValue247
 t212:=Tryz.underlying260
 a212:=Tryz.isAgg260
 z212:=Tryz.sizeOf260
 v212:=Tryz.zeroValue260
 t213:=Tryz.underlying261
 a213:=Tryz.isAgg261
 z213:=Tryz.sizeOf261
 t232:=Tryz.underlying268
 a232:=Tryz.isAgg268
 z232:=Tryz.sizeOf268
 v232:=Tryz.zeroValue268
 t233:=Tryz.underlying265
 a233:=Tryz.isAgg265
 z233:=Tryz.sizeOf265
 v233:=Tryz.zeroValue265
 g17:=by kernel_rfl
 g18:=by kernel_rfl
 g19:=by kernel_rfl }
open Go.RowKit Go.Sort Go.Lib in
/-- THE ROAD WITHOUT THE TABLE: 0 <= i < 100: NO PREMISE ON THE WORLD, AND THE WORLD IS AS IT WAS: a row that keeps its argument in that range need list no table ('laid = []'). (LAID: no walk: one application.) -/
theorem Tryz.strconv_Itoa_small (i:Nat) (hi:i<100) (w:World) :
    Calls Tryz.prog 83 #[.int .i64 i] w fun e w'=>e=.returned (.string ⟨(Lib.decDigits i).toArray⟩) /\ w'=w:=Any.strconv_Itoa_small Tryz.lays171 i hi w
end Go.Proofs
