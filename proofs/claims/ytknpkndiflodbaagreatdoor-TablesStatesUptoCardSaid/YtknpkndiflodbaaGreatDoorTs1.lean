/- Walks and plain laws that the last text stands on: TbPureA. -/
import Derived.Lib.Hide
import Derived.Lib.ItoaNum
import Derived.KernelRfl
set_option linter.unusedVariables false
set_option linter.unusedSimpArgs false
set_option maxRecDepth 100000
set_option maxHeartbeats 16000000
theorem Go.Proofs.YtknpkndiflodbaaGreatDoor.An {a b : Prop} (h : a) (k : b) : a /\ b := And.intro h k
theorem Go.Proofs.YtknpkndiflodbaaGreatDoor.Hd {p : Prop} (h : p) : Go.RowKit.Hid p := Go.Lib.hid h
namespace Go.Proofs.YtknpkndiflodbaaGreatDoor.Tb
structure Sy where
 kind : Int
 set : Nat
 sort : Int
instance : DecidableEq Sy := fun a b =>
 if h : a.kind = b.kind /\ a.set = b.set /\ a.sort = b.sort then
  isTrue (by obtain ⟨a1, a2, a3⟩ := a; obtain ⟨b1, b2, b3⟩ := b; obtain ⟨h1, h2, h3⟩ := h; simp at h1 h2 h3; subst h1; subst h2; subst h3; rfl)
 else isFalse (by rintro rfl; exact h ⟨rfl, rfl, rfl⟩)
structure Pr where
 left : Int
 right : List Sy
 cons : List UInt8
 role : Int
 prefer : Bool
 avoid : Bool
 made : Int
structure Gr where
 sorts : List (List UInt8)
 prods : List Pr
 start : Int
 forbid : List (Int × Int × Int)
 follow : List (Int × Nat)
abbrev It := Nat × Nat
def rightOf (g : Gr) (n : Nat) : List Sy := ((g.prods[n]?).map (·.right)).getD []
def itemOk (g : Gr) (x : It) : Bool := x.1 < g.prods.length && x.2 <= (rightOf g x.1).length
def ofS (g : Gr) (s : Int) : List Nat :=
 (List.range g.prods.length).filter fun n => match g.prods[n]? with | some p => p.left == s && p.role != 11 | none => false
def aheadF (g : Gr) (x : It) : Option Sy := (rightOf g x.1)[x.2]?
def closeGo (g : Gr) : Nat -> Nat -> List Int -> List It -> List It
 | 0, _, _, out => out
 | f + 1, i, seen, out =>
  match out[i]? with
  | none => out
  | some x =>
   match aheadF g x with
   | none => closeGo g f (i + 1) seen out
   | some s =>
    if s.kind = 1 then
     if s.sort ∈ seen then closeGo g f (i + 1) seen out
     else closeGo g f (i + 1) (s.sort :: seen) (out ++ (ofS g s.sort).map (·, 0))
    else closeGo g f (i + 1) seen out
def itLe (a b : It) : Bool := a.1 < b.1 || (a.1 == b.1 && a.2 <= b.2)
def insIt (x : It) : List It -> List It
 | [] => [x]
 | y :: t => if itLe x y then x :: y :: t else y :: insIt x t
def sortIt (l : List It) : List It := l.foldr insIt []
def compactIt : List It -> List It
 | [] => []
 | [x] => [x]
 | x :: y :: t => if x = y then compactIt (y :: t) else x :: compactIt (y :: t)
def closedF (g : Gr) (l : List It) : List It := compactIt (sortIt (closeGo g (l.length + g.prods.length + 1) 0 [] l))
def numberF (all : List (List It)) (l : List It) : Option (Nat × List (List It)) :=
 match all.findIdx? (· == l) with
 | some n => some (n, all)
 | none => if 16384 <= all.length then none else some (all.length, all ++ [l])
def leastF (M : Nat) : Nat := ((List.range 256).find? fun b => M.testBit b).getD 0
def splitStep (parts : List Nat) (s : Nat) : List Nat :=
 parts.foldl (fun next p => [p &&& s, p &&& (2 ^ 256 - 1 - s)].foldl (fun next x => if x = 0 ∨ x ∈ next then next else next ++ [x]) next) []
def insSet (x : Nat) : List Nat -> List Nat
 | [] => [x]
 | y :: t => if leastF x <= leastF y then x :: y :: t else y :: insSet x t
def splitF (l : List Nat) : List Nat := (l.foldl splitStep [2 ^ 256 - 1]).foldr insSet []
def withinF (a b : Nat) : Bool := a &&& b == a
def insInt (x : Int) : List Int -> List Int
 | [] => [x]
 | y :: t => if x <= y then x :: y :: t else y :: insInt x t
def sortStep (g : Gr) (o : List Int) (x : It) : List Int := match aheadF g x with | some s => if s.kind = 1 /\ s.sort ∉ o then o ++ [s.sort] else o | none => o
def sortsOf (g : Gr) (l : List It) : List Int := (l.foldl (sortStep g) []).foldr insInt []
def setsOf (g : Gr) (l : List It) : List Nat := l.filterMap fun x => match aheadF g x with | some s => if s.kind = 0 then some s.set else none | none => none
def movedSort (g : Gr) (l : List It) (s : Int) : List It := (l.filter fun x => match aheadF g x with | some y => y.kind == 1 && y.sort == s | none => false).map fun x => (x.1, x.2 + 1)
def movedSet (g : Gr) (l : List It) (c : Nat) : List It := (l.filter fun x => match aheadF g x with | some y => y.kind == 0 && withinF c y.set | none => false).map fun x => (x.1, x.2 + 1)
def leadsF (g : Gr) (l : List It) : List (Sy × List It) :=
 ((sortsOf g l).map fun s => (⟨1, 0, s⟩, closedF g (movedSort g l s))) ++
 ((splitF (setsOf g l)).filterMap fun c => if (movedSet g l c).isEmpty then none else some (⟨0, c, 0⟩, closedF g (movedSet g l c)))
def numbersF : List (List It) -> List (Sy × List It) -> Option (List (Sy × Nat) × List (List It))
 | all, [] => some ([], all)
 | all, (s, l) :: t =>
  match numberF all l with
  | none => none
  | some (n, all') =>
   match numbersF all' t with
   | none => none
   | some (e, all'') => some ((s, n) :: e, all'')
structure St where
 items : List It
 edges : List (Sy × Nat)
 done : List Nat
def doneF (g : Gr) (l : List It) : List Nat := (l.filter fun x => x.2 == (rightOf g x.1).length).map (·.1)
def nextF (e : List (Sy × Nat)) : Nat := e.foldl (fun a x => if x.1.kind = 0 then a ||| x.1.set else a) 0
def statesGo (g : Gr) : Nat -> Nat -> List (List It) -> Option (List St)
 | 0, _, _ => some []
 | f + 1, n, all =>
  match all[n]? with
  | none => some []
  | some l =>
   match numbersF all (leadsF g l) with
   | none => none
   | some (e, all') => (statesGo g f (n + 1) all').map fun t => ⟨l, e, doneF g l⟩ :: t
def makeF (g : Gr) : Option (List St) := statesGo g 16385 0 [closedF g ((ofS g g.start).map (·, 0))]
theorem compactIt_cons (x y : It) (t : List It) : compactIt (x :: y :: t) = if x = y then compactIt (y :: t) else x :: compactIt (y :: t) := rfl
theorem closeGo_end (g : Gr) (f i : Nat) (seen : List Int) (out : List It) (h : out.length <= i) : closeGo g f i seen out = out := by
 cases f with
 | zero => rfl
 | succ f => rw [closeGo, List.getElem?_eq_none h]
end Go.Proofs.YtknpkndiflodbaaGreatDoor.Tb
namespace Go.Proofs.YtknpkndiflodbaaGreatDoor.Tb
open Go
def dgt (c : UInt8) : Bool := decide (48 <= c.toNat) && decide (c.toNat <= 57)
def valD (l : List UInt8) : Nat := l.foldl (fun a c => 10 * a + (c.toNat - 48)) 0
theorem dgt_of (k : Nat) (h : k < 10) : dgt (UInt8.ofNat (48 + k)) = true /\ (UInt8.ofNat (48 + k)).toNat - 48 = k := by
 have : (UInt8.ofNat (48 + k)).toNat = 48 + k := by simp; omega
 unfold dgt
 rw [this]
 simp; omega
theorem dec_told (u : Nat) : (Lib.decDigits u).all dgt = true /\ valD (Lib.decDigits u) = u := by
 induction u using Nat.strongRecOn with
 | _ u ih =>
  rw [Lib.decDigits]
  by_cases h : u < 10
  ·rw [dif_pos h]
   obtain ⟨h1, h2⟩ := dgt_of u h
   exact ⟨by rw [List.all_cons, h1]; rfl, by simp only [valD, List.foldl_cons, List.foldl_nil]; omega⟩
  ·rw [dif_neg h]
   obtain ⟨i1, i2⟩ := ih (u / 10) (by omega)
   obtain ⟨h1, h2⟩ := dgt_of (u % 10) (Nat.mod_lt _ (by decide))
   refine ⟨by rw [List.all_append, i1, List.all_cons, h1]; rfl, ?_⟩
   unfold valD at i2 ⊢
   rw [List.foldl_append, i2, List.foldl_cons, List.foldl_nil, h2]
   omega
theorem dec_inj {a b : Nat} (h : Lib.decDigits a = Lib.decDigits b) : a = b := by
 rw [<- (dec_told a).2, <- (dec_told b).2, h]
theorem take_dgt (D : List UInt8) (c : UInt8) (T : List UInt8) (h : D.all dgt = true) (hc : dgt c = false) : (D ++ c :: T).takeWhile dgt = D := by
 induction D with
 | nil => rw [List.nil_append, List.takeWhile_cons, if_neg (by rw [hc]; decide)]
 | cons d D ih =>
  rw [List.all_cons, Bool.and_eq_true] at h
  rw [List.cons_append, List.takeWhile_cons, if_pos h.1, ih h.2]
theorem part_dgt {D E : List UInt8} {c : UInt8} {T U : List UInt8} (hD : D.all dgt = true) (hE : E.all dgt = true) (hc : dgt c = false) (h : D ++ c :: T = E ++ c :: U) : D = E /\ T = U := by
 have h1 : D = E := by
  have := congrArg (List.takeWhile dgt) h
  rwa [take_dgt D c T hD hc, take_dgt E c U hE hc] at this
 subst h1
 have h2 := List.append_cancel_left h
 injection h2 with _ h2
 exact ⟨rfl, h2⟩
def keyIt (x : It) : List UInt8 := Lib.decDigits x.1 ++ 46 :: (Lib.decDigits x.2 ++ [32])
def keyF (l : List It) : List UInt8 := l.flatMap keyIt
theorem keyIt_cons (x : It) (t : List UInt8) : keyIt x ++ t = Lib.decDigits x.1 ++ 46 :: (Lib.decDigits x.2 ++ 32 :: t) := by simp [keyIt]
theorem keyIt_ne (x : It) (t : List UInt8) : keyIt x ++ t ≠ [] := by rw [keyIt_cons]; simp
theorem key_inj : ∀ (l k : List It), keyF l = keyF k -> l = k
 | [], [], _ => rfl
 | [], y :: k, h => absurd h.symm (by unfold keyF; rw [List.flatMap_cons]; exact keyIt_ne _ _)
 | x :: l, [], h => absurd h (by unfold keyF; rw [List.flatMap_cons]; exact keyIt_ne _ _)
 | x :: l, y :: k, h => by
  unfold keyF at h
  rw [List.flatMap_cons, List.flatMap_cons, keyIt_cons, keyIt_cons] at h
  obtain ⟨h1, h2⟩ := part_dgt (dec_told x.1).1 (dec_told y.1).1 (by decide) h
  obtain ⟨h3, h4⟩ := part_dgt (dec_told x.2).1 (dec_told y.2).1 (by decide) h2
  have hxy : x = y := Prod.ext (dec_inj h1) (dec_inj h3)
  rw [hxy, key_inj l k h4]
end Go.Proofs.YtknpkndiflodbaaGreatDoor.Tb
namespace Go.Proofs.YtknpkndiflodbaaGreatDoor.Tb
def prG (r : List Sy) : Pr := ⟨0, r, [], 0, false, false, -1⟩
def sampleG : Gr := ⟨[[83]], [prG [⟨1, 0, 0⟩, ⟨1, 0, 0⟩], prG [⟨0, 2 ^ 97 + 2 ^ 98, 0⟩], prG [⟨0, 2 ^ 98 + 2 ^ 99, 0⟩]], 0, [], []⟩
def tellSt (s : St) : List It × List (Int × Nat × Int × Nat) × List Nat := (s.items, s.edges.map (fun e => (e.1.kind, e.1.set, e.1.sort, e.2)), s.done)
theorem sample_states : (makeF sampleG).map (·.map tellSt) = some [
  ([(0, 0), (1, 0), (2, 0)], [(1, 0, 0, 1), (0, 2 ^ 97, 0, 2), (0, 2 ^ 98, 0, 3), (0, 2 ^ 99, 0, 4)], []),
  ([(0, 0), (0, 1), (1, 0), (2, 0)], [(1, 0, 0, 5), (0, 2 ^ 97, 0, 2), (0, 2 ^ 98, 0, 3), (0, 2 ^ 99, 0, 4)], []),
  ([(1, 1)], [], [1]),
  ([(1, 1), (2, 1)], [], [1, 2]),
  ([(2, 1)], [], [2]),
  ([(0, 0), (0, 1), (0, 2), (1, 0), (2, 0)], [(1, 0, 0, 5), (0, 2 ^ 97, 0, 2), (0, 2 ^ 98, 0, 3), (0, 2 ^ 99, 0, 4)], [0])] := by kernel_rfl
end Go.Proofs.YtknpkndiflodbaaGreatDoor.Tb
namespace Go.Proofs.YtknpkndiflodbaaGreatDoor.Tb
theorem insIt_perm (x : It) : ∀ l, (insIt x l).Perm (x :: l)
 | [] => .refl _
 | y :: t => by
  rw [insIt]; split
  ·exact .refl _
  ·exact ((insIt_perm x t).cons y).trans (.swap x y t)
theorem sortIt_perm : ∀ l : List It, (sortIt l).Perm l
 | [] => .refl _
 | x :: t => (insIt_perm x (sortIt t)).trans ((sortIt_perm t).cons x)
theorem itLe_iff (a b : It) : itLe a b = true ↔ a.1 < b.1 ∨ a.1 = b.1 /\ a.2 <= b.2 := by simp [itLe]
theorem itLe_total (a b : It) : itLe a b = true ∨ itLe b a = true := by simp only [itLe_iff]; omega
theorem itLe_trans {a b c : It} (h : itLe a b = true) (k : itLe b c = true) : itLe a c = true := by simp only [itLe_iff] at *; omega
theorem itLe_anti {a b : It} (h : itLe a b = true) (k : itLe b a = true) : a = b := by
 simp only [itLe_iff] at *
 obtain ⟨a1, a2⟩ := a; obtain ⟨b1, b2⟩ := b
 simp at *; omega
theorem insIt_sorted (x : It) : ∀ l : List It, l.Pairwise (fun a b => itLe a b = true) -> (insIt x l).Pairwise (fun a b => itLe a b = true)
 | [], _ => by simp [insIt]
 | y :: t, h => by
  rw [List.pairwise_cons] at h
  rw [insIt]; split
  ·rename_i hxy
   exact List.pairwise_cons.2 ⟨fun b hb => by
    rcases List.mem_cons.1 hb with rfl | hb
    ·exact hxy
    ·exact itLe_trans hxy (h.1 b hb), List.pairwise_cons.2 h⟩
  ·rename_i hxy
   have hyx : itLe y x = true := (itLe_total y x).resolve_right hxy
   refine List.pairwise_cons.2 ⟨fun b hb => ?_, insIt_sorted x t h.2⟩
   rcases List.mem_cons.1 ((insIt_perm x t).mem_iff.1 hb) with rfl | hb
   ·exact hyx
   ·exact h.1 b hb
theorem sortIt_sorted : ∀ l : List It, (sortIt l).Pairwise (fun a b => itLe a b = true)
 | [] => List.Pairwise.nil
 | x :: t => insIt_sorted x _ (sortIt_sorted t)
theorem sortIt_unique {l l' : List It} (hp : l'.Perm l) (hs : l'.Pairwise (fun a b => itLe a b = true)) : l' = sortIt l :=
 (hp.trans (sortIt_perm l).symm).eq_of_pairwise (fun a b _ _ h k => itLe_anti h k) hs (sortIt_sorted l)

theorem insSet_perm (x : Nat) : ∀ l, (insSet x l).Perm (x :: l)
 | [] => .refl _
 | y :: t => by
  rw [insSet]; split
  ·exact .refl _
  ·exact ((insSet_perm x t).cons y).trans (.swap x y t)
theorem sortSet_perm : ∀ l : List Nat, (l.foldr insSet []).Perm l
 | [] => .refl _
 | x :: t => (insSet_perm x _).trans ((sortSet_perm t).cons x)
theorem insSet_sorted (x : Nat) : ∀ l : List Nat, l.Pairwise (fun a b => leastF a <= leastF b) -> (insSet x l).Pairwise (fun a b => leastF a <= leastF b)
 | [], _ => by simp [insSet]
 | y :: t, h => by
  rw [List.pairwise_cons] at h
  rw [insSet]; split
  ·rename_i hxy
   exact List.pairwise_cons.2 ⟨fun b hb => by
    rcases List.mem_cons.1 hb with rfl | hb
    ·exact hxy
    ·exact Nat.le_trans hxy (h.1 b hb), List.pairwise_cons.2 h⟩
  ·rename_i hxy
   refine List.pairwise_cons.2 ⟨fun b hb => ?_, insSet_sorted x t h.2⟩
   rcases List.mem_cons.1 ((insSet_perm x t).mem_iff.1 hb) with rfl | hb
   ·omega
   ·exact h.1 b hb
theorem sortSet_sorted : ∀ l : List Nat, (l.foldr insSet []).Pairwise (fun a b => leastF a <= leastF b)
 | [] => List.Pairwise.nil
 | x :: t => insSet_sorted x _ (sortSet_sorted t)

theorem insInt_perm (x : Int) : ∀ l, (insInt x l).Perm (x :: l)
 | [] => .refl _
 | y :: t => by
  rw [insInt]; split
  ·exact .refl _
  ·exact ((insInt_perm x t).cons y).trans (.swap x y t)
theorem sortInt_perm : ∀ l : List Int, (l.foldr insInt []).Perm l
 | [] => .refl _
 | x :: t => (insInt_perm x _).trans ((sortInt_perm t).cons x)
theorem insInt_sorted (x : Int) : ∀ l : List Int, l.Pairwise (fun a b => a <= b) -> (insInt x l).Pairwise (fun a b => a <= b)
 | [], _ => by simp [insInt]
 | y :: t, h => by
  rw [List.pairwise_cons] at h
  rw [insInt]; split
  ·rename_i hxy
   exact List.pairwise_cons.2 ⟨fun b hb => by
    rcases List.mem_cons.1 hb with rfl | hb
    ·exact hxy
    ·exact Int.le_trans hxy (h.1 b hb), List.pairwise_cons.2 h⟩
  ·rename_i hxy
   refine List.pairwise_cons.2 ⟨fun b hb => ?_, insInt_sorted x t h.2⟩
   rcases List.mem_cons.1 ((insInt_perm x t).mem_iff.1 hb) with rfl | hb
   ·omega
   ·exact h.1 b hb
theorem sortInt_sorted : ∀ l : List Int, (l.foldr insInt []).Pairwise (fun a b => a <= b)
 | [] => List.Pairwise.nil
 | x :: t => insInt_sorted x _ (sortInt_sorted t)
theorem sortInt_unique {l l' : List Int} (hp : l'.Perm l) (hs : l'.Pairwise (fun a b => a <= b)) : l' = l.foldr insInt [] :=
 (hp.trans (sortInt_perm l).symm).eq_of_pairwise (fun a b _ _ h k => by omega) hs (sortInt_sorted l)

/-! Parts: none is empty, no two share a bit. -/
/-- Parts that may be: below 2^256, none empty, pairwise apart. -/
def Parts (l : List Nat) : Prop := (∀ p ∈ l, p ≠ 0 /\ p < 2 ^ 256) /\ l.Pairwise (fun a b => a &&& b = 0)
theorem testBit_not (s i : Nat) (hs : s < 2 ^ 256) : (2 ^ 256 - 1 - s).testBit i = (decide (i < 256) && !s.testBit i) := by
 have h : 2 ^ 256 - 1 - s = 2 ^ 256 - (s + 1) := by omega
 rw [h, Nat.testBit_two_pow_sub_succ hs]
theorem without_bit (p s i : Nat) (hs : s < 2 ^ 256) (hp : p < 2 ^ 256) : (p &&& (2 ^ 256 - 1 - s)).testBit i = (p.testBit i && !s.testBit i) := by
 rw [Nat.testBit_and, testBit_not s i hs]
 by_cases hi : i < 256
 ·simp [hi]
 ·have : p.testBit i = false := Nat.testBit_lt_two_pow (Nat.lt_of_lt_of_le hp (Nat.pow_le_pow_right (by omega) (by omega)))
  simp [this]
theorem apart_iff (a b : Nat) : a &&& b = 0 ↔ ∀ i, ¬ (a.testBit i = true /\ b.testBit i = true) := by
 constructor
 ·intro h i hi
  have := congrArg (fun n => Nat.testBit n i) h
  simp [hi.1, hi.2] at this
 ·intro h
  apply Nat.eq_of_testBit_eq
  intro i
  have := h i
  simp only [Nat.testBit_and, Nat.zero_testBit]
  cases ha : a.testBit i <;> cases hb : b.testBit i <;> simp_all
def cutF (next : List Nat) (p s : Nat) : List Nat := [p &&& s, p &&& (2 ^ 256 - 1 - s)].foldl (fun next x => if x = 0 ∨ x ∈ next then next else next ++ [x]) next
theorem splitStep_eq (parts : List Nat) (s : Nat) : splitStep parts s = parts.foldl (fun next p => cutF next p s) [] := rfl
def addF (next : List Nat) (x : Nat) : List Nat := if x = 0 ∨ x ∈ next then next else next ++ [x]
theorem cutF_eq (next : List Nat) (p s : Nat) : cutF next p s = addF (addF next (p &&& s)) (p &&& (2 ^ 256 - 1 - s)) := rfl
theorem addF_parts {next : List Nat} {x : Nat} (h : Parts next) (hx : x < 2 ^ 256) (ha : ∀ y ∈ next, y &&& x = 0) : Parts (addF next x) := by
 unfold addF
 split
 ·exact h
 ·rename_i hn
  simp only [not_or] at hn
  refine ⟨fun p hp => ?_, List.pairwise_append.2 ⟨h.2, by simp, fun a ha' b hb => ?_⟩⟩
  ·rcases List.mem_append.1 hp with hp | hp
   ·exact h.1 p hp
   ·rw [List.mem_singleton] at hp; subst hp; exact ⟨hn.1, hx⟩
  ·rw [List.mem_singleton] at hb; subst hb; exact ha a ha'
theorem addF_mem {next : List Nat} {x y : Nat} (h : y ∈ addF next x) : y ∈ next ∨ y = x := by
 unfold addF at h
 split at h
 ·exact .inl h
 ·rcases List.mem_append.1 h with h | h
  ·exact .inl h
  ·exact .inr (List.mem_singleton.1 h)
theorem splitStep_parts {parts : List Nat} {s : Nat} (hs : s < 2 ^ 256) (h : Parts parts) : Parts (splitStep parts s) := by
 rw [splitStep_eq]
 suffices H : ∀ (l next : List Nat), Parts l -> Parts next -> (∀ y ∈ next, ∀ p ∈ l, y &&& p = 0) -> Parts (l.foldl (fun next p => cutF next p s) next) from
  H parts [] h ⟨by simp, List.Pairwise.nil⟩ (by simp)
 intro l
 induction l with
 | nil => intro next _ hn _; exact hn
 | cons p l ih =>
  intro next hl hn hx
  rw [List.foldl_cons]
  have hp := hl.1 p (by simp)
  have hpl := List.pairwise_cons.1 hl.2
  have e1 : p &&& s < 2 ^ 256 := Nat.lt_of_le_of_lt Nat.and_le_left hp.2
  have e2 : p &&& (2 ^ 256 - 1 - s) < 2 ^ 256 := Nat.lt_of_le_of_lt Nat.and_le_left hp.2
  have sub : ∀ {y x t : Nat}, y &&& p = 0 -> y &&& (p &&& t) = 0 := by
   intro y x t h
   rw [apart_iff] at h ⊢
   intro i hi
   rw [Nat.testBit_and] at hi
   exact h i ⟨hi.1, by simp at hi; exact hi.2.1⟩
  have n1 : Parts (addF next (p &&& s)) := addF_parts hn e1 (fun y hy => sub (x := 0) (hx y hy p (by simp)))
  have n2 : Parts (cutF next p s) := by
   rw [cutF_eq]
   refine addF_parts n1 e2 (fun y hy => ?_)
   rcases addF_mem hy with hy | rfl
   ·exact sub (x := 0) (hx y hy p (by simp))
   ·rw [apart_iff]
    intro i hi
    rw [without_bit p s i hs hp.2, Nat.testBit_and] at hi
    simp at hi
    rw [hi.1.2] at hi
    simp at hi
  refine ih _ ⟨fun q hq => hl.1 q (by simp [hq]), hpl.2⟩ n2 (fun y hy q hq => ?_)
  have hpq := hpl.1 q hq
  rw [cutF_eq] at hy
  rcases addF_mem hy with hy | rfl
  ·rcases addF_mem hy with hy | rfl
   ·exact hx y hy q (by simp [hq])
   ·rw [apart_iff] at hpq ⊢
    intro i hi
    rw [Nat.testBit_and] at hi
    simp at hi
    exact hpq i ⟨hi.1.1, hi.2⟩
  ·rw [apart_iff] at hpq ⊢
   intro i hi
   rw [without_bit p s i hs hp.2] at hi
   simp at hi
   exact hpq i ⟨hi.1.1, hi.2⟩
theorem full_parts : Parts [2 ^ 256 - 1] := ⟨by intro p hp; rw [List.mem_singleton] at hp; subst hp; exact ⟨by decide, by decide⟩, by simp⟩
theorem parts_all : ∀ (l : List Nat) (parts : List Nat), (∀ s ∈ l, s < 2 ^ 256) -> Parts parts -> Parts (l.foldl splitStep parts)
 | [], _, _, h => h
 | s :: l, parts, hl, h => parts_all l _ (fun t ht => hl t (by simp [ht])) (splitStep_parts (hl s (by simp)) h)
theorem exists_bit {M : Nat} (h0 : M ≠ 0) (h1 : M < 2 ^ 256) : ∃ b, b < 256 /\ M.testBit b = true := by
 obtain ⟨b, hb⟩ := Nat.exists_testBit_of_ne_zero h0
 refine ⟨b, ?_, hb⟩
 rcases Nat.lt_or_ge b 256 with h | h
 ·exact h
 ·rw [Nat.testBit_lt_two_pow (Nat.lt_of_lt_of_le h1 (Nat.pow_le_pow_right (by omega) h))] at hb; cases hb
theorem leastF_bit {M : Nat} (h0 : M ≠ 0) (h1 : M < 2 ^ 256) : M.testBit (leastF M) = true := by
 obtain ⟨b, hb, hbit⟩ := exists_bit h0 h1
 unfold leastF
 cases hf : (List.range 256).find? (fun b => M.testBit b) with
 | some x => exact List.find?_some hf
 | none => exact absurd hbit (List.find?_eq_none.1 hf b (by simp; omega))
theorem leastF_inj {a b : Nat} {l : List Nat} (h : Parts l) (ha : a ∈ l) (hb : b ∈ l) (e : leastF a = leastF b) : a = b := by
 have h1 := leastF_bit (h.1 a ha).1 (h.1 a ha).2
 have h2 := leastF_bit (h.1 b hb).1 (h.1 b hb).2
 rw [e] at h1
 rcases Classical.em (a = b) with hab | hab
 ·exact hab
 ·obtain ⟨i, hi, rfl⟩ := List.getElem_of_mem ha
  obtain ⟨j, hj, rfl⟩ := List.getElem_of_mem hb
  have hp := List.pairwise_iff_getElem.1 h.2
  rcases Nat.lt_trichotomy i j with hij | rfl | hij
  ·exact absurd ⟨h1, h2⟩ ((apart_iff _ _).1 (hp i j hi hj hij) _)
  ·exact absurd rfl hab
  ·exact absurd ⟨h2, h1⟩ ((apart_iff _ _).1 (hp j i hj hi hij) _)
theorem sortSet_unique {l l' : List Nat} (h : Parts l) (hp : l'.Perm l) (hs : l'.Pairwise (fun a b => leastF a <= leastF b)) : l' = l.foldr insSet [] :=
 (hp.trans (sortSet_perm l).symm).eq_of_pairwise (fun a b ha hb h1 h2 => leastF_inj h (hp.mem_iff.1 ha) ((sortSet_perm l).mem_iff.1 hb) (Nat.le_antisymm h1 h2)) hs (sortSet_sorted l)
end Go.Proofs.YtknpkndiflodbaaGreatDoor.Tb
namespace Go.Proofs.YtknpkndiflodbaaGreatDoor.Tb
theorem nodup_le {α : Type} [DecidableEq α] : ∀ (a b : List α), a.Nodup -> (∀ x ∈ a, x ∈ b) -> a.length <= b.length
 | [], b, _, _ => Nat.zero_le _
 | x :: a, b, hn, h => by
  rw [List.nodup_cons] at hn
  have hx : x ∈ b := h x (by simp)
  have := nodup_le a (b.erase x) hn.2 (fun y hy => by
   have hne : y ≠ x := fun e => hn.1 (e ▸ hy)
   exact (List.mem_erase_of_ne hne).2 (h y (by simp [hy])))
  rw [List.length_erase_of_mem hx] at this
  have : 0 < b.length := List.length_pos_of_mem hx
  simp; omega
theorem numberF_some {all all' : List (List It)} {l : List It} {n : Nat} (h : numberF all l = some (n, all')) (hn : all.Nodup) (hl : all.length <= 16384) :
  all'.Nodup /\ all'.length <= 16384 /\ l ∈ all' /\ (∃ t, all' = all ++ t) /\ (∀ x ∈ all', x ∈ all ∨ x = l) := by
 unfold numberF at h
 cases hf : all.findIdx? (· == l) with
 | some k =>
  rw [hf] at h
  simp at h
  obtain ⟨rfl, rfl⟩ := h
  obtain ⟨hk, hp, _⟩ := List.findIdx?_eq_some_iff_getElem.1 hf
  have hm : l ∈ all := by
   have : all[k] = l := by simpa using hp
   rw [<- this]; exact List.getElem_mem hk
  exact ⟨hn, hl, hm, ⟨[], by simp⟩, fun x hx => .inl hx⟩
 | none =>
  rw [hf] at h
  dsimp only at h
  have hnot : l ∉ all := by
   intro hm
   have := List.findIdx?_eq_none_iff.1 hf l hm
   simp at this
  split at h
  ·cases h
  ·rename_i hlt
   injection h with h
   injection h with h1 h2
   subst h2
   refine ⟨?_, by simp; omega, by simp, ⟨[l], rfl⟩, fun x hx => by simpa using hx⟩
   rw [List.nodup_append]
   exact ⟨hn, by simp, fun a ha b hb => by simp at hb; subst hb; exact fun e => hnot (e ▸ ha)⟩
theorem numbersF_some : ∀ (L : List (Sy × List It)) (all all' : List (List It)) (e : List (Sy × Nat)), numbersF all L = some (e, all') -> all.Nodup -> all.length <= 16384 ->
  all'.Nodup /\ all'.length <= 16384 /\ (∀ q ∈ L, q.2 ∈ all') /\ (∃ t, all' = all ++ t) /\ (∀ x ∈ all', x ∈ all ∨ ∃ q ∈ L, x = q.2)
 | [], all, all', e, h, hn, hl => by
  simp [numbersF] at h
  obtain ⟨_, rfl⟩ := h
  exact ⟨hn, hl, (fun q hq => by cases hq), ⟨[], by simp⟩, fun x hx => .inl hx⟩
 | (s, l) :: L, all, all', e, h, hn, hl => by
  rw [numbersF] at h
  cases h1 : numberF all l with
  | none => rw [h1] at h; cases h
  | some r =>
   obtain ⟨k, a1⟩ := r
   rw [h1] at h
   dsimp only at h
   cases h2 : numbersF a1 L with
   | none => rw [h2] at h; cases h
   | some r =>
    obtain ⟨e2, a2⟩ := r
    rw [h2] at h
    simp at h
    obtain ⟨_, rfl⟩ := h
    obtain ⟨n1, l1, m1, ⟨t1, p1⟩, s1⟩ := numberF_some h1 hn hl
    obtain ⟨n2, l2, m2, ⟨t2, p2⟩, s2⟩ := numbersF_some L a1 a2 e2 h2 n1 l1
    refine ⟨n2, l2, ?_, ⟨t1 ++ t2, by rw [p2, p1, List.append_assoc]⟩, ?_⟩
    ·intro q hq
     rcases List.mem_cons.1 hq with rfl | hq
     ·rw [p2]; exact List.mem_append_left _ m1
     ·exact m2 q hq
    ·intro x hx
     rcases s2 x hx with h | ⟨q, hq, rfl⟩
     ·rcases s1 x h with h | rfl
      ·exact .inl h
      ·exact .inr ⟨(s, x), by simp, rfl⟩
     ·exact .inr ⟨q, by simp [hq], rfl⟩
end Go.Proofs.YtknpkndiflodbaaGreatDoor.Tb
namespace Go.Proofs.YtknpkndiflodbaaGreatDoor.Tb
def fresh (g : Gr) (seen : List Int) : Nat := g.prods.countP (fun p => decide (p.left ∉ seen))
theorem range_filter_len {α : Type} (f : α -> Bool) : ∀ l : List α, ((List.range l.length).filter (fun i => match l[i]? with | some p => f p | none => false)).length = l.countP f
 | [] => rfl
 | x :: l => by
  rw [List.length_cons, List.range_succ_eq_map, List.filter_cons, List.filter_map, List.countP_cons, <- range_filter_len f l]
  have e : ((fun i => match (x :: l)[i]? with | some p => f p | none => false) ∘ Nat.succ) = (fun i => match l[i]? with | some p => f p | none => false) := by
   funext i; simp
  rw [e]
  cases hx : f x <;> simp [hx]
theorem ofS_len (g : Gr) (s : Int) : (ofS g s).length = g.prods.countP (fun p => p.left == s && p.role != 11) := by
 rw [<- range_filter_len]
 unfold ofS
 congr 1
 apply List.filter_congr
 intro i _
 cases g.prods[i]? <;> rfl
theorem countP_split {α : Type} (f a b : α -> Bool) (hd : ∀ x, a x = true -> f x = true) (hb : ∀ x, b x = true -> f x = true) (hn : ∀ x, ¬ (a x = true /\ b x = true)) : ∀ l : List α, l.countP a + l.countP b <= l.countP f
 | [] => by simp
 | x :: l => by
  have := countP_split f a b hd hb hn l
  have h1 := hd x; have h2 := hb x; have h3 := hn x
  rw [List.countP_cons, List.countP_cons, List.countP_cons]
  cases ha : a x <;> cases hbx : b x <;> simp_all <;> omega
theorem fresh_step (g : Gr) (s : Int) (seen : List Int) (hs : s ∉ seen) : (ofS g s).length + fresh g (s :: seen) <= fresh g seen := by
 rw [ofS_len]
 refine countP_split _ _ _ (fun p hp => ?_) (fun p hp => ?_) (fun p hp => ?_) g.prods
 ·simp at hp ⊢; rw [hp.1]; exact hs
 ·simp at hp ⊢; exact hp.2
 ·simp at hp; exact absurd hp.1.1 hp.2.1
theorem fresh_le (g : Gr) (seen : List Int) : fresh g seen <= g.prods.length := List.countP_le_length
theorem ofS_mem {g : Gr} {s : Int} {n : Nat} (h : n ∈ ofS g s) : ∃ p, g.prods[n]? = some p /\ p.left = s /\ p.role ≠ 11 := by
 unfold ofS at h
 rw [List.mem_filter] at h
 cases hp : g.prods[n]? with
 | none => rw [hp] at h; simp at h
 | some p => rw [hp] at h; simp at h; exact ⟨p, rfl, h.2⟩
theorem itemOk_iff (g : Gr) (x : It) : itemOk g x = true ↔ x.1 < g.prods.length /\ x.2 <= (rightOf g x.1).length := by simp [itemOk]
theorem itemOk_new {g : Gr} {s : Int} {n : Nat} (h : n ∈ ofS g s) : itemOk g (n, 0) = true := by
 obtain ⟨p, hp, _⟩ := ofS_mem h
 rw [itemOk_iff]
 exact ⟨(List.getElem?_eq_some_iff.1 hp).1, Nat.zero_le _⟩
def closeSeen (g : Gr) (seen : List Int) (x : It) : List Int := match aheadF g x with | some s => if s.kind = 1 /\ s.sort ∉ seen then s.sort :: seen else seen | none => seen
def closeOut (g : Gr) (seen : List Int) (out : List It) (x : It) : List It := match aheadF g x with | some s => if s.kind = 1 /\ s.sort ∉ seen then out ++ (ofS g s.sort).map (·, 0) else out | none => out
theorem closeGo_step (g : Gr) (f i : Nat) (seen : List Int) (out : List It) (x : It) (h : out[i]? = some x) : closeGo g (f + 1) i seen out = closeGo g f (i + 1) (closeSeen g seen x) (closeOut g seen out x) := by
 rw [closeGo, h]
 show (match aheadF g x with | none => closeGo g f (i + 1) seen out | some s => if s.kind = 1 then if s.sort ∈ seen then closeGo g f (i + 1) seen out else closeGo g f (i + 1) (s.sort :: seen) (out ++ (ofS g s.sort).map (·, 0)) else closeGo g f (i + 1) seen out) = _
 unfold closeSeen closeOut
 cases hx : aheadF g x with
 | none => rfl
 | some s =>
  by_cases h1 : s.kind = 1
  ·by_cases h2 : s.sort ∈ seen
   ·simp [h1, h2]
   ·simp [h1, h2]
  ·simp [h1]
structure CloseAt (g : Gr) (l : List It) (i : Nat) (seen : List Int) (out : List It) : Prop where
 go : closedF g l = compactIt (sortIt (closeGo g (l.length + g.prods.length + 1 - i) i seen out))
 fits : out.length + fresh g seen <= l.length + g.prods.length
 le : i <= out.length
 ok : ∀ x ∈ out, itemOk g x = true
theorem CloseAt.start {g : Gr} {l : List It} (h : ∀ x ∈ l, itemOk g x = true) : CloseAt g l 0 [] l :=
 ⟨rfl, by have := fresh_le g []; omega, Nat.zero_le _, h⟩
theorem CloseAt.step {g : Gr} {l : List It} {i : Nat} {seen : List Int} {out : List It} (h : CloseAt g l i seen out) {x : It} (hx : out[i]? = some x) : CloseAt g l (i + 1) (closeSeen g seen x) (closeOut g seen out x) := by
 have hi := (List.getElem?_eq_some_iff.1 hx).1
 have hf := h.fits
 refine ⟨?_, ?_, ?_, ?_⟩
 ·rw [h.go, show l.length + g.prods.length + 1 - i = (l.length + g.prods.length + 1 - (i + 1)) + 1 by omega, closeGo_step _ _ _ _ _ _ hx]
 ·unfold closeSeen closeOut
  cases hs : aheadF g x with
  | none => exact hf
  | some s =>
   by_cases h1 : s.kind = 1 /\ s.sort ∉ seen
   ·simp only [h1, not_false_eq_true, and_self, if_true, List.length_append, List.length_map]
    have := fresh_step g s.sort seen h1.2
    omega
   ·simp only [h1, if_false]; exact hf
 ·unfold closeOut
  cases hs : aheadF g x with
  | none => exact hi
  | some s =>
   by_cases h1 : s.kind = 1 /\ s.sort ∉ seen
   ·simp only [h1, not_false_eq_true, and_self, if_true, List.length_append]; omega
   ·simp only [h1, if_false]; exact hi
 ·unfold closeOut
  cases hs : aheadF g x with
  | none => exact h.ok
  | some s =>
   by_cases h1 : s.kind = 1 /\ s.sort ∉ seen
   ·simp only [h1, not_false_eq_true, and_self, if_true]
    intro y hy
    rcases List.mem_append.1 hy with hy | hy
    ·exact h.ok y hy
    ·obtain ⟨n, hn, rfl⟩ := List.mem_map.1 hy
     exact itemOk_new hn
   ·simp only [h1, if_false]; exact h.ok
theorem CloseAt.done {g : Gr} {l : List It} {i : Nat} {seen : List Int} {out : List It} (h : CloseAt g l i seen out) (he : i = out.length) : closedF g l = compactIt (sortIt out) := by
 rw [h.go, closeGo_end _ _ _ _ _ (by omega)]

theorem CloseAt.last {g : Gr} {l : List It} : ∀ (m i : Nat) (seen : List Int) (out : List It), CloseAt g l i seen out -> l.length + g.prods.length - i <= m -> ∃ seen' out', CloseAt g l out'.length seen' out'
 | m, i, seen, out, h, hm => by
  have hf := h.fits
  have hle := h.le
  rcases Nat.lt_or_ge i out.length with hi | hi
  ·have hx : out[i]? = some out[i] := List.getElem?_eq_getElem hi
   have h2 := h.step hx
   match m, hm with
   | 0, hm => omega
   | m + 1, hm => exact CloseAt.last m (i + 1) _ _ h2 (by omega)
  ·obtain rfl : i = out.length := by omega
   exact ⟨seen, out, h⟩
/-! 'compact'. -/
theorem compactIt_len : ∀ l : List It, (compactIt l).length <= l.length
  | [] => Nat.le_refl _
  | [x] => Nat.le_refl _
  | x :: y :: t => by
    rw [compactIt_cons]
    split
    · have := compactIt_len (y :: t); simp at this ⊢; omega
    · have := compactIt_len (y :: t); simp at this ⊢; omega
theorem compactIt_mem : ∀ (l : List It) (x : It), x ∈ compactIt l -> x ∈ l
 | [], x, h => h
 | [y], x, h => h
 | y :: z :: t, x, h => by
  rw [compactIt_cons] at h
  split at h
  ·exact List.mem_cons_of_mem _ (compactIt_mem (z :: t) x h)
  ·rcases List.mem_cons.1 h with rfl | h
   ·simp
   ·exact List.mem_cons_of_mem _ (compactIt_mem (z :: t) x h)
theorem compactIt_snoc : ∀ (l : List It) (y x : It), compactIt (l ++ [y] ++ [x]) = if y = x then compactIt (l ++ [y]) else compactIt (l ++ [y]) ++ [x]
 | [], y, x => by
  show compactIt (y :: x :: []) = _
  rw [compactIt_cons]
  by_cases h : y = x
  ·subst h; simp [compactIt]
  ·simp [h, compactIt]
 | [a], y, x => by
  have ih := compactIt_snoc [] y x
  show compactIt (a :: y :: [x]) = _
  rw [compactIt_cons]
  have ih' : compactIt (y :: [x]) = if y = x then compactIt [y] else compactIt [y] ++ [x] := ih
  rw [ih']
  show _ = if y = x then compactIt (a :: y :: []) else compactIt (a :: y :: []) ++ [x]
  rw [compactIt_cons]
  by_cases h : y = x <;> by_cases h2 : a = y <;> simp [h, h2]
 | a :: b :: l, y, x => by
  have ih := compactIt_snoc (b :: l) y x
  simp only [List.cons_append] at ih ⊢
  rw [compactIt_cons, compactIt_cons, ih]
  by_cases h : y = x <;> by_cases h2 : a = b <;> simp [h, h2]
theorem take_two (l : List It) (i : Nat) (h : i + 1 < l.length) : l.take (i + 2) = l.take i ++ [l[i]] ++ [l[i + 1]] := by
 rw [show i + 2 = (i + 1) + 1 by omega, List.take_succ_eq_append_getElem (by omega), List.take_succ_eq_append_getElem (by omega)]
theorem compactIt_take (l : List It) (i : Nat) (h : i + 1 < l.length) : compactIt (l.take (i + 2)) = if l[i] = l[i + 1] then compactIt (l.take (i + 1)) else compactIt (l.take (i + 1)) ++ [l[i + 1]] := by
 rw [take_two l i h, compactIt_snoc, List.take_succ_eq_append_getElem (by omega)]
theorem closedF_fits {g : Gr} {l : List It} (h : ∀ x ∈ l, itemOk g x = true) : (closedF g l).length <= l.length + g.prods.length /\ ∀ x ∈ closedF g l, itemOk g x = true := by
 obtain ⟨seen, out, hC⟩ := CloseAt.last _ _ _ _ (CloseAt.start h) (Nat.le_refl _)
 rw [hC.done rfl]
 have hf := hC.fits
 have h1 := compactIt_len (sortIt out)
 have h2 := (sortIt_perm out).length_eq
 refine ⟨by omega, fun x hx => hC.ok x ?_⟩
 exact (sortIt_perm out).subset (compactIt_mem _ _ hx)
end Go.Proofs.YtknpkndiflodbaaGreatDoor.Tb
