/-
  PLAIN LAWS of package tables: the grammars with very many states.
-/
import Derived.Test.YtknpkndiflodbaaGreatDoorTbPureA
set_option linter.unusedVariables false
namespace Go.Proofs.YtknpkndiflodbaaGreatDoor.Tb
def sA : Nat := 2 ^ 97
def sB : Nat := 2 ^ 98
def sAB : Nat := 2 ^ 97 + 2 ^ 98
def sRest : Nat := 2 ^ 256 - 1 - (2 ^ 97 + 2 ^ 98)
def longG (n : Nat) : Gr :=
  ⟨[[83]], [⟨0, [⟨0, sAB, 0⟩, ⟨1, 0, 0⟩], [], 0, false, false, -1⟩, ⟨0, ⟨0, sA, 0⟩ :: List.replicate n ⟨0, sAB, 0⟩, [], 0, false, false, -1⟩], 0, [], []⟩
theorem split_step : splitStep [sA, sB, sRest] sAB = [sA, sB, sRest] := by decide +kernel
theorem split_start : splitStep (splitStep [2 ^ 256 - 1] sAB) sA = [sA, sB, sRest] := by decide +kernel
theorem split_sorted : [sA, sB, sRest].foldr insSet [] = [sRest, sA, sB] := by decide +kernel
theorem split_long (c : Nat) : splitF (sAB :: sA :: List.replicate c sAB) = [sRest, sA, sB] := by
  unfold splitF
  rw [List.foldl_cons, List.foldl_cons, split_start]
  have : ∀ c, (List.replicate c sAB).foldl splitStep [sA, sB, sRest] = [sA, sB, sRest] := by
    intro c
    induction c with
    | zero => rfl
    | succ c ih => rw [List.replicate_succ, List.foldl_cons, split_step, ih]
  rw [this, split_sorted]
theorem in_A_AB : withinF sA sAB = true := by decide +kernel
theorem in_A_A : withinF sA sA = true := by decide +kernel
theorem in_B_AB : withinF sB sAB = true := by decide +kernel
theorem in_B_A : withinF sB sA = false := by decide +kernel
theorem in_R_AB : withinF sRest sAB = false := by decide +kernel
theorem in_R_A : withinF sRest sA = false := by decide +kernel
/-- The items of the second production behind whose dot the last bytes stand: which of them were an a. -/
def maskL (n m : Nat) : List It := ((List.range (n + 1)).filter (fun k => m.testBit k)).map fun k => (1, k + 1)
def stM (n m : Nat) : List It := (0, 0) :: (0, 1) :: (1, 0) :: maskL n m
theorem right1 (n k : Nat) : aheadF (longG n) (1, k + 1) = if k < n then some ⟨0, sAB, 0⟩ else none := by
  show (⟨0, sA, 0⟩ :: List.replicate n (⟨0, sAB, 0⟩ : Sy))[k + 1]? = _
  rw [List.getElem?_cons_succ, List.getElem?_replicate]
theorem right10 (n : Nat) : aheadF (longG n) (1, 0) = some ⟨0, sA, 0⟩ := rfl
theorem right00 (n : Nat) : aheadF (longG n) (0, 0) = some ⟨0, sAB, 0⟩ := rfl
theorem right01 (n : Nat) : aheadF (longG n) (0, 1) = some ⟨1, 0, 0⟩ := rfl
theorem right02 (n : Nat) : aheadF (longG n) (0, 2) = none := rfl
theorem of_long (n : Nat) : ofS (longG n) 0 = [0, 1] := rfl
/-- What asks for nothing more stays as it is. -/
theorem close_still (g : Gr) (seen : List Int) (out : List It) (h : ∀ x ∈ out, ∀ s, aheadF g x = some s → s.kind = 1 → s.sort ∈ seen) : ∀ (f i : Nat), closeGo g f i seen out = out := by
  intro f
  induction f with
  | zero => intro i; rfl
  | succ f ih =>
    intro i
    rw [closeGo]
    cases hx : out[i]? with
    | none => rfl
    | some x =>
      dsimp only
      cases hs : aheadF g x with
      | none => exact ih (i + 1)
      | some s =>
        dsimp only
        by_cases hk : s.kind = 1
        · rw [if_pos hk, if_pos (h x (List.mem_of_getElem? hx) s hs hk)]
          exact ih (i + 1)
        · rw [if_neg hk]
          exact ih (i + 1)
theorem mask_sets (n m : Nat) : ∀ x ∈ maskL n m, ∃ k, x = (1, k + 1) := by
  intro x hx
  obtain ⟨k, _, rfl⟩ := List.mem_map.1 hx
  exact ⟨k, rfl⟩
theorem sets_mask (n : Nat) (L : List It) (h : ∀ x ∈ L, ∃ k, x = (1, k + 1)) : ∃ c, setsOf (longG n) L = List.replicate c sAB := by
  induction L with
  | nil => exact ⟨0, rfl⟩
  | cons x t ih =>
    obtain ⟨c, hc⟩ := ih (fun y hy => h y (by simp [hy]))
    obtain ⟨k, rfl⟩ := h x (by simp)
    unfold setsOf at hc ⊢
    rw [List.filterMap_cons, right1]
    by_cases hk : k < n
    · rw [if_pos hk]
      exact ⟨c + 1, by simp [hc, List.replicate_succ]⟩
    · rw [if_neg hk]
      exact ⟨c, by simpa using hc⟩
theorem sets_st (n m : Nat) : ∃ c, setsOf (longG n) (stM n m) = sAB :: sA :: List.replicate c sAB := by
  obtain ⟨c, hc⟩ := sets_mask n (maskL n m) (mask_sets n m)
  refine ⟨c, ?_⟩
  unfold setsOf at hc ⊢
  unfold stM
  rw [List.filterMap_cons, right00, List.filterMap_cons, right01, List.filterMap_cons, right10]
  simp [hc]
/-- Items of the second production, rising. -/
def risen (R : List It) : Prop := (∀ x ∈ R, ∃ k, x = (1, k + 1)) ∧ R.Pairwise (fun a b => a.2 < b.2)
theorem mask_risen (n m : Nat) : risen (maskL n m) := by
  refine ⟨mask_sets n m, ?_⟩
  unfold maskL
  rw [List.pairwise_map]
  exact (List.pairwise_lt_range.filter _).imp (fun h => by simpa using h)
theorem ins_head (x : It) (t : List It) (h : ∀ y ∈ t, itLe x y = true) : insIt x t = x :: t := by
  cases t with
  | nil => rfl
  | cons y t => rw [insIt, if_pos (h y (by simp))]
theorem ins_low : ∀ (R : List It), risen R → R.foldr insIt [(0, 0), (1, 0)] = (0, 0) :: (1, 0) :: R
  | [], _ => rfl
  | x :: t, h => by
    obtain ⟨h1, h2⟩ := h
    rw [List.pairwise_cons] at h2
    rw [List.foldr_cons, ins_low t ⟨fun y hy => h1 y (by simp [hy]), h2.2⟩]
    obtain ⟨k, rfl⟩ := h1 x (by simp)
    rw [insIt, if_neg (by simp [itLe]), insIt, if_neg (by simp [itLe]), ins_head]
    intro y hy
    obtain ⟨j, rfl⟩ := h1 y (by simp [hy])
    have := h2.1 (1, j + 1) hy
    simp [itLe] at this ⊢
    omega
theorem compact_id : ∀ (l : List It), l.Pairwise (· ≠ ·) → compactIt l = l
  | [], _ => rfl
  | [x], _ => rfl
  | x :: y :: t, h => by
    rw [List.pairwise_cons] at h
    rw [compactIt_cons, if_neg (h.1 y (by simp)), compact_id (y :: t) h.2]
theorem risen_ne (R : List It) (h : risen R) : ((0, 0) :: (0, 1) :: (1, 0) :: R : List It).Pairwise (· ≠ ·) := by
  obtain ⟨h1, h2⟩ := h
  refine List.pairwise_cons.2 ⟨?_, List.pairwise_cons.2 ⟨?_, List.pairwise_cons.2 ⟨?_, h2.imp (fun h e => by rw [e] at h; exact Nat.lt_irrefl _ h)⟩⟩⟩
  · intro y hy e
    subst e
    simp at hy
    obtain ⟨k, hk⟩ := h1 _ hy
    simp at hk
  · intro y hy e
    subst e
    simp at hy
    obtain ⟨k, hk⟩ := h1 _ hy
    simp at hk
  · intro y hy e
    subst e
    obtain ⟨k, hk⟩ := h1 _ hy
    simp at hk
theorem ahead_R (n : Nat) (R : List It) (h : ∀ x ∈ R, ∃ k, x = (1, k + 1)) : ∀ x ∈ R, ∀ s, aheadF (longG n) x = some s → s.kind = 0 := by
  intro x hx s hs
  obtain ⟨k, rfl⟩ := h x hx
  rw [right1] at hs
  split at hs
  · injection hs with hs; rw [← hs]
  · cases hs
/-- Where the first symbol of the first production was read: the state. -/
theorem closed_long (n : Nat) (R : List It) (h : risen R) : closedF (longG n) ((0, 1) :: R) = (0, 0) :: (0, 1) :: (1, 0) :: R := by
  have hc : closeGo (longG n) (((0, 1) :: R : List It).length + (longG n).prods.length + 1) 0 [] ((0, 1) :: R) = (0, 1) :: (R ++ [(0, 0), (1, 0)]) := by
    rw [closeGo]
    rw [List.getElem?_cons_zero]
    dsimp only
    rw [right01]
    dsimp only
    rw [if_pos rfl, if_neg (by simp), of_long]
    rw [close_still]
    · rfl
    · intro x hx s hs hk
      simp at hx
      rcases hx with rfl | hx | rfl | rfl
      · rw [right01] at hs; injection hs with hs; subst hs; simp
      · have := ahead_R n R h.1 x hx s hs
        rw [this] at hk; cases hk
      · rw [right00] at hs; injection hs with hs; subst hs; cases hk
      · rw [right10] at hs; injection hs with hs; subst hs; cases hk
  unfold closedF
  rw [hc]
  unfold sortIt
  rw [List.foldr_cons, List.foldr_append]
  show compactIt (insIt (0, 1) (R.foldr insIt [(0, 0), (1, 0)])) = _
  rw [ins_low R h, insIt, if_neg (by simp [itLe]), insIt, if_pos (by simp [itLe])]
  exact compact_id _ (risen_ne R h)
/-- What stands one byte further. -/
def upL (n m : Nat) : List It := ((List.range n).filter (fun k => m.testBit k)).map fun k => (1, k + 2)
theorem bit_up (n m c k : Nat) (hc : c < 2) (hk : k < n) : ((2 * m + c) % 2 ^ (n + 1)).testBit (k + 1) = m.testBit k := by
  rw [Nat.testBit_mod_two_pow]
  have h1 : (2 * m + c).testBit (k + 1) = m.testBit k := by
    rw [Nat.testBit_succ]
    congr 1
    omega
  rw [h1]
  simp; omega
theorem bit_low (n m c : Nat) (hc : c < 2) : ((2 * m + c) % 2 ^ (n + 1)).testBit 0 = decide (c = 1) := by
  rw [Nat.testBit_mod_two_pow, Nat.testBit_zero]
  simp
  omega
theorem mask_up (n m c : Nat) (hc : c < 2) : maskL n ((2 * m + c) % 2 ^ (n + 1)) = (if c = 1 then [(1, 1)] else []) ++ upL n m := by
  unfold maskL upL
  rw [List.range_succ_eq_map, List.filter_cons, bit_low n m c hc, List.filter_map]
  have hf : (List.range n).filter ((fun k => ((2 * m + c) % 2 ^ (n + 1)).testBit k) ∘ Nat.succ) = (List.range n).filter (fun k => m.testBit k) := by
    apply List.filter_congr
    intro k hk
    exact bit_up n m c k hc (by simpa using hk)
  rw [hf]
  by_cases h : c = 1
  · rw [if_pos (by simpa using h), if_pos h, List.map_cons, List.map_map]; rfl
  · rw [if_neg (by simpa using h), if_neg h, List.map_map]; rfl
theorem up_risen (n m : Nat) : risen (upL n m) := by
  constructor
  · intro x hx
    obtain ⟨k, _, rfl⟩ := List.mem_map.1 hx
    exact ⟨k + 1, rfl⟩
  · unfold upL
    rw [List.pairwise_map]
    exact (List.pairwise_lt_range.filter _).imp (fun h => by simpa using h)
theorem up1_risen (n m : Nat) : risen ((1, 1) :: upL n m) := by
  obtain ⟨h1, h2⟩ := up_risen n m
  constructor
  · intro x hx
    rcases List.mem_cons.1 hx with rfl | hx
    · exact ⟨0, rfl⟩
    · exact h1 x hx
  · rw [List.pairwise_cons]
    refine ⟨fun y hy => ?_, h2⟩
    obtain ⟨k, _, rfl⟩ := List.mem_map.1 hy
    show 1 < k + 2
    omega
/-- The items of the mask, one byte on, by a class within the set of both. -/
theorem moved_mask (n m c : Nat) (hc : withinF c sAB = true) : movedSet (longG n) (maskL n m) c = upL n m := by
  have hfil : (maskL n m).filter (fun x => match aheadF (longG n) x with | some y => y.kind == 0 && withinF c y.set | none => false) = ((List.range n).filter (fun k => m.testBit k)).map fun k => ((1, k + 1) : It) := by
    unfold maskL
    rw [List.filter_map]
    congr 1
    rw [List.filter_filter, List.range_succ, List.filter_append]
    have h1 : (List.range n).filter (fun a => ((fun x : It => match aheadF (longG n) x with | some y => y.kind == 0 && withinF c y.set | none => false) ∘ fun k => (1, k + 1)) a && m.testBit a) = (List.range n).filter (fun k => m.testBit k) := by
      apply List.filter_congr
      intro k hk
      have hk : k < n := by simpa using hk
      simp only [Function.comp]
      rw [right1, if_pos hk]
      simp [hc]
    have h2 : ([n] : List Nat).filter (fun a => ((fun x : It => match aheadF (longG n) x with | some y => y.kind == 0 && withinF c y.set | none => false) ∘ fun k => (1, k + 1)) a && m.testBit a) = [] := by
      rw [List.filter_cons, Function.comp, right1, if_neg (Nat.lt_irrefl _)]
      simp
    rw [h1, h2, List.append_nil]
  refine (congrArg (List.map fun x : It => (x.1, x.2 + 1)) hfil).trans ?_
  rw [List.map_map]
  rfl
theorem moved_mask_not (n m c : Nat) (hc : withinF c sAB = false) : movedSet (longG n) (maskL n m) c = [] := by
  unfold movedSet
  rw [List.map_eq_nil_iff, List.filter_eq_nil_iff]
  intro x hx
  obtain ⟨k, rfl⟩ := mask_sets n m x hx
  rw [right1]
  split
  · rename_i y h
    split at h
    · injection h with h; subst h; simp [hc]
    · cases h
  · simp
theorem moved_cons (g : Gr) (x : It) (t : List It) (c : Nat) : movedSet g (x :: t) c = (match aheadF g x with | some y => if y.kind == 0 && withinF c y.set then [(x.1, x.2 + 1)] else [] | none => []) ++ movedSet g t c := by
  unfold movedSet
  rw [List.filter_cons]
  cases aheadF g x with
  | none => rfl
  | some y =>
    dsimp only
    by_cases h : (y.kind == 0 && withinF c y.set) = true
    · rw [if_pos h, if_pos h]; rfl
    · rw [if_neg h, if_neg h]; rfl
theorem moved_A (n m : Nat) : movedSet (longG n) (stM n m) sA = (0, 1) :: (1, 1) :: upL n m := by
  unfold stM
  rw [moved_cons, moved_cons, moved_cons, right00, right01, right10, moved_mask n m sA in_A_AB]
  dsimp only
  rw [in_A_AB, in_A_A]
  rfl
theorem moved_B (n m : Nat) : movedSet (longG n) (stM n m) sB = (0, 1) :: upL n m := by
  unfold stM
  rw [moved_cons, moved_cons, moved_cons, right00, right01, right10, moved_mask n m sB in_B_AB]
  dsimp only
  rw [in_B_AB, in_B_A]
  rfl
theorem moved_R (n m : Nat) : movedSet (longG n) (stM n m) sRest = [] := by
  unfold stM
  rw [moved_cons, moved_cons, moved_cons, right00, right01, right10, moved_mask_not n m sRest in_R_AB]
  dsimp only
  rw [in_R_AB, in_R_A]
  rfl
theorem st_A (n m : Nat) : closedF (longG n) ((0, 1) :: (1, 1) :: upL n m) = stM n ((2 * m + 1) % 2 ^ (n + 1)) := by
  rw [closed_long n _ (up1_risen n m), stM, mask_up n m 1 (by decide), if_pos rfl]
  rfl
theorem st_B (n m : Nat) : closedF (longG n) ((0, 1) :: upL n m) = stM n ((2 * m + 0) % 2 ^ (n + 1)) := by
  rw [closed_long n _ (up_risen n m), stM, mask_up n m 0 (by decide), if_neg (by decide)]
  rfl
theorem sorts_mask (n : Nat) (R : List It) (h : ∀ x ∈ R, ∃ k, x = (1, k + 1)) (o : List Int) :
    R.foldl (sortStep (longG n)) o = o := by
  induction R generalizing o with
  | nil => rfl
  | cons x t ih =>
    rw [List.foldl_cons]
    have hx : sortStep (longG n) o x = o := by
      unfold sortStep
      cases hs : aheadF (longG n) x with
      | none => rfl
      | some s =>
        have := ahead_R n (x :: t) h x (by simp) s hs
        dsimp only
        rw [if_neg (by rw [this]; rintro ⟨h, _⟩; cases h)]
    rw [hx]
    exact ih (fun y hy => h y (by simp [hy])) o
theorem sorts_st (n m : Nat) : sortsOf (longG n) (stM n m) = [0] := by
  unfold sortsOf stM
  rw [List.foldl_cons, List.foldl_cons, List.foldl_cons]
  rw [sorts_mask n _ (mask_sets n m)]
  rfl
theorem movedS_mask (n : Nat) (R : List It) (h : ∀ x ∈ R, ∃ k, x = (1, k + 1)) : movedSort (longG n) R 0 = [] := by
  unfold movedSort
  rw [List.map_eq_nil_iff, List.filter_eq_nil_iff]
  intro x hx
  cases hs : aheadF (longG n) x with
  | none => simp
  | some s =>
    have := ahead_R n R h x hx s hs
    simp [this]
theorem movedS_cons (g : Gr) (x : It) (t : List It) (c : Int) : movedSort g (x :: t) c = (match aheadF g x with | some y => if y.kind == 1 && y.sort == c then [(x.1, x.2 + 1)] else [] | none => []) ++ movedSort g t c := by
  unfold movedSort
  rw [List.filter_cons]
  cases aheadF g x with
  | none => rfl
  | some y =>
    dsimp only
    by_cases h : (y.kind == 1 && y.sort == c) = true
    · rw [if_pos h, if_pos h]; rfl
    · rw [if_neg h, if_neg h]; rfl
theorem movedS_st (n m : Nat) : movedSort (longG n) (stM n m) 0 = [(0, 2)] := by
  unfold stM
  rw [movedS_cons, movedS_cons, movedS_cons, right00, right01, right10, movedS_mask n _ (mask_sets n m)]
  rfl
theorem closed_end (n : Nat) : closedF (longG n) [(0, 2)] = [(0, 2)] := rfl
/-- What a mask's state leads on by. -/
theorem leads_st (n m : Nat) : leadsF (longG n) (stM n m) = [(⟨1, 0, 0⟩, [(0, 2)]), (⟨0, sA, 0⟩, stM n ((2 * m + 1) % 2 ^ (n + 1))), (⟨0, sB, 0⟩, stM n ((2 * m + 0) % 2 ^ (n + 1)))] := by
  obtain ⟨c, hc⟩ := sets_st n m
  unfold leadsF
  rw [sorts_st, hc, split_long, List.map_cons, List.map_nil, movedS_st, closed_end]
  rw [List.filterMap_cons, List.filterMap_cons, List.filterMap_cons, List.filterMap_nil, moved_R, moved_A, moved_B, st_A, st_B]
  rfl
theorem leads_end (n : Nat) : leadsF (longG n) [(0, 2)] = [] := by
  unfold leadsF
  have h1 : sortsOf (longG n) [(0, 2)] = [] := rfl
  have h2 : setsOf (longG n) [(0, 2)] = [] := rfl
  rw [h1, h2]
  have h3 : splitF [] = [2 ^ 256 - 1] := by decide +kernel
  rw [h3]
  rfl
theorem up_zero (n : Nat) : upL n 0 = [] := by
  unfold upL
  rw [List.map_eq_nil_iff, List.filter_eq_nil_iff]
  intro k _
  simp
theorem leads_start (n : Nat) : leadsF (longG n) [(0, 0), (1, 0)] = [(⟨0, sA, 0⟩, stM n ((2 * 0 + 1) % 2 ^ (n + 1))), (⟨0, sB, 0⟩, stM n ((2 * 0 + 0) % 2 ^ (n + 1)))] := by
  have h1 : sortsOf (longG n) [(0, 0), (1, 0)] = [] := rfl
  have h2 : setsOf (longG n) [(0, 0), (1, 0)] = sAB :: sA :: List.replicate 0 sAB := rfl
  have hR : movedSet (longG n) [(0, 0), (1, 0)] sRest = [] := by
    rw [moved_cons, moved_cons, right00, right10]; dsimp only; rw [in_R_AB, in_R_A]; rfl
  have hA : movedSet (longG n) [(0, 0), (1, 0)] sA = (0, 1) :: (1, 1) :: upL n 0 := by
    rw [moved_cons, moved_cons, right00, right10, up_zero]; dsimp only; rw [in_A_AB, in_A_A]; rfl
  have hB : movedSet (longG n) [(0, 0), (1, 0)] sB = (0, 1) :: upL n 0 := by
    rw [moved_cons, moved_cons, right00, right10, up_zero]; dsimp only; rw [in_B_AB, in_B_A]; rfl
  unfold leadsF
  rw [h1, h2, split_long, List.map_nil, List.nil_append, List.filterMap_cons, List.filterMap_cons, List.filterMap_cons, List.filterMap_nil, hR, hA, hB, st_A, st_B]
  rfl
theorem start_long (n : Nat) : closedF (longG n) ((ofS (longG n) (longG n).start).map (·, 0)) = [(0, 0), (1, 0)] := rfl
/-- All the states. -/
def famL (n : Nat) : List (List It) := [(0, 0), (1, 0)] :: [(0, 2)] :: (List.range (2 ^ (n + 1))).map (stM n)
theorem fam_len (n : Nat) : (famL n).length = 2 ^ (n + 1) + 2 := by simp [famL]
theorem mem_mask (n m k : Nat) : ((1, k + 1) : It) ∈ maskL n m ↔ k < n + 1 ∧ m.testBit k = true := by
  unfold maskL
  simp
theorem st_inj (n m m' : Nat) (hm : m < 2 ^ (n + 1)) (hm' : m' < 2 ^ (n + 1)) (h : stM n m = stM n m') : m = m' := by
  unfold stM at h
  simp only [List.cons.injEq, true_and] at h
  apply Nat.eq_of_testBit_eq
  intro k
  by_cases hk : k < n + 1
  · have h1 := mem_mask n m k
    have h2 := mem_mask n m' k
    rw [h] at h1
    rw [Bool.eq_iff_iff]
    constructor
    · intro e; exact (h2.1 (h1.2 ⟨hk, e⟩)).2
    · intro e; exact (h1.1 (h2.2 ⟨hk, e⟩)).2
  · have hp : 2 ^ (n + 1) ≤ 2 ^ k := Nat.pow_le_pow_right (by decide) (by omega)
    rw [Nat.testBit_lt_two_pow (Nat.lt_of_lt_of_le hm hp), Nat.testBit_lt_two_pow (Nat.lt_of_lt_of_le hm' hp)]
theorem fam_nodup (n : Nat) : (famL n).Nodup := by
  unfold famL
  rw [List.nodup_cons, List.nodup_cons]
  refine ⟨?_, ?_, ?_⟩
  · intro h
    simp [stM] at h
  · intro h
    simp [stM] at h
  · unfold List.Nodup
    rw [List.pairwise_map]
    refine List.Pairwise.imp_of_mem ?_ List.nodup_range
    intro a b ha hb hne e
    exact hne (st_inj n a b (by simpa using ha) (by simpa using hb) e)
theorem fam_st (n m : Nat) : stM n (m % 2 ^ (n + 1)) ∈ famL n := by
  unfold famL
  exact List.mem_cons_of_mem _ (List.mem_cons_of_mem _ (List.mem_map_of_mem (List.mem_range.2 (Nat.mod_lt _ (Nat.two_pow_pos _)))))
theorem fam_leads (n : Nat) (x : List It) (hx : x ∈ famL n) : ∀ q ∈ leadsF (longG n) x, q.2 ∈ famL n := by
  intro q hq
  unfold famL at hx
  rcases List.mem_cons.1 hx with rfl | hx
  · rw [leads_start] at hq
    rcases List.mem_cons.1 hq with rfl | hq
    · exact fam_st n _
    · rcases List.mem_cons.1 hq with rfl | hq
      · exact fam_st n _
      · cases hq
  · rcases List.mem_cons.1 hx with rfl | hx
    · rw [leads_end] at hq; cases hq
    · obtain ⟨m, _, rfl⟩ := List.mem_map.1 hx
      rw [leads_st] at hq
      rcases List.mem_cons.1 hq with rfl | hq
      · exact List.mem_cons_of_mem _ (List.mem_cons_self ..)
      · rcases List.mem_cons.1 hq with rfl | hq
        · exact fam_st n _
        · rcases List.mem_cons.1 hq with rfl | hq
          · exact fam_st n _
          · cases hq
/-- A list that holds the first state and all that is led to holds all of them. -/
theorem fam_all (n : Nat) (fin : List (List It)) (h0 : [(0, 0), (1, 0)] ∈ fin) (h : ∀ x ∈ fin, ∀ q ∈ leadsF (longG n) x, q.2 ∈ fin) : ∀ x ∈ famL n, x ∈ fin := by
  have hp : 0 < 2 ^ (n + 1) := Nat.two_pow_pos _
  have hz : stM n 0 ∈ fin := by
    have := h _ h0
    rw [leads_start] at this
    have h2 := this (⟨0, sB, 0⟩, stM n ((2 * 0 + 0) % 2 ^ (n + 1))) (by simp)
    simpa using h2
  have hst : ∀ m, m < 2 ^ (n + 1) → stM n m ∈ fin := by
    intro m
    induction m using Nat.strongRecOn with
    | _ m ih =>
      intro hm
      by_cases h00 : m = 0
      · subst h00; exact hz
      · have hh := h _ (ih (m / 2) (by omega) (by omega))
        rw [leads_st] at hh
        rcases Nat.mod_two_eq_zero_or_one m with h2 | h2
        · have h3 := hh (⟨0, sB, 0⟩, stM n ((2 * (m / 2) + 0) % 2 ^ (n + 1))) (by simp)
          rw [show 2 * (m / 2) + 0 = m by omega, Nat.mod_eq_of_lt hm] at h3
          exact h3
        · have h3 := hh (⟨0, sA, 0⟩, stM n ((2 * (m / 2) + 1) % 2 ^ (n + 1))) (by simp)
          rw [show 2 * (m / 2) + 1 = m by omega, Nat.mod_eq_of_lt hm] at h3
          exact h3
  intro x hx
  unfold famL at hx
  rcases List.mem_cons.1 hx with rfl | hx
  · exact h0
  · rcases List.mem_cons.1 hx with rfl | hx
    · have := h _ hz
      rw [leads_st] at this
      exact this (⟨1, 0, 0⟩, [(0, 2)]) (by simp)
    · obtain ⟨m, hm, rfl⟩ := List.mem_map.1 hx
      exact hst m (by simpa using hm)
theorem long_fin (n : Nat) (l : List St) (h : makeF (longG n) = some l) : l.length ≤ 16384 ∧ l.length = 2 ^ (n + 1) + 2 := by
  unfold makeF at h
  rw [start_long] at h
  obtain ⟨fin, f1, f2, ⟨t, f3⟩, f4, f5, f6⟩ := statesGo_some (longG n) 16385 0 [[(0, 0), (1, 0)]] l (by simp) (by simp) (Nat.zero_le _) (by decide) h
  have h0 : [(0, 0), (1, 0)] ∈ fin := by rw [f3]; simp
  have hcl : ∀ x ∈ fin, ∀ q ∈ leadsF (longG n) x, q.2 ∈ fin := by
    intro x hx
    obtain ⟨i, hi, rfl⟩ := List.getElem_of_mem hx
    exact f5 i _ (Nat.zero_le _) (List.getElem?_eq_getElem hi)
  have hin : ∀ x ∈ fin, x ∈ famL n := f6 (fun x => x ∈ famL n) (fam_leads n) (by intro x hx; simp at hx; subst hx; simp [famL])
  have h1 := nodup_le (famL n) fin (fam_nodup n) (fam_all n fin h0 hcl)
  have h2 := nodup_le fin (famL n) f1 hin
  rw [fam_len] at h1 h2
  omega
/-- So many states: n at most 12. -/
theorem long_some (n : Nat) (hn : n ≤ 12) : ∃ l, makeF (longG n) = some l ∧ l.length = 2 ^ (n + 1) + 2 := by
  cases h : makeF (longG n) with
  | some l => exact ⟨l, rfl, (long_fin n l h).2⟩
  | none =>
    exfalso
    unfold makeF at h
    rw [start_long] at h
    obtain ⟨big, b1, b2, b3⟩ := statesGo_none (longG n) (fun x => x ∈ famL n) (fam_leads n) 16385 0 [[(0, 0), (1, 0)]] (by simp) (by simp) (by intro x hx; simp at hx; subst hx; simp [famL]) h
    have := nodup_le big (famL n) b1 b3
    rw [fam_len] at this
    have hp : 2 ^ (n + 1) ≤ 2 ^ 13 := Nat.pow_le_pow_right (by decide) (by omega)
    omega
/-- Too many: n above 12. -/
theorem long_none (n : Nat) (hn : 13 ≤ n) : makeF (longG n) = none := by
  cases h : makeF (longG n) with
  | none => rfl
  | some l =>
    exfalso
    have := long_fin n l h
    have hp : 2 ^ 14 ≤ 2 ^ (n + 1) := Nat.pow_le_pow_right (by decide) (by omega)
    omega
end Go.Proofs.YtknpkndiflodbaaGreatDoor.Tb
