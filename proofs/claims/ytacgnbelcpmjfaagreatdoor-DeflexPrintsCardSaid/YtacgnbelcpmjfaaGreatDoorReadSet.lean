/-
  WALKS of package sets: Read.
-/
import Derived.Test.YtacgnbelcpmjfaaGreatDoorMake
import Derived.Laws.OwnMore
set_option linter.unusedVariables false
set_option linter.unusedSimpArgs false
namespace Go.Proofs.YtacgnbelcpmjfaaGreatDoor.Dx
open Go.RowKit Go.Proofs Mx

set_option maxRecDepth 100000 in
theorem make_nil (w : World) : Calls Tryz.prog 102 #[.slice none 0 0] w fun e w' => MakeOut (some 0) e ∧ Below w.heap.size w w' := by
  go_enter Tryz.func102, Tryz.ntmps102
  go_wp2_with fail
  have hB0 : Blk ((w.alloc (.cells #[.int .u64 0, .int .u64 0, .int .u64 0, .int .u64 0] 33)).alloc (.cells #[.int .u64 0, .int .u64 0, .int .u64 0, .int .u64 0] 33)) w.heap.size 33 (setC 0) :=
    (Blk.new_ rfl _ _).alloc _
  have hB1 : Blk ((w.alloc (.cells #[.int .u64 0, .int .u64 0, .int .u64 0, .int .u64 0] 33)).alloc (.cells #[.int .u64 0, .int .u64 0, .int .u64 0, .int .u64 0] 33)) (w.heap.size + 1) 33 (setC 0) :=
    Blk.new_ (by simp) _ _
  have hbl := ((Below.refl w.heap.size w).alloc (Nat.le_refl _) (.cells #[.int .u64 0, .int .u64 0, .int .u64 0, .int .u64 0] 33)).alloc (by simp) (.cells #[.int .u64 0, .int .u64 0, .int .u64 0, .int .u64 0] 33)
  generalize ((w.alloc (.cells #[.int .u64 0, .int .u64 0, .int .u64 0, .int .u64 0] 33)).alloc (.cells #[.int .u64 0, .int .u64 0, .int .u64 0, .int .u64 0] 33)) = w2 at hB0 hB1 hbl ⊢
  obtain ⟨e0, e1, e2, e3, ef⟩ := hB0.facts4
  obtain ⟨f0, f1, f2, f3, ff⟩ := hB1.facts4
  have A := Lib.hid (And.intro hB0 hbl)
  clear hB0 hB1 hbl
  go_loopg [10] 0 (fun m v wr => v = .int .i64 0 ∧ w2 = wr)
  case atStart => exact ⟨rfl, rfl⟩
  case round =>
    obtain ⟨rfl, rfl⟩ := hrel
    go_wp2_with fail
    have hbk := (((A.out.1.set_ 0 (.int .u64 (wd 0 0))).set_ 1 (.int .u64 (wd 0 1))).set_ 2 (.int .u64 (wd 0 2))).set_ 3 (.int .u64 (wd 0 3))
    refine bodyPost_ret (results_cell_tmp_row (by rfl) _ _ w.heap.size 33 _ _ _ (by rfl) (by rfl) hbk Tryz.underlying33 (by rfl) (by kernel_rfl)) rfl ?_
    refine ⟨rfl, (((A.out.2.setCell ?_ _).setCell ?_ _).setCell ?_ _).setCell ?_ _⟩ <;> simp

/-- The ranges of a set's text, up to the closing bracket. -/
def itemsG : Nat → List UInt8 → Option (List (UInt8 × UInt8))
  | 0, _ => none
  | f + 1, l => if l = [93] then some [] else
    match takeF l with
    | none => none
    | some (a, n) =>
      if (l.drop n).head? = some 45 then
        match takeF (l.drop (n + 1)) with
        | none => none
        | some (b, k) => (itemsG f (l.drop (n + 1 + k))).map ((a, b) :: ·)
      else (itemsG f (l.drop n)).map ((a, a) :: ·)
def itemsF (l : List UInt8) : Option (List (UInt8 × UInt8)) := itemsG (l.length + 1) l
theorem takeF_pos (l : List UInt8) (b : UInt8) (n : Nat) (h : takeF l = some (b, n)) : 1 ≤ n ∧ n ≤ l.length := by
  cases l with
  | nil => cases h
  | cons c t =>
    rw [takeF] at h
    split at h
    · cases t with
      | nil => cases h
      | cons d u =>
        rw [takeB] at h
        split at h
        · simp at h; simp; omega
        · split at h
          · unfold takeH at h
            split at h
            · split at h
              · simp at h; simp; omega
              · cases h
            · cases h
          · cases h
    · split at h
      · simp at h; simp; omega
      · cases h
theorem itemsG_more : ∀ (f : Nat) (l : List UInt8), l.length < f → itemsG f l = itemsG (f + 1) l := by
  intro f
  induction f with
  | zero => intro l h; omega
  | succ f ih =>
    intro l h
    rw [itemsG, itemsG]
    split
    · rfl
    · cases ht : takeF l with
      | none => rfl
      | some p =>
        obtain ⟨a, n⟩ := p
        have hp := takeF_pos l a n ht
        simp only
        rw [ih (l.drop n) (by rw [List.length_drop]; omega)]
        split
        · cases takeF (l.drop (n + 1)) with
          | none => rfl
          | some q =>
            obtain ⟨b, k⟩ := q
            simp only
            rw [ih (l.drop (n + 1 + k)) (by rw [List.length_drop]; omega)]
        · rfl
theorem itemsG_any (f : Nat) (l : List UInt8) (h : l.length < f) : itemsG f l = itemsF l := by
  obtain ⟨d, rfl⟩ : ∃ d, f = l.length + 1 + d := ⟨f - (l.length + 1), by omega⟩
  induction d with
  | zero => rfl
  | succ d ih =>
    have := itemsG_more (l.length + 1 + d) l (by omega)
    rw [show l.length + 1 + (d + 1) = l.length + 1 + d + 1 by omega, ← this]
    exact ih (by omega)
theorem itemsF_end : itemsF [93] = some [] := by rw [itemsF, itemsG, if_pos rfl]
theorem itemsF_bad (l : List UInt8) (h : l ≠ [93]) (ht : takeF l = none) : itemsF l = none := by rw [itemsF, itemsG, if_neg h, ht]
theorem itemsF_one (l : List UInt8) (h : l ≠ [93]) (a : UInt8) (n : Nat) (ht : takeF l = some (a, n)) (hd : (l.drop n).head? ≠ some 45) : itemsF l = (itemsF (l.drop n)).map ((a, a) :: ·) := by
  have hp := takeF_pos l a n ht
  rw [itemsF, itemsG, if_neg h, ht]
  simp only
  rw [if_neg hd, itemsG_any _ _ (by rw [List.length_drop]; omega)]
theorem itemsF_two (l : List UInt8) (h : l ≠ [93]) (a : UInt8) (n : Nat) (ht : takeF l = some (a, n)) (hd : (l.drop n).head? = some 45) : itemsF l = (match takeF (l.drop (n + 1)) with
        | none => none
        | some (b, k) => (itemsF (l.drop (n + 1 + k))).map ((a, b) :: ·)) := by
  have hp := takeF_pos l a n ht
  rw [itemsF, itemsG, if_neg h, ht]
  simp only
  rw [if_pos hd]
  cases takeF (l.drop (n + 1)) with
  | none => rfl
  | some q =>
    obtain ⟨b, k⟩ := q
    simp only
    rw [itemsG_any _ _ (by rw [List.length_drop]; omega)]
/-- A set's text. -/
def readF : List UInt8 → Option Nat
  | 91 :: t =>
    if t.head? = some 94 then ((itemsF (t.drop 1)).bind (makeF 0)).map notM
    else (itemsF t).bind (makeF 0)
  | _ => none
def rcells : List (UInt8 × UInt8) → List Value
  | [] => []
  | (a, b) :: t => .int .u8 (a.toNat : Int) :: .int .u8 (b.toNat : Int) :: rcells t
theorem rcells_length (l : List (UInt8 × UInt8)) : (rcells l).length = l.length * 2 := by
  induction l with
  | nil => rfl
  | cons p t ih => obtain ⟨a, b⟩ := p; simp only [rcells, List.length_cons, ih]; omega
theorem rcells_append (l : List (UInt8 × UInt8)) (a b : UInt8) : rcells l ++ [.int .u8 (a.toNat : Int), .int .u8 (b.toNat : Int)] = rcells (l ++ [(a, b)]) := by
  induction l with
  | nil => rfl
  | cons p t ih => obtain ⟨c, d⟩ := p; simp only [rcells, List.cons_append, ih]
theorem rcells_get (l : List (UInt8 × UInt8)) (k : Nat) (a b : UInt8) (h : l[k]? = some (a, b)) : (rcells l)[k * 2]? = some (.int .u8 (a.toNat : Int)) ∧ (rcells l)[k * 2 + 1]? = some (.int .u8 (b.toNat : Int)) := by
  induction l generalizing k with
  | nil => simp at h
  | cons p t ih =>
    obtain ⟨c, d⟩ := p
    cases k with
    | zero => simp at h; obtain ⟨rfl, rfl⟩ := h; exact ⟨rfl, rfl⟩
    | succ k =>
      have := ih k (by simpa using h)
      rw [show (k + 1) * 2 = k * 2 + 1 + 1 by omega]
      simpa [rcells] using this
theorem make_own {w : World} {B : Nat} {v : Value} {l : List (UInt8 × UInt8)} (hl : l.length ≤ 1000000000) (h : w.ownsRow B 94 2 v l.length (rcells l)) :
    Calls Tryz.prog 102 #[v] w fun e w' => MakeOut (makeF 0 l) e ∧ Below w.heap.size w w' := by
  rcases h.2 with ⟨rfl, hn⟩ | ⟨g, cap, cur, rfl, hb, hg, _⟩
  · have : l = [] := List.eq_nil_of_length_eq_zero hn
    subst this
    exact make_nil w
  · refine make_some g cap l hl w ((Array.getElem?_eq_some_iff.1 hg).1) ?_
    intro k a b hk
    obtain ⟨h1, h2⟩ := rcells_get l k a b hk
    have hkl : k < l.length := (List.getElem?_eq_some_iff.1 hk).1
    exact ⟨(h.cellAt (k * 2) (by omega)).trans h1, (h.cellAt (k * 2 + 1) (by omega)).trans h2⟩
end Go.Proofs.YtacgnbelcpmjfaaGreatDoor.Dx
