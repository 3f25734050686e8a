/-
  WORDS FOR MEMORY: a row of words behind another row's words.
-/
import Derived.Test.YtacgnbelcpmjfaaGreatDoorPrintA
import Derived.Laws.OwnMore
set_option linter.unusedVariables false
set_option linter.unusedSimpArgs false
namespace Go.Proofs.YtacgnbelcpmjfaaGreatDoor.Dx
open Go.RowKit Go.Proofs Mx
def icells : List (Int × Wd) → List Value
  | [] => []
  | (p, v) :: t => (wdC p v).toList ++ icells t
theorem icells_length (l : List (Int × Wd)) : (icells l).length = l.length * 8 := by
  induction l with
  | nil => rfl
  | cons p t ih => obtain ⟨a, b⟩ := p; simp only [icells, List.length_append, List.length_cons, ih]; simp [wdC]; omega
theorem icells_get (l : List (Int × Wd)) : ∀ (i : Nat) (p : Int) (v : Wd), l[i]? = some (p, v) → ∀ j u, (wdC p v).toList[j]? = some u → (icells l)[i * 8 + j]? = some u := by
  induction l with
  | nil => intro i p v h; simp at h
  | cons q t ih =>
    obtain ⟨p0, v0⟩ := q
    intro i p v h j u hu
    have hj : j < 8 := by
      have := List.getElem?_eq_some_iff.1 hu
      obtain ⟨h1, _⟩ := this
      simpa [wdC] using h1
    cases i with
    | zero =>
      simp at h
      obtain ⟨rfl, rfl⟩ := h
      rw [icells, Nat.zero_mul, Nat.zero_add, List.getElem?_append_left (by simp [wdC]; omega)]
      exact hu
    | succ i =>
      simp at h
      have h8 : (wdC p0 v0).toList.length = 8 := rfl
      rw [icells, List.getElem?_append_right (by rw [h8]; omega), h8, show (i + 1) * 8 + j - 8 = i * 8 + j by omega]
      exact ih i p v h j u hu
theorem icells_one (l : List (Int × Wd)) : ∀ u ∈ icells l, u.oneCell' = true := by
  induction l with
  | nil => intro u hu; cases hu
  | cons q t ih =>
    obtain ⟨p, v⟩ := q
    intro u hu
    rw [icells, List.mem_append] at hu
    rcases hu with hu | hu
    · simp [wdC] at hu
      rcases hu with rfl | rfl | rfl | rfl | rfl | rfl | rfl | rfl <;> rfl
    · exact ih u hu
theorem icells_row {w : World} {g o : Nat} {l : List (Int × Wd)} (h : RowW w g o l) : ∀ j u, (icells l)[j]? = some u → w.cell? ((⟨g, o, none⟩ : Addr).add j) = some u := by
  intro j u hu
  have hjl : j < l.length * 8 := by rw [← icells_length]; exact (List.getElem?_eq_some_iff.1 hu).1
  have hi : j / 8 < l.length := by omega
  obtain ⟨q, hq⟩ : ∃ q, l[j / 8]? = some q := ⟨_, List.getElem?_eq_getElem hi⟩
  obtain ⟨p, v⟩ := q
  have hj : j = j / 8 * 8 + j % 8 := by omega
  have hr : j % 8 < 8 := Nat.mod_lt _ (by decide)
  obtain ⟨x0, x1, x2, x3, x4, x5, x6, x7⟩ := h.cells _ p v hq
  have hadd : (⟨g, o, none⟩ : Addr).add j = ⟨g, o + j, none⟩ := by simp [Addr.add]
  rw [hadd]
  generalize j / 8 = i at *
  generalize j % 8 = r at *
  subst hj
  have get := icells_get l i p v hq
  rw [← Nat.add_assoc]
  have hcase : r = 0 ∨ r = 1 ∨ r = 2 ∨ r = 3 ∨ r = 4 ∨ r = 5 ∨ r = 6 ∨ r = 7 := by omega
  rcases hcase with rfl | rfl | rfl | rfl | rfl | rfl | rfl | rfl
  · have := get 0 _ rfl; rw [hu] at this; cases this; exact x0
  · have := get 1 _ rfl; rw [hu] at this; cases this; exact x1
  · have := get 2 _ rfl; rw [hu] at this; cases this; exact x2
  · have := get 3 _ rfl; rw [hu] at this; cases this; exact x3
  · have := get 4 _ rfl; rw [hu] at this; cases this; exact x4
  · have := get 5 _ rfl; rw [hu] at this; cases this; exact x5
  · have := get 6 _ rfl; rw [hu] at this; cases this; exact x6
  · have := get 7 _ rfl; rw [hu] at this; cases this; exact x7
/-- What the row with one word more holds. -/
theorem own_words {w : World} {B g cap : Nat} {l : List (Int × Wd)} {more : List Value} (h : w.ownsRow B 35 8 (.slice (some ⟨g, 0, none⟩) (l.length + 1) cap) (l.length + 1) (icells l ++ more)) :
    RowW w g 0 l ∧ l.length + 1 ≤ cap ∧ B ≤ g ∧ ∀ j u, more[j]? = some u → j < 8 → w.cell? ⟨g, l.length * 8 + j, none⟩ = some u := by
  have hcap : l.length + 1 ≤ cap := by
    rcases h.2 with ⟨h0, _⟩ | ⟨g', cap', cur, hv, hg, hh, r⟩
    · cases h0
    · injection hv with e1 e2 e3
      subst e3
      exact r.1
  refine ⟨⟨(h.lt g rfl).2, ?_⟩, hcap, (h.lt g rfl).1, ?_⟩
  · intro i p v hi
    have hil : i < l.length := (List.getElem?_eq_some_iff.1 hi).1
    have get : ∀ j u, (wdC p v).toList[j]? = some u → j < 8 → w.cell? ⟨g, 0 + i * 8 + j, none⟩ = some u := by
      intro j u hu hj
      rw [Nat.zero_add]
      refine (h.cellAt (i * 8 + j) (by omega)).trans ?_
      rw [List.getElem?_append_left (by rw [icells_length]; omega)]
      exact icells_get l i p v hi j u hu
    exact ⟨get 0 _ rfl (by decide), get 1 _ rfl (by decide), get 2 _ rfl (by decide), get 3 _ rfl (by decide), get 4 _ rfl (by decide), get 5 _ rfl (by decide), get 6 _ rfl (by decide), get 7 _ rfl (by decide)⟩
  · intro j u hu hj
    refine (h.cellAt (l.length * 8 + j) (by omega)).trans ?_
    rw [List.getElem?_append_right (by rw [icells_length]; omega), icells_length, show l.length * 8 + j - l.length * 8 = j by omega]
    exact hu
theorem own_none (w : World) (t : TypeId) (z : Nat) : (w.alloc (.cells #[] t)).ownsRow w.heap.size t z (.slice (some ⟨w.heap.size, 0, none⟩) 0 0) 0 [] :=
  ⟨by simp, .inr ⟨w.heap.size, 0, #[], rfl, Nat.le_refl _, Blk.new w _ _, Nat.le_refl _, by unfold maxLen; omega, by simp, by simp⟩⟩
end Go.Proofs.YtacgnbelcpmjfaaGreatDoor.Dx
