/-
  A ROW OF THE CALL's OWN, SORTED by slices.SortFunc: it is the call's own still, and reads as what it was sorted to.
-/
import Derived.Shelf.SlSortCmp.WholeK
import Derived.Test.YtknpkndiflodbaaGreatDoorRowsA
set_option linter.unusedVariables false
namespace Go.Proofs.YtknpkndiflodbaaGreatDoor.Mx
open Go Go.RowKit Go.Proofs

section
variable {α : Type} [Inhabited α] {enc : α → List Value} {k : Nat}
theorem flat_get (hk : ∀ x, (enc x).length = k) (hk0 : 0 < k) (d : Array α) (t : Nat) (h : t < d.size * k) : (flatK enc d.toList)[t]? = some ((enc d[t / k]!)[t % k]!) := by
  have h1 : t / k < d.size := Nat.div_lt_of_lt_mul (by rwa [Nat.mul_comm] at h)
  have h2 := Nat.mod_lt t hk0
  have h3 : d.toList[t / k]? = some d[t / k]! := by rw [getElem!_pos d _ h1]; simp [h1]
  have h4 : (enc d[t / k]!)[t % k]? = some ((enc d[t / k]!)[t % k]!) := by
    rw [getElem!_pos (enc d[t / k]!) (t % k) (by rw [hk]; exact h2)]; exact List.getElem?_eq_getElem _
  have := flatK_get hk d.toList (t / k) _ (t % k) _ h3 h4
  rwa [Nat.mul_comm (t / k) k, Nat.div_add_mod] at this
variable {w : World} {B : Nat} {t : TypeId} {g n cap : Nat} {l : List α}
theorem own_holds (hk : ∀ x, (enc x).length = k) (hk0 : 0 < k) (h : w.ownsRow B t k (.slice (some ⟨g, 0, none⟩) n cap) n (flatK enc l)) (hn : n = l.length) : Go.Sort.HoldsK enc k w g 0 l.toArray := by
  intro j hj
  rw [Go.Sort.size_flatK] at hj
  have h1 := flat_get hk hk0 l.toArray j hj
  rw [Nat.zero_add]
  refine ⟨?_, h.frozenAt j⟩
  rw [h.cellAt j (by rw [hn]; simpa using hj), Go.Sort.get_flatK _ _ _ _ hj]
  exact h1
theorem sorted_own (hk : ∀ x, (enc x).length = k) (hk0 : 0 < k) (h : w.ownsRow B t k (.slice (some ⟨g, 0, none⟩) n cap) n (flatK enc l)) (m : Nat) (d : Array α) (hd : d.size = n) (os : Array Obj) :
    (Go.Proofs.sortWorldK enc k w g 0 m d os).ownsRow B t k (.slice (some ⟨g, 0, none⟩) n cap) n (flatK enc d.toList) ∧ w.grownBy (Go.Proofs.sortWorldK enc k w g 0 m d os) (some g) := by
  have hg := (h.lt g rfl).2
  obtain ⟨hx, hv⟩ := h
  rcases hv with ⟨e, _⟩ | ⟨g', cap', cur, e, hB, hh, h1, h2, h3, h4⟩
  · cases e
  injection e with e e2 e3
  injection e with e
  injection e with e
  subst e; subst e3
  have hw : (Go.Proofs.sortWorldK enc k w g 0 m d os).heap = w.heap.modify g (Go.Sort.onCells (Go.Sort.putCells id 0 (Go.Sort.flatK enc k d))) ++ os := rfl
  refine ⟨⟨by rw [flatK_len hk]; simp [hd], .inr ⟨g, cap, Go.Sort.putCells id 0 (Go.Sort.flatK enc k d) cur, rfl, hB, ?_, h1, h2, by simp [Go.Sort.putCells, h3], ?_⟩⟩, rfl, rfl, rfl, ?_, ?_⟩
  · rw [hw, Array.getElem?_append_left (by simpa using hg), Array.getElem?_modify, if_pos rfl, hh]; rfl
  · apply List.ext_getElem?
    intro j
    by_cases hj : j < n * k
    · rw [List.getElem?_take, if_pos hj, flat_get hk hk0 d j (by rw [hd]; exact hj)]
      have hc : j < cur.size := by rw [h3]; exact Nat.lt_of_lt_of_le hj (Nat.mul_le_mul_right k h1)
      unfold Go.Sort.putCells
      rw [Array.getElem?_toList, Array.getElem?_mapIdx, Array.getElem?_eq_getElem hc]
      have hj2 : j < d.size * k := by rw [hd]; exact hj
      have hj3 : j < (Go.Sort.flatK enc k d).size := by simpa using hj2
      rw [← Go.Sort.get_flatK _ _ _ _ hj2, getElem!_pos _ j hj3]
      simp [hj2]
    · rw [List.getElem?_take, if_neg hj, List.getElem?_eq_none (by rw [flatK_len hk]; simp [hd]; omega)]
  · rw [hw]; simp
  · intro i hi hne
    rw [hw, Array.getElem?_append_left (by simpa using hi), Array.getElem?_modify, if_neg (by rintro rfl; exact hne rfl)]
end
end Go.Proofs.YtknpkndiflodbaaGreatDoor.Mx
