/-
  WALKS: slices.Sort at int.
-/
import Derived.Test.YtknpkndiflodbaaGreatDoorTbLead1A
import Derived.Test.YtknpkndiflodbaaGreatDoorShelfT
import Derived.Test.YtknpkndiflodbaaGreatDoorSortL
set_option linter.unusedVariables false
set_option linter.unusedSimpArgs false
namespace Go.Proofs.YtknpkndiflodbaaGreatDoor.Tb
open Go Go.RowKit Go.Proofs Go.Sort Go.Shelf Mx
theorem insert_nil (w : World) : Calls Tryz.prog 100 #[.slice none 0 0, .int .i64 0, .int .i64 0] w fun e w' => e = .returned (.tuple #[]) ∧ w' = w := by
  go_enter Tryz.func100, Tryz.ntmps100
  go_wp2_with fail
  go_loopg [6] 0 (fun m v wr => v = .int .i64 1 ∧ wr = w)
  case atStart => exact ⟨rfl, rfl⟩
  case round =>
    obtain ⟨rfl, rfl⟩ := hrel
    go_wp2_with fail
    refine bodyPost_end (results_none rfl _ _ _) rfl ?_
    exact ⟨rfl, rfl⟩
theorem pdq_nil (k : Int) (w : World) : Calls Tryz.prog 87 #[.slice none 0 0, .int .i64 0, .int .i64 0, .int .i64 k] w fun e w' => e = .returned (.tuple #[]) ∧ w' = w := by
  have hi := fun W => insert_nil W
  go_enter Tryz.func87, Tryz.ntmps87
  go_wp2_with fail
  refine wp_loop_once ?_
  go_wp2_with fail
  refine (hi _).mono ?_
  rintro e w' ⟨rfl, rfl⟩
  go_wp2_with fail
  refine bodyPost_ret (results_none rfl _ _ _) rfl ?_
  exact ⟨rfl, rfl⟩
theorem sort_nil (w : World) : Calls Tryz.prog 68 #[.slice none 0 0] w fun e w' => e = .returned (.tuple #[]) ∧ w' = w := by
  have hl := fun W => Tryz.bits_Len 0 W (by decide) (by decide)
  have hp := fun k W => pdq_nil k W
  go_enter Tryz.func68, Tryz.ntmps68
  go_wp2_with fail
  refine (hl _).mono ?_
  rintro e w' ⟨rfl, rfl⟩
  go_wp2_with fail
  refine (hp _ _).mono ?_
  rintro e w' ⟨rfl, rfl⟩
  go_wp2_with fail
  refine bodyPost_end (results_none rfl _ _ _) rfl ?_
  exact ⟨rfl, rfl⟩
theorem sortI_any (c : Nat) (o : List Int) (v : Value) (w : World) (hn : o.length ≤ 1000000) (h : w.ownsRow c 3 1 v o.length (flatK encI o)) :
    Calls Tryz.prog 68 #[v] w fun e w' => e = .returned (.tuple #[]) ∧ w'.ownsRow c 3 1 v o.length (flatK encI (o.foldr insInt [])) ∧ w.grownBy w' v.ownBlock := by
  have hfl : ∀ (l : List Int) (j : Nat) (x : Int), l[j]? = some x → (flatK encI l)[j]? = some (.int .i64 x) := fun l j x hx => by
    have := flatK_get encI_len l j x 0 (.int .i64 x) hx rfl
    simpa using this
  have hms : o.mergeSort (fun x y => decide (x ≤ y)) = o.foldr insInt [] := by
    refine sortInt_unique (List.mergeSort_perm _ _) ?_
    have := List.pairwise_mergeSort (le := fun (x y : Int) => decide (x ≤ y)) (fun a b c h1 h2 => by simp at *; omega) (fun a b => by simp; omega) o
    exact this.imp (fun h => by simpa using h)
  have h0 := h
  rcases h.2 with ⟨rfl, hz⟩ | ⟨g, cap, cur, rfl, hBg, hh, h1, h2, h3, h4⟩
  · have ho : o = [] := List.eq_nil_of_length_eq_zero hz
    subst ho
    exact (sort_nil w).mono fun e w' ⟨he, hw⟩ => ⟨he, by rw [hw]; exact h, by rw [hw]; exact grown_refl _ _⟩
  · have hg := (h.lt g rfl).2
    have hH : Holds (Value.int .i64) w g 0 o.toArray := fun j hj => by
      have hj' : j < o.length := by simpa using hj
      rw [Nat.zero_add]
      refine ⟨?_, h.frozenAt j⟩
      rw [h.cellAt j (by simpa using hj'), hfl o j o[j] (List.getElem?_eq_getElem hj')]
      rw [getElem!_pos o.toArray j hj]; simp
    refine (Any.slices_Sort_int Tryz.lays189 g 0 cap o w hH hg (by omega)).mono ?_
    rintro e w' ⟨rfl, n, os, rfl⟩
    rw [hms]
    have hlen : (o.foldr insInt []).length = o.length := (sortInt_perm o).length_eq
    have hw : (grow (putRow (Value.int .i64) (Sort.ahead w n) g 0 (o.foldr insInt []).toArray) os).heap = w.heap.modify g (onCells (putCells (Value.int .i64) 0 (o.foldr insInt []).toArray)) ++ os := rfl
    refine ⟨rfl, ⟨by rw [flatK_len encI_len, hlen], .inr ⟨g, cap, putCells (Value.int .i64) 0 (o.foldr insInt []).toArray cur, rfl, hBg, ?_, h1, h2, by simp [putCells, h3], ?_⟩⟩, rfl, rfl, rfl, ?_, ?_⟩
    · rw [hw, Array.getElem?_append_left (by simpa using hg), Array.getElem?_modify, if_pos rfl, hh]; rfl
    · apply List.ext_getElem?
      intro j
      by_cases hj : j < o.length
      · have hj2 : j < (o.foldr insInt []).length := by rw [hlen]; exact hj
        rw [List.getElem?_take, if_pos (by omega), hfl _ j _ (List.getElem?_eq_getElem hj2)]
        have hc : j < cur.size := by rw [h3]; omega
        unfold putCells
        rw [Array.getElem?_toList, Array.getElem?_mapIdx, Array.getElem?_eq_getElem hc]
        have hj3 : j < (o.foldr insInt []).toArray.size := by simpa using hj2
        simp [hj2]
      · rw [List.getElem?_take, if_neg (by omega), List.getElem?_eq_none (by rw [flatK_len encI_len, hlen]; omega)]
    · rw [hw]; simp
    · intro i hi hne
      rw [hw, Array.getElem?_append_left (by simpa using hi), Array.getElem?_modify, if_neg (by rintro rfl; exact hne rfl)]
end Go.Proofs.YtknpkndiflodbaaGreatDoor.Tb
