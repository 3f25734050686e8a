/-
  WALKS of package langs: a language found by its name.
-/
import Derived.Test.YtmkidbenndhhjaaDoorLangs1
import Derived.LoopTactic
set_option linter.unusedVariables false
namespace Go.Proofs.YtmkidbenndhhjaaDoor.Lx
open Go.RowKit Go.Proofs Mx

theorem ret_int {k : IntKind} {a b : Int} (h : a = b) : Ending.returned (.int k a) = .returned (.int k b) := by rw [h]
theorem closure_any (s n : ByteArray) (v1 v2 v3 : Value) (g : Nat) (w : World) (hc : w.cell? ⟨g, 0, none⟩ = some (.string s)) :
    Calls Tryd.prog 54 #[.agg #[.string n, v1, v2, v3], .pointer (some ⟨g, 0, none⟩)] w fun e w' => e = .returned (.bool (n.toList == s.toList)) ∧ ∃ o, w.alloc o = w' := by
  have h2 := fun o => cell_alloc_ hc o
  go_enter Tryd.func54, Tryd.ntmps54
  go_wp2
  go_ret
  exact ⟨rfl, _, rfl⟩

/-- Which language bears the name: 0, 1, 2; 3: none. -/
noncomputable def which (s : ByteArray) : Int := if (cs 4).toList = s.toList then 0 else if (cs 11).toList = s.toList then 1 else if (cs 18).toList = s.toList then 2 else -1
set_option maxRecDepth 100000 in
theorem index_any (s : ByteArray) (g A B : Nat) (w : World) (hc : w.cell? ⟨g, 0, none⟩ = some (.string s)) (hA : Blk w A 63 (all12 B)) :
    Calls Tryd.prog 53 #[.slice (some ⟨A, 0, none⟩) 3 3, .func (.func 54) #[] #[.pointer (some ⟨g, 0, none⟩)]] w
      fun e w' => e = .returned (.int .i64 (which s)) ∧ Below w.heap.size w w' := by
  go_enter Tryd.func53, Tryd.ntmps53
  have a0 := hA.cell 0
  have a1 := hA.cell 1
  have a2 := hA.cell 2
  have a3 := hA.cell 3
  have b0 := fun o => (hA.alloc o).cell 4
  have b1 := fun o => (hA.alloc o).cell 5
  have b2 := fun o => (hA.alloc o).cell 6
  have b3 := fun o => (hA.alloc o).cell 7
  have c0 := fun o o' => ((hA.alloc o).alloc o').cell 8
  have c1 := fun o o' => ((hA.alloc o).alloc o').cell 9
  have c2 := fun o o' => ((hA.alloc o).alloc o').cell 10
  have c3 := fun o o' => ((hA.alloc o).alloc o').cell 11
  simp only [all12] at a0 a1 a2 a3 b0 b1 b2 b3 c0 c1 c2 c3
  go_wp2
  refine wp_loop_rounds 4 ?_
  rw [rounds_succ]
  go_wp2_with (go_at_call 54; refine (closure_any s _ _ _ _ g _ hc).mono ?_; rintro e w' ⟨rfl, o, rfl⟩)
  · go_ret
    exact ⟨ret_int (by have h : ((cs 4).toList == s.toList) = true := by assumption
                       rw [which, if_pos (by simpa using h)]), by go_grown⟩
  rename_i n0
  rw [rounds_succ]
  go_wp2_with (go_at_call 54; refine (closure_any s _ _ _ _ g _ (cell_alloc_ hc _)).mono ?_; rintro e w' ⟨rfl, o2, rfl⟩)
  · go_ret
    exact ⟨ret_int (by have h : ((cs 11).toList == s.toList) = true := by assumption
                       rw [which, if_neg (by simpa using n0), if_pos (by simpa using h)]), by go_grown⟩
  rename_i n1
  rw [rounds_succ]
  go_wp2_with (go_at_call 54; refine (closure_any s _ _ _ _ g _ (cell_alloc_ (cell_alloc_ hc _) _)).mono ?_; rintro e w' ⟨rfl, o3, rfl⟩)
  · go_ret
    exact ⟨ret_int (by have h : ((cs 18).toList == s.toList) = true := by assumption
                       rw [which, if_neg (by simpa using n0), if_neg (by simpa using n1), if_pos (by simpa using h)]), by go_grown⟩
  rename_i n2
  rw [rounds_succ]
  go_wp2
  go_ret
  exact ⟨ret_int (by rw [which, if_neg (by simpa using n0), if_neg (by simpa using n1), if_neg (by simpa using n2)]), by go_grown⟩
end Go.Proofs.YtmkidbenndhhjaaDoor.Lx
