/-
  WALKS: the law's works.
-/
import Derived.Test.YtmkidbenndhhjaaDoorLangs11
set_option linter.unusedVariables false
set_option linter.unusedSimpArgs false
namespace Go.Proofs.YtmkidbenndhhjaaDoor.Lx
open Go.RowKit Go.Proofs Mx Bx Go.Shelf

theorem which_java : which ⟨#[74, 97, 118, 97]⟩ = -1 := by
  have h0 : ¬ (cs 4).toList = (ByteArray.mk #[74, 97, 118, 97]).toList := by decide +kernel
  have h1 : ¬ (cs 11).toList = (ByteArray.mk #[74, 97, 118, 97]).toList := by decide +kernel
  have h2 : ¬ (cs 18).toList = (ByteArray.mk #[74, 97, 118, 97]).toList := by decide +kernel
  rw [which, if_neg h0, if_neg h1, if_neg h2]
theorem which_while : which (cs 4) = 0 := by rw [which, if_pos rfl]
theorem root_while : rootS (cs 4) = cs 4 := by rw [rootS, if_pos rfl]
theorem neg_not : decide ((0 : Int) ≤ -1) = false := by decide
theorem zero_yes : decide ((0 : Int) ≤ 0) = true := by decide

set_option maxRecDepth 100000 in
set_option maxHeartbeats 1000000 in
theorem works_any (w : World) (hT : Tab w) (hg : 0 < w.heap.size) :
    Calls Tryd.prog 17 #[] w fun e w' => e = .returned (.bool true) ∧ Below w.heap.size w w' := by
  go_enter Tryd.func17, Tryd.ntmps17
  generalize hk : ByteArray.mk (List.toArray (List.cons 87 _)) = T
  obtain rfl : cs 4 = T := Eq.trans (by kernel_rfl) hk
  clear hk
  go_wp2_with fail
  refine (names_any _ hT hg).mono ?_
  rintro e w1 ⟨v, rfl, hown, hb1⟩
  obtain ⟨g, cap, rfl⟩ := ownsRow_succ hown
  have hc := hown.cells (g := g) rfl 0 (.string (cs 4)) (by simp [namesL, nameK])
  simp only [Addr.add, if_true] at hc
  have hgl := World.block_lt_of_cell? _ _ hc
  clear hown
  go_wp2_with fail
  refine (text_any _ _ (hT.below hb1 hg) (by have := hb1.size; omega)).mono ?_
  rintro e w2 ⟨rfl, hb2⟩
  rw [which_java, neg_not]
  have hc2 := (hb2.cell (p := ⟨g, 0, none⟩) hgl).trans hc
  replace hgl := World.block_lt_of_cell? _ _ hc2
  go_wp2_with fail
  refine (root_any _ _).mono ?_
  rintro e w3 ⟨rfl, hb3⟩
  rw [which_while, zero_yes, root_while]
  have hc3 := (hb3.cell (p := ⟨g, 0, none⟩) hgl).trans hc2
  clear hc hc2
  have hfn := fun w => func_neq w
  go_wp2_with (go_at_call 15; refine (all_any _).mono ?_; rintro e w4 ⟨rfl, rfl⟩)
  go_ret
  exact ⟨rfl, hb1.trans ((hb2.mono hb1.size).trans (hb3.mono (Nat.le_trans hb1.size hb2.size)))⟩
end Go.Proofs.YtmkidbenndhhjaaDoor.Lx
