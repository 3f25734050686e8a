/-
  What the rows' lists of variables give the walks.
-/
import Derived.Test.YtknpkndiflodbaaGreatDoorTbBytes
import Derived.Test.YtknpkndiflodbaaGreatDoorCards
import Derived.Test.YtknpkndiflodbaaGreatDoorTie
import Derived.ProofKit
import Derived.OpenShut
import Derived.LaidMore
import Derived.Lib.LaidTab
import Derived.SevenTiedAt
set_option linter.unusedVariables false
namespace Go.Proofs.YtknpkndiflodbaaGreatDoor.TbCard
open Go.ChangeShapes Go.WideShapes Go.ChangeAt Go.RowKit Go.WideMaps Go.WideElems

theorem own : ownKnob Tryz.prog.godebug = none := by kernel_rfl
theorem laidOut : laidOutB Tryz.prog = true := by kernel_rfl
theorem gBruijn : Tryz.prog.globalNamed "math/bits.deBruijn64tab" = some 1 := by kernel_rfl
theorem tBru : (Tryz.prog.globals[1]?).map (·.type) = some 228 := by kernel_rfl
theorem cellsBru : Tryz.prog.cellsOf 228 = 64 := by kernel_rfl
theorem cellsByte : Tryz.prog.cellsOf 5 = 1 := by kernel_rfl
theorem datumBru : (Rows.laid_math_bits_deBruijn64tab : DataW Unit) = Lib.tabData .u8 (Lib.deBruijn64tab.map fun (n : Nat) => (n : Int)) := by kernel_rfl
theorem env_of_laid {W : World} (h : laidMetH Tryz.prog Rows.tablesLongRow.laid W) : Tb.Bru W ∧ Tb.LB ≤ W.heap.size := by
  have h' : laidMet Tryz.prog Rows.tablesLongRow.laid W := by
    rw [MakeChecks.laidMetH_plain _ _ _ (by kernel_rfl)] at h
    exact h
  obtain ⟨ps, ⟨g0, t0, cs0, f0, p0, q0, hg0, ht0, hv0, hd0, ⟨g1, t1, cs1, f1, p1, q1, hg1, ht1, hv1, hd1, _⟩, _⟩, _, _⟩ := h'
  obtain rfl := Option.some.inj (gBruijn.symm.trans hg1)
  obtain rfl := Option.some.inj (tBru.symm.trans ht1)
  rw [datumBru] at hd1
  have hbru : Lib.TabIs Tryz.prog W "math/bits.deBruijn64tab" .u8 (Lib.deBruijn64tab.map fun (n : Nat) => (n : Int)) := by
    unfold Lib.TabIs
    rw [hv1, ← Lib.cells_of_tab Tryz.underlying228 Tryz.underlying5 cellsByte cellsBru hd1]
  have hB : Tb.Bru W := by
    intro j hj
    have hlen : Lib.deBruijn64tab.length = 64 := by decide
    have := hbru.cell gBruijn j (by rw [List.length_map, hlen]; exact hj)
    rw [this]
    simp [List.getD, hlen, hj]
  exact ⟨hB, World.block_lt_of_cell? _ _ (hB 0 (by decide))⟩
end Go.Proofs.YtknpkndiflodbaaGreatDoor.TbCard
