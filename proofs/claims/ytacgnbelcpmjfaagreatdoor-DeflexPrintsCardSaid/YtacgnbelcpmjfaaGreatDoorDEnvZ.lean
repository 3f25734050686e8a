/-
  What the rows' lists of variables give the walks.
-/
import Derived.Test.YtacgnbelcpmjfaaGreatDoorPrintA
import Derived.Test.YtacgnbelcpmjfaaGreatDoorCards
import Derived.Test.YtacgnbelcpmjfaaGreatDoorTie
import Derived.ProofKit
import Derived.OpenShut
import Derived.ShutString
import Derived.LaidMore
import Derived.Lib.LaidTab
import Derived.SevenTiedAt
set_option linter.unusedVariables false
namespace Go.Proofs.YtacgnbelcpmjfaaGreatDoor.DxCard
open Go.ChangeShapes Go.WideShapes Go.ChangeAt Go.RowKit Go.WideMaps Go.WideElems
open Go.ChangeMaps (open_string shut_string)

theorem own : ownKnob Tryz.prog.godebug = none := by kernel_rfl
theorem laidOut : laidOutB Tryz.prog = true := by kernel_rfl
theorem tBru : (Tryz.prog.globals[2]?).map (·.type) = some 132 := by kernel_rfl
theorem tPow : (Tryz.prog.globals[0]?).map (·.type) = some 127 := by kernel_rfl
theorem tRan : (Tryz.prog.globals[4]?).map (·.type) = some 60 := by kernel_rfl
theorem tSyn : (Tryz.prog.globals[3]?).map (·.type) = some 60 := by kernel_rfl
theorem gRan : Tryz.prog.globalNamed "strconv.ErrRange" = some 4 := by kernel_rfl
theorem gSyn : Tryz.prog.globalNamed "strconv.ErrSyntax" = some 3 := by kernel_rfl
theorem cellsBru : Tryz.prog.cellsOf 132 = 64 := by kernel_rfl
theorem cellsPow : Tryz.prog.cellsOf 127 = 20 := by kernel_rfl
theorem cellsByte : Tryz.prog.cellsOf 5 = 1 := by kernel_rfl
theorem cellsWord : Tryz.prog.cellsOf 31 = 1 := by kernel_rfl
theorem datumBru : (Rows.laid_math_bits_deBruijn64tab : DataW Unit) = Lib.tabData .u8 (Lib.deBruijn64tab.map fun (n : Nat) => (n : Int)) := by kernel_rfl
theorem datumPow : (Rows.laid_internal_strconv_uint64pow10 : DataW Unit) = Lib.tabData .u64 Lib.pow10Tab := by kernel_rfl
theorem iface_of_trod {H : Type} {enc : TypeId × Value → H} {P : Program} {w : World} {base : Nat} {sp : Nat → Bool} {fuel : Nat} {t : TypeId} {cs : List Value} {ms : Array (String × TypeId)} {name : String} {d : DataW H} {p : List MemPlace}
    (ht : P.underlying t = some (.interface ms)) (h : DataW.trod enc P w base sp false fuel t cs = some (.iface name d, p)) : ∃ u v, cs = [.iface u v] := by
  cases fuel with
  | zero => cases h
  | succ fuel =>
    unfold DataW.trod at h
    rw [ht] at h
    split at h <;> simp_all
theorem env_of_laid {W : World} (h : laidMetH Tryz.prog Rows.deflexTextsRow.laid W) : Dx.Env W ∧ Dx.Bru W := by
  have h' : laidMet Tryz.prog Rows.deflexTextsRow.laid W := by
    rw [MakeChecks.laidMetH_plain _ _ _ (by kernel_rfl)] at h
    exact h
  obtain ⟨ps, ⟨g0, t0, cs0, f0, p0, q0, hg0, ht0, hv0, hd0, ⟨g1, t1, cs1, f1, p1, q1, hg1, ht1, hv1, hd1, ⟨g2, t2, cs2, f2, p2, q2, hg2, ht2, hv2, hd2, ⟨g3, t3, cs3, f3, p3, q3, hg3, ht3, hv3, hd3, ⟨g4, t4, cs4, f4, p4, q4, hg4, ht4, hv4, hd4, _, _⟩, _⟩, _⟩, _⟩, _⟩, _, _⟩ := h'
  obtain rfl := Option.some.inj (Dx.gBruijn.symm.trans hg1)
  obtain rfl := Option.some.inj (tBru.symm.trans ht1)
  obtain rfl := Option.some.inj (Dx.gPow.symm.trans hg2)
  obtain rfl := Option.some.inj (tPow.symm.trans ht2)
  obtain rfl := Option.some.inj (gRan.symm.trans hg3)
  obtain rfl := Option.some.inj (tRan.symm.trans ht3)
  obtain rfl := Option.some.inj (gSyn.symm.trans hg4)
  obtain rfl := Option.some.inj (tSyn.symm.trans ht4)
  rw [datumBru] at hd1
  rw [datumPow] at hd2
  have hbru : Lib.TabIs Tryz.prog W "math/bits.deBruijn64tab" .u8 (Lib.deBruijn64tab.map fun (n : Nat) => (n : Int)) := by
    unfold Lib.TabIs
    rw [hv1, ← Lib.cells_of_tab Tryz.underlying132 Tryz.underlying5 cellsByte cellsBru hd1]
  have hpow : Lib.TabIs Tryz.prog W "internal/strconv.uint64pow10" .u64 Lib.pow10Tab := by
    unfold Lib.TabIs
    rw [hv2, ← Lib.cells_of_tab Tryz.underlying127 Tryz.underlying31 cellsWord cellsPow hd2]
  obtain ⟨u3, v3, e3⟩ := iface_of_trod Tryz.underlying60 hd3
  obtain ⟨u4, v4, e4⟩ := iface_of_trod Tryz.underlying60 hd4
  have hr : W.cell? ⟨4, 0, none⟩ = some (.iface u3 v3) := by
    rw [World.var?_cell gRan hv3 0, ← Array.getElem?_toList, e3]; rfl
  have hs : W.cell? ⟨3, 0, none⟩ = some (.iface u4 v4) := by
    rw [World.var?_cell gSyn hv4 0, ← Array.getElem?_toList, e4]; rfl
  refine ⟨⟨⟨_, _, hs⟩, ⟨_, _, hr⟩, hpow, ?_⟩, ?_⟩
  · exact Nat.le_trans (show Dx.LB ≤ 4 + 1 by decide) (World.block_lt_of_cell? _ _ hr)
  · intro j hj
    have hlen : Lib.deBruijn64tab.length = 64 := by decide
    have := hbru.cell Dx.gBruijn j (by rw [List.length_map, hlen]; exact hj)
    rw [this]
    simp [List.getD, hlen, hj]
end Go.Proofs.YtacgnbelcpmjfaaGreatDoor.DxCard
