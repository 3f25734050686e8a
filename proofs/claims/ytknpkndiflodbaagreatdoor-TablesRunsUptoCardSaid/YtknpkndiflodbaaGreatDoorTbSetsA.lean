/-
  WALKS of package sets: Meet, Without, Within, Not, All.
  WALKS of package sets: Union.
-/
import Derived.Test.YtknpkndiflodbaaGreatDoorTbMem
import Derived.Test.YtknpkndiflodbaaGreatDoorRowsA
import Derived.Laws.Rows
import Derived.RegionTactic
set_option linter.unusedVariables false
set_option linter.unusedSimpArgs false
namespace Go.Proofs.YtknpkndiflodbaaGreatDoor.Tb
open Go Go.RowKit Go.Proofs Mx
theorem wd_range (M j : Nat) : 0 ≤ wd M j ∧ wd M j ≤ 18446744073709551615 := by unfold wd; omega
theorem ofInt_nat (a : Nat) (ha : a < 2 ^ 64) : BitVec.ofInt 64 (a : Int) = BitVec.ofNat 64 a := by
  apply BitVec.eq_of_toNat_eq
  simp
theorem two64 : (18446744073709551616 : Nat) = 2 ^ 64 := by decide
theorem wd_lt (M j : Nat) : M / 2 ^ (64 * j) % 18446744073709551616 < 2 ^ 64 := by omega
theorem wd_bits (M j i : Nat) : (M / 2 ^ (64 * j) % 18446744073709551616).testBit i = (decide (i < 64) && M.testBit (64 * j + i)) := by
  rw [two64, Nat.testBit_mod_two_pow, Nat.testBit_div_two_pow, Nat.add_comm i]
theorem and_nat (a b : Nat) (ha : a < 2 ^ 64) (hb : b < 2 ^ 64) : bits .and .u64 (a : Int) (b : Int) = ((a &&& b : Nat) : Int) := by
  have hab : a &&& b < 2 ^ 64 := Nat.lt_of_le_of_lt Nat.and_le_left ha
  show IntKind.u64.wrap ((BitVec.ofInt 64 (a : Int) &&& BitVec.ofInt 64 (b : Int)).toNat : Int) = _
  rw [ofInt_nat a ha, ofInt_nat b hb, BitVec.toNat_and, BitVec.toNat_ofNat, BitVec.toNat_ofNat, Nat.mod_eq_of_lt ha, Nat.mod_eq_of_lt hb, IntKind.wrap_u64]
  omega
theorem or_nat (a b : Nat) (ha : a < 2 ^ 64) (hb : b < 2 ^ 64) : bits .or .u64 (a : Int) (b : Int) = ((a ||| b : Nat) : Int) := by
  have hab : a ||| b < 2 ^ 64 := Nat.or_lt_two_pow ha hb
  show IntKind.u64.wrap ((BitVec.ofInt 64 (a : Int) ||| BitVec.ofInt 64 (b : Int)).toNat : Int) = _
  rw [ofInt_nat a ha, ofInt_nat b hb, BitVec.toNat_or, BitVec.toNat_ofNat, BitVec.toNat_ofNat, Nat.mod_eq_of_lt ha, Nat.mod_eq_of_lt hb, IntKind.wrap_u64]
  omega
theorem xor_nat (a b : Nat) (ha : a < 2 ^ 64) (hb : b < 2 ^ 64) : bits .xor .u64 (a : Int) (b : Int) = ((a ^^^ b : Nat) : Int) := by
  have hab : a ^^^ b < 2 ^ 64 := Nat.xor_lt_two_pow ha hb
  show IntKind.u64.wrap ((BitVec.ofInt 64 (a : Int) ^^^ BitVec.ofInt 64 (b : Int)).toNat : Int) = _
  rw [ofInt_nat a ha, ofInt_nat b hb, BitVec.toNat_xor, BitVec.toNat_ofNat, BitVec.toNat_ofNat, Nat.mod_eq_of_lt ha, Nat.mod_eq_of_lt hb, IntKind.wrap_u64]
  omega
theorem wd_and (M N j : Nat) : bits .and .u64 (wd M j) (wd N j) = wd (M &&& N) j := by
  unfold wd
  rw [and_nat _ _ (wd_lt M j) (wd_lt N j)]
  congr 1
  apply Nat.eq_of_testBit_eq
  intro i
  simp only [Nat.testBit_and, wd_bits]
  cases decide (i < 64) <;> simp
theorem wd_or (M N j : Nat) : bits .or .u64 (wd M j) (wd N j) = wd (M ||| N) j := by
  unfold wd
  rw [or_nat _ _ (wd_lt M j) (wd_lt N j)]
  congr 1
  apply Nat.eq_of_testBit_eq
  intro i
  simp only [Nat.testBit_or, wd_bits]
  cases decide (i < 64) <;> simp
theorem andNot_nat (a b : Nat) (ha : a < 2 ^ 64) (hb : b < 2 ^ 64) : bits .andNot .u64 (a : Int) (b : Int) = ((a &&& (18446744073709551615 ^^^ b) : Nat) : Int) := by
  have hab : a &&& (18446744073709551615 ^^^ b) < 2 ^ 64 := Nat.lt_of_le_of_lt Nat.and_le_left ha
  show IntKind.u64.wrap ((BitVec.ofInt 64 (a : Int) &&& ~~~ BitVec.ofInt 64 (b : Int)).toNat : Int) = _
  rw [ofInt_nat a ha, ofInt_nat b hb, BitVec.not_def, BitVec.toNat_and, BitVec.toNat_xor, BitVec.toNat_allOnes, BitVec.toNat_ofNat, BitVec.toNat_ofNat, Nat.mod_eq_of_lt ha, Nat.mod_eq_of_lt hb, IntKind.wrap_u64]
  have : (2 : Nat) ^ 64 - 1 = 18446744073709551615 := by decide
  rw [this]
  omega
def fullM : Nat := 2 ^ 256 - 1
def notM (M : Nat) : Nat := fullM ^^^ M
theorem wd_full (j : Nat) (hj : j < 4) : wd fullM j = IntKind.u64.max := by
  rcases (show j = 0 ∨ j = 1 ∨ j = 2 ∨ j = 3 by omega) with rfl | rfl | rfl | rfl <;> decide
theorem wd_not (M j : Nat) (hj : j < 4) : bits .xor .u64 IntKind.u64.max (wd M j) = wd (notM M) j := by
  rw [← wd_full j hj]
  unfold wd
  rw [xor_nat _ _ (wd_lt _ j) (wd_lt M j)]
  congr 1
  apply Nat.eq_of_testBit_eq
  intro i
  simp only [notM, Nat.testBit_xor, wd_bits]
  cases decide (i < 64) <;> simp
theorem wd_andNot (M N j : Nat) (hj : j < 4) : bits .andNot .u64 (wd M j) (wd N j) = wd (M &&& notM N) j := by
  rw [← wd_and, ← wd_not N j hj, ← wd_full j hj]
  unfold wd
  rw [andNot_nat _ _ (wd_lt M j) (wd_lt N j), xor_nat _ _ (wd_lt _ j) (wd_lt N j), and_nat _ _ (wd_lt M j) (Nat.xor_lt_two_pow (wd_lt _ j) (wd_lt N j))]
  congr 2
  rcases (show j = 0 ∨ j = 1 ∨ j = 2 ∨ j = 3 by omega) with rfl | rfl | rfl | rfl <;> rfl
/-- The first i words of R, the others of M. -/
def mix (M R i : Nat) : Array Value := #[.int .u64 (if 0 < i then wd R 0 else wd M 0), .int .u64 (if 1 < i then wd R 1 else wd M 1), .int .u64 (if 2 < i then wd R 2 else wd M 2), .int .u64 (if 3 < i then wd R 3 else wd M 3)]
set_option maxRecDepth 100000 in
set_option maxHeartbeats 4000000 in
theorem meet_any (M N : Nat) (w : World) :
    Calls Tryz.prog 90 #[setV M, setV N] w fun e w' => e = .returned (setV (M &&& N)) ∧ Below w.heap.size w w' := by
  obtain ⟨R, hR⟩ : ∃ R, M &&& N = R := ⟨_, rfl⟩
  rw [hR]
  have l0 := wd_and M N 0
  have l1 := wd_and M N 1
  have l2 := wd_and M N 2
  have l3 := wd_and M N 3
  rw [hR] at l0 l1 l2 l3
  clear hR
  unfold setV
  go_enter Tryz.func90, Tryz.ntmps90
  go_wp2_with fail
  have hB0 : Blk (((w.alloc (.cells #[.int .u64 (wd M 0), .int .u64 (wd M 1), .int .u64 (wd M 2), .int .u64 (wd M 3)] 26)).alloc (.cells #[.int .u64 (wd N 0), .int .u64 (wd N 1), .int .u64 (wd N 2), .int .u64 (wd N 3)] 26)).alloc (.cells #[.int .u64 0, .int .u64 0, .int .u64 0, .int .u64 0] 26)) w.heap.size 26 (mix M R 0) := ((Blk.new_ rfl _ _).alloc _).alloc _
  have hB1 : Blk (((w.alloc (.cells #[.int .u64 (wd M 0), .int .u64 (wd M 1), .int .u64 (wd M 2), .int .u64 (wd M 3)] 26)).alloc (.cells #[.int .u64 (wd N 0), .int .u64 (wd N 1), .int .u64 (wd N 2), .int .u64 (wd N 3)] 26)).alloc (.cells #[.int .u64 0, .int .u64 0, .int .u64 0, .int .u64 0] 26)) (w.heap.size + 1) 26 #[.int .u64 (wd N 0), .int .u64 (wd N 1), .int .u64 (wd N 2), .int .u64 (wd N 3)] := (Blk.new_ (by simp) _ _).alloc _
  have hB2 : Blk (((w.alloc (.cells #[.int .u64 (wd M 0), .int .u64 (wd M 1), .int .u64 (wd M 2), .int .u64 (wd M 3)] 26)).alloc (.cells #[.int .u64 (wd N 0), .int .u64 (wd N 1), .int .u64 (wd N 2), .int .u64 (wd N 3)] 26)).alloc (.cells #[.int .u64 0, .int .u64 0, .int .u64 0, .int .u64 0] 26)) (w.heap.size + 2) 26 #[.int .u64 0, .int .u64 0, .int .u64 0, .int .u64 0] := Blk.new_ (by simp) _ _
  have hbl := (((Below.refl w.heap.size w).alloc (Nat.le_refl _) (.cells #[.int .u64 (wd M 0), .int .u64 (wd M 1), .int .u64 (wd M 2), .int .u64 (wd M 3)] 26)).alloc (by simp) (.cells #[.int .u64 (wd N 0), .int .u64 (wd N 1), .int .u64 (wd N 2), .int .u64 (wd N 3)] 26)).alloc (by simp; omega) (.cells #[.int .u64 0, .int .u64 0, .int .u64 0, .int .u64 0] 26)
  generalize (((w.alloc (.cells #[.int .u64 (wd M 0), .int .u64 (wd M 1), .int .u64 (wd M 2), .int .u64 (wd M 3)] 26)).alloc (.cells #[.int .u64 (wd N 0), .int .u64 (wd N 1), .int .u64 (wd N 2), .int .u64 (wd N 3)] 26)).alloc (.cells #[.int .u64 0, .int .u64 0, .int .u64 0, .int .u64 0] 26)) = w2 at hB0 hB1 hB2 hbl ⊢
  go_loopg [6] 4 (fun m v wr => ∃ i : Nat, i ≤ 4 ∧ m = 4 - i ∧ v = .int .i64 i ∧ Blk wr w.heap.size 26 (mix M R i) ∧ Blk wr (w.heap.size + 1) 26 #[.int .u64 (wd N 0), .int .u64 (wd N 1), .int .u64 (wd N 2), .int .u64 (wd N 3)] ∧
    Blk wr (w.heap.size + 2) 26 #[.int .u64 0, .int .u64 0, .int .u64 0, .int .u64 0] ∧ Below w.heap.size w wr)
  case atStart => exact ⟨0, by omega, rfl, rfl, hB0, hB1, hB2, hbl⟩
  case round =>
    obtain ⟨i, hi, hm, rfl, h0, h1, h2, h3⟩ := hrel
    have A := Lib.hid (And.intro hm (And.intro h0 (And.intro h1 (And.intro h2 h3))))
    obtain ⟨e0, e1, e2, e3, ef⟩ := h0.facts4
    obtain ⟨f0, f1, f2, f3, ff⟩ := h1.facts4
    obtain ⟨g0, g1, g2, g3, gf⟩ := h2.facts4
    clear hB0 hB1 hB2 hbl hm h0 h1 h2 h3
    rcases (show i = 0 ∨ i = 1 ∨ i = 2 ∨ i = 3 ∨ i = 4 by omega) with rfl | rfl | rfl | rfl | rfl
    · simp only [Nat.lt_irrefl, if_true, Nat.reduceLT, if_false] at e0 e1 e2 e3
      go_wp2_with fail
      apply via
      · intro K
        go_region
        all_goals (try go_simp)
        all_goals exact K.out
      go_wp2_with fail
      go_roundg 3
      case measure => have := A.out.1; omega
      case rel => exact ⟨1, by omega, rfl, rfl, A.out.2.1.set_ 0 _, A.out.2.2.1.far (p := ⟨w.heap.size, 0, none⟩) (by simp) _, A.out.2.2.2.1.far (p := ⟨w.heap.size, 0, none⟩) (by simp) _, (A.out.2.2.2.2.setCell (p := ⟨w.heap.size, 0, none⟩) (Nat.le_refl _) _).drew⟩
    · simp only [Nat.lt_irrefl, if_true, Nat.reduceLT, if_false] at e0 e1 e2 e3
      go_wp2_with fail
      apply via
      · intro K
        go_region
        all_goals (try go_simp)
        all_goals exact K.out
      go_wp2_with fail
      go_roundg 2
      case measure => have := A.out.1; omega
      case rel => exact ⟨2, by omega, rfl, rfl, A.out.2.1.set_ 1 _, A.out.2.2.1.far (p := ⟨w.heap.size, 1, none⟩) (by simp) _, A.out.2.2.2.1.far (p := ⟨w.heap.size, 1, none⟩) (by simp) _, (A.out.2.2.2.2.setCell (p := ⟨w.heap.size, 1, none⟩) (Nat.le_refl _) _).drew⟩
    · simp only [Nat.lt_irrefl, if_true, Nat.reduceLT, if_false] at e0 e1 e2 e3
      go_wp2_with fail
      apply via
      · intro K
        go_region
        all_goals (try go_simp)
        all_goals exact K.out
      go_wp2_with fail
      go_roundg 1
      case measure => have := A.out.1; omega
      case rel => exact ⟨3, by omega, rfl, rfl, A.out.2.1.set_ 2 _, A.out.2.2.1.far (p := ⟨w.heap.size, 2, none⟩) (by simp) _, A.out.2.2.2.1.far (p := ⟨w.heap.size, 2, none⟩) (by simp) _, (A.out.2.2.2.2.setCell (p := ⟨w.heap.size, 2, none⟩) (Nat.le_refl _) _).drew⟩
    · simp only [Nat.lt_irrefl, if_true, Nat.reduceLT, if_false] at e0 e1 e2 e3
      go_wp2_with fail
      apply via
      · intro K
        go_region
        all_goals (try go_simp)
        all_goals exact K.out
      go_wp2_with fail
      go_roundg 0
      case measure => have := A.out.1; omega
      case rel => exact ⟨4, by omega, rfl, rfl, A.out.2.1.set_ 3 _, A.out.2.2.1.far (p := ⟨w.heap.size, 3, none⟩) (by simp) _, A.out.2.2.2.1.far (p := ⟨w.heap.size, 3, none⟩) (by simp) _, (A.out.2.2.2.2.setCell (p := ⟨w.heap.size, 3, none⟩) (Nat.le_refl _) _).drew⟩
    · simp only [Nat.lt_irrefl, if_true, Nat.reduceLT, if_false] at e0 e1 e2 e3
      go_wp2_with fail
      have hbk := (((A.out.2.2.2.1.set_ 0 (.int .u64 (wd R 0))).set_ 1 (.int .u64 (wd R 1))).set_ 2 (.int .u64 (wd R 2))).set_ 3 (.int .u64 (wd R 3))
      refine bodyPost_ret (results_cell_row (by rfl) _ _ (w.heap.size + 2) 26 _ (0, 0) _ (by rfl) hbk Tryz.underlying26 (by rfl) (by kernel_rfl)) rfl ?_
      refine ⟨rfl, (((A.out.2.2.2.2.setCell ?_ _).setCell ?_ _).setCell ?_ _).setCell ?_ _⟩ <;> (simp; try omega)
set_option maxRecDepth 100000 in
set_option maxHeartbeats 4000000 in
theorem without_any (M N : Nat) (w : World) :
    Calls Tryz.prog 91 #[setV M, setV N] w fun e w' => e = .returned (setV (M &&& notM N)) ∧ Below w.heap.size w w' := by
  obtain ⟨R, hR⟩ : ∃ R, M &&& notM N = R := ⟨_, rfl⟩
  rw [hR]
  have l0 := wd_andNot M N 0 (by decide)
  have l1 := wd_andNot M N 1 (by decide)
  have l2 := wd_andNot M N 2 (by decide)
  have l3 := wd_andNot M N 3 (by decide)
  rw [hR] at l0 l1 l2 l3
  clear hR
  unfold setV
  go_enter Tryz.func91, Tryz.ntmps91
  go_wp2_with fail
  have hB0 : Blk (((w.alloc (.cells #[.int .u64 (wd M 0), .int .u64 (wd M 1), .int .u64 (wd M 2), .int .u64 (wd M 3)] 26)).alloc (.cells #[.int .u64 (wd N 0), .int .u64 (wd N 1), .int .u64 (wd N 2), .int .u64 (wd N 3)] 26)).alloc (.cells #[.int .u64 0, .int .u64 0, .int .u64 0, .int .u64 0] 26)) w.heap.size 26 (mix M R 0) := ((Blk.new_ rfl _ _).alloc _).alloc _
  have hB1 : Blk (((w.alloc (.cells #[.int .u64 (wd M 0), .int .u64 (wd M 1), .int .u64 (wd M 2), .int .u64 (wd M 3)] 26)).alloc (.cells #[.int .u64 (wd N 0), .int .u64 (wd N 1), .int .u64 (wd N 2), .int .u64 (wd N 3)] 26)).alloc (.cells #[.int .u64 0, .int .u64 0, .int .u64 0, .int .u64 0] 26)) (w.heap.size + 1) 26 #[.int .u64 (wd N 0), .int .u64 (wd N 1), .int .u64 (wd N 2), .int .u64 (wd N 3)] := (Blk.new_ (by simp) _ _).alloc _
  have hB2 : Blk (((w.alloc (.cells #[.int .u64 (wd M 0), .int .u64 (wd M 1), .int .u64 (wd M 2), .int .u64 (wd M 3)] 26)).alloc (.cells #[.int .u64 (wd N 0), .int .u64 (wd N 1), .int .u64 (wd N 2), .int .u64 (wd N 3)] 26)).alloc (.cells #[.int .u64 0, .int .u64 0, .int .u64 0, .int .u64 0] 26)) (w.heap.size + 2) 26 #[.int .u64 0, .int .u64 0, .int .u64 0, .int .u64 0] := Blk.new_ (by simp) _ _
  have hbl := (((Below.refl w.heap.size w).alloc (Nat.le_refl _) (.cells #[.int .u64 (wd M 0), .int .u64 (wd M 1), .int .u64 (wd M 2), .int .u64 (wd M 3)] 26)).alloc (by simp) (.cells #[.int .u64 (wd N 0), .int .u64 (wd N 1), .int .u64 (wd N 2), .int .u64 (wd N 3)] 26)).alloc (by simp; omega) (.cells #[.int .u64 0, .int .u64 0, .int .u64 0, .int .u64 0] 26)
  generalize (((w.alloc (.cells #[.int .u64 (wd M 0), .int .u64 (wd M 1), .int .u64 (wd M 2), .int .u64 (wd M 3)] 26)).alloc (.cells #[.int .u64 (wd N 0), .int .u64 (wd N 1), .int .u64 (wd N 2), .int .u64 (wd N 3)] 26)).alloc (.cells #[.int .u64 0, .int .u64 0, .int .u64 0, .int .u64 0] 26)) = w2 at hB0 hB1 hB2 hbl ⊢
  go_loopg [6] 4 (fun m v wr => ∃ i : Nat, i ≤ 4 ∧ m = 4 - i ∧ v = .int .i64 i ∧ Blk wr w.heap.size 26 (mix M R i) ∧ Blk wr (w.heap.size + 1) 26 #[.int .u64 (wd N 0), .int .u64 (wd N 1), .int .u64 (wd N 2), .int .u64 (wd N 3)] ∧
    Blk wr (w.heap.size + 2) 26 #[.int .u64 0, .int .u64 0, .int .u64 0, .int .u64 0] ∧ Below w.heap.size w wr)
  case atStart => exact ⟨0, by omega, rfl, rfl, hB0, hB1, hB2, hbl⟩
  case round =>
    obtain ⟨i, hi, hm, rfl, h0, h1, h2, h3⟩ := hrel
    have A := Lib.hid (And.intro hm (And.intro h0 (And.intro h1 (And.intro h2 h3))))
    obtain ⟨e0, e1, e2, e3, ef⟩ := h0.facts4
    obtain ⟨f0, f1, f2, f3, ff⟩ := h1.facts4
    obtain ⟨g0, g1, g2, g3, gf⟩ := h2.facts4
    clear hB0 hB1 hB2 hbl hm h0 h1 h2 h3
    rcases (show i = 0 ∨ i = 1 ∨ i = 2 ∨ i = 3 ∨ i = 4 by omega) with rfl | rfl | rfl | rfl | rfl
    · simp only [Nat.lt_irrefl, if_true, Nat.reduceLT, if_false] at e0 e1 e2 e3
      go_wp2_with fail
      apply via
      · intro K
        go_region
        all_goals (try go_simp)
        all_goals exact K.out
      go_wp2_with fail
      go_roundg 3
      case measure => have := A.out.1; omega
      case rel => exact ⟨1, by omega, rfl, rfl, A.out.2.1.set_ 0 _, A.out.2.2.1.far (p := ⟨w.heap.size, 0, none⟩) (by simp) _, A.out.2.2.2.1.far (p := ⟨w.heap.size, 0, none⟩) (by simp) _, (A.out.2.2.2.2.setCell (p := ⟨w.heap.size, 0, none⟩) (Nat.le_refl _) _).drew⟩
    · simp only [Nat.lt_irrefl, if_true, Nat.reduceLT, if_false] at e0 e1 e2 e3
      go_wp2_with fail
      apply via
      · intro K
        go_region
        all_goals (try go_simp)
        all_goals exact K.out
      go_wp2_with fail
      go_roundg 2
      case measure => have := A.out.1; omega
      case rel => exact ⟨2, by omega, rfl, rfl, A.out.2.1.set_ 1 _, A.out.2.2.1.far (p := ⟨w.heap.size, 1, none⟩) (by simp) _, A.out.2.2.2.1.far (p := ⟨w.heap.size, 1, none⟩) (by simp) _, (A.out.2.2.2.2.setCell (p := ⟨w.heap.size, 1, none⟩) (Nat.le_refl _) _).drew⟩
    · simp only [Nat.lt_irrefl, if_true, Nat.reduceLT, if_false] at e0 e1 e2 e3
      go_wp2_with fail
      apply via
      · intro K
        go_region
        all_goals (try go_simp)
        all_goals exact K.out
      go_wp2_with fail
      go_roundg 1
      case measure => have := A.out.1; omega
      case rel => exact ⟨3, by omega, rfl, rfl, A.out.2.1.set_ 2 _, A.out.2.2.1.far (p := ⟨w.heap.size, 2, none⟩) (by simp) _, A.out.2.2.2.1.far (p := ⟨w.heap.size, 2, none⟩) (by simp) _, (A.out.2.2.2.2.setCell (p := ⟨w.heap.size, 2, none⟩) (Nat.le_refl _) _).drew⟩
    · simp only [Nat.lt_irrefl, if_true, Nat.reduceLT, if_false] at e0 e1 e2 e3
      go_wp2_with fail
      apply via
      · intro K
        go_region
        all_goals (try go_simp)
        all_goals exact K.out
      go_wp2_with fail
      go_roundg 0
      case measure => have := A.out.1; omega
      case rel => exact ⟨4, by omega, rfl, rfl, A.out.2.1.set_ 3 _, A.out.2.2.1.far (p := ⟨w.heap.size, 3, none⟩) (by simp) _, A.out.2.2.2.1.far (p := ⟨w.heap.size, 3, none⟩) (by simp) _, (A.out.2.2.2.2.setCell (p := ⟨w.heap.size, 3, none⟩) (Nat.le_refl _) _).drew⟩
    · simp only [Nat.lt_irrefl, if_true, Nat.reduceLT, if_false] at e0 e1 e2 e3
      go_wp2_with fail
      have hbk := (((A.out.2.2.2.1.set_ 0 (.int .u64 (wd R 0))).set_ 1 (.int .u64 (wd R 1))).set_ 2 (.int .u64 (wd R 2))).set_ 3 (.int .u64 (wd R 3))
      refine bodyPost_ret (results_cell_row (by rfl) _ _ (w.heap.size + 2) 26 _ (0, 0) _ (by rfl) hbk Tryz.underlying26 (by rfl) (by kernel_rfl)) rfl ?_
      refine ⟨rfl, (((A.out.2.2.2.2.setCell ?_ _).setCell ?_ _).setCell ?_ _).setCell ?_ _⟩ <;> (simp; try omega)
@[local go_sem] theorem eqSet (a b c d e f g h : Int) (w : World) : (Op.equalIn 10000 26 (.agg #[.int .u64 a, .int .u64 b, .int .u64 c, .int .u64 d]) (.agg #[.int .u64 e, .int .u64 f, .int .u64 g, .int .u64 h])).run Tryz.prog w = .ok (decide (a = e ∧ b = f ∧ c = g ∧ d = h)) w := by
  have u24 := Tryz.underlying24
  have a24 := Tryz.isAgg24
  have z24 := Tryz.sizeOf24
  rw [show (10000 : Nat) = 9999 + 1 from rfl, Op.equalIn]
  simp only [Sem.run_bind, run_underlying Tryz.underlying26, Result.andThen_ok]
  simp only [Std.Legacy.Range.forIn_eq_forIn_range', Std.Legacy.Range.size, Nat.sub_zero, Nat.add_sub_cancel, Nat.div_one, List.range'_succ, List.range'_zero, List.forIn_cons, List.forIn_nil]
  go_simp
  by_cases h1 : a = e <;> by_cases h2 : b = f <;> by_cases h3 : c = g <;> by_cases h4 : d = h <;> simp [h1, h2, h3, h4]
@[local go_sem] theorem guardSet : Tryz.prog.eqGuardType Tryz.prog.depth 26 = false := by kernel_rfl
theorem wd_zero_iff (M : Nat) (h : M < 2 ^ 256) : (wd M 0 = 0 ∧ wd M 1 = 0 ∧ wd M 2 = 0 ∧ wd M 3 = 0) ↔ M = 0 := by
  constructor
  · rintro ⟨h0, h1, h2, h3⟩
    apply Nat.eq_of_testBit_eq
    intro i
    rw [Nat.zero_testBit]
    rcases Nat.lt_or_ge i 256 with hi | hi
    · have hz : ∀ j, wd M j = 0 → M / 2 ^ (64 * j) % 18446744073709551616 = 0 := fun j hj => by unfold wd at hj; omega
      have hb : ∀ j, wd M j = 0 → ∀ t, t < 64 → M.testBit (64 * j + t) = false := fun j hj t ht => by
        have := wd_bits M j t
        rw [hz j hj, Nat.zero_testBit] at this
        simpa [ht] using this.symm
      rcases (show i < 64 ∨ (64 ≤ i ∧ i < 128) ∨ (128 ≤ i ∧ i < 192) ∨ (192 ≤ i ∧ i < 256) by omega) with hh | hh | hh | hh
      · have := hb 0 h0 i hh; rwa [Nat.mul_zero, Nat.zero_add] at this
      · have := hb 1 h1 (i - 64) (by omega); rwa [show 64 * 1 + (i - 64) = i by omega] at this
      · have := hb 2 h2 (i - 128) (by omega); rwa [show 64 * 2 + (i - 128) = i by omega] at this
      · have := hb 3 h3 (i - 192) (by omega); rwa [show 64 * 3 + (i - 192) = i by omega] at this
    · exact Nat.testBit_lt_two_pow (Nat.lt_of_lt_of_le h (Nat.pow_le_pow_right (by decide) hi))
  · rintro rfl
    simp [wd]
theorem within_any (M N : Nat) (hM : M < 2 ^ 256) (w : World) :
    Calls Tryz.prog 70 #[setV M, setV N] w fun e w' => e = .returned (.bool (decide (M &&& notM N = 0))) ∧ Below w.heap.size w w' := by
  have hw := without_any M N
  have hR : M &&& notM N < 2 ^ 256 := Nat.lt_of_le_of_lt Nat.and_le_left hM
  have hz := wd_zero_iff _ hR
  generalize M &&& notM N = R at *
  have HZ := Lib.hid hz
  clear hz
  unfold setV at hw ⊢
  go_enter Tryz.func70, Tryz.ntmps70
  go_wp2_with fail
  refine (hw _).mono ?_
  rintro e w1 ⟨rfl, hb⟩
  have hb1 : Below w.heap.size w w1 := (((Below.refl w.heap.size w).alloc (Nat.le_refl _) _).alloc (by simp) _).trans (hb.mono (by simp; omega))
  have H1 := Lib.hid hb1
  clear hb hb1 hw
  by_cases hr : R = 0
  · obtain ⟨z0, z1, z2, z3⟩ := HZ.out.2 hr
    subst hr
    go_wp2_with fail
    go_ret
    exact ⟨by simp [z0, z1, z2, z3], H1.out⟩
  · have hn : decide (wd R 0 = 0 ∧ wd R 1 = 0 ∧ wd R 2 = 0 ∧ wd R 3 = 0) = false := by rw [decide_eq_false_iff_not]; exact fun h => hr (HZ.out.1 h)
    have HR := Lib.hid hr
    clear hr
    go_wp2_with fail
    all_goals (try go_ret)
    all_goals exact ⟨by simp [HR.out, hn], H1.out⟩
def notI (x : Int) : Int := bits .xor .u64 IntKind.u64.max x
def nw (b : Bool) (x : Int) : Value := .int .u64 (if b then notI x else x)
def nrow (a b c d : Int) (i : Nat) : Array Value := #[nw (decide (0 < i)) a, nw (decide (1 < i)) b, nw (decide (2 < i)) c, nw (decide (3 < i)) d]
set_option maxRecDepth 100000 in
theorem not_any (a b c d : Int) (ha : 0 ≤ a ∧ a ≤ 18446744073709551615) (hb : 0 ≤ b ∧ b ≤ 18446744073709551615) (hc : 0 ≤ c ∧ c ≤ 18446744073709551615) (hd : 0 ≤ d ∧ d ≤ 18446744073709551615) (w : World) :
    Calls Tryz.prog 111 #[.agg #[.int .u64 a, .int .u64 b, .int .u64 c, .int .u64 d]] w fun e w' => e = .returned (.agg (nrow a b c d 4)) ∧ Below w.heap.size w w' := by
  obtain ⟨a0, a1⟩ := ha
  obtain ⟨b0, b1⟩ := hb
  obtain ⟨c0, c1⟩ := hc
  obtain ⟨d0, d1⟩ := hd
  go_enter Tryz.func111, Tryz.ntmps111
  go_wp2_with fail
  have hB0 : Blk ((w.alloc (.cells #[.int .u64 a, .int .u64 b, .int .u64 c, .int .u64 d] 26)).alloc (.cells #[.int .u64 0, .int .u64 0, .int .u64 0, .int .u64 0] 26)) w.heap.size 26 (nrow a b c d 0) :=
    (Blk.new_ rfl _ _).alloc _
  have hB1 : Blk ((w.alloc (.cells #[.int .u64 a, .int .u64 b, .int .u64 c, .int .u64 d] 26)).alloc (.cells #[.int .u64 0, .int .u64 0, .int .u64 0, .int .u64 0] 26)) (w.heap.size + 1) 26 #[.int .u64 0, .int .u64 0, .int .u64 0, .int .u64 0] :=
    Blk.new_ (by simp) _ _
  have hbl := ((Below.refl w.heap.size w).alloc (Nat.le_refl _) (.cells #[.int .u64 a, .int .u64 b, .int .u64 c, .int .u64 d] 26)).alloc (by simp) (.cells #[.int .u64 0, .int .u64 0, .int .u64 0, .int .u64 0] 26)
  generalize ((w.alloc (.cells #[.int .u64 a, .int .u64 b, .int .u64 c, .int .u64 d] 26)).alloc (.cells #[.int .u64 0, .int .u64 0, .int .u64 0, .int .u64 0] 26)) = w2 at hB0 hB1 hbl ⊢
  go_loopg [4] 4 (fun m v wr => ∃ i : Nat, i ≤ 4 ∧ m = 4 - i ∧ v = .int .i64 i ∧ Blk wr w.heap.size 26 (nrow a b c d i) ∧ Blk wr (w.heap.size + 1) 26 #[.int .u64 0, .int .u64 0, .int .u64 0, .int .u64 0] ∧ Below w.heap.size w wr)
  case atStart => exact ⟨0, by omega, rfl, rfl, hB0, hB1, hbl⟩
  case round =>
    obtain ⟨i, hi, hm, rfl, h0, h1, h2⟩ := hrel
    have A := Lib.hid (And.intro hm (And.intro h0 (And.intro h1 h2)))
    obtain ⟨e0, e1, e2, e3, ef⟩ := h0.facts4
    obtain ⟨f0, f1, f2, f3, ff⟩ := h1.facts4
    clear hB0 hB1 hbl hm h0 h1 h2
    rcases (show i = 0 ∨ i = 1 ∨ i = 2 ∨ i = 3 ∨ i = 4 by omega) with rfl | rfl | rfl | rfl | rfl
    · simp only [nw, Nat.lt_irrefl, decide_false, decide_true, if_true, Nat.reduceLT, Bool.false_eq_true, if_false] at e0 e1 e2 e3
      go_wp2_with fail
      go_roundg 3
      case measure => have := A.out.1; omega
      case rel => exact ⟨1, by omega, rfl, rfl, A.out.2.1.set_ 0 _, A.out.2.2.1.far (p := ⟨w.heap.size, 0, none⟩) (by simp) _, A.out.2.2.2.setCell (p := ⟨w.heap.size, 0, none⟩) (Nat.le_refl _) _⟩
    · simp only [nw, Nat.lt_irrefl, decide_false, decide_true, if_true, Nat.reduceLT, Bool.false_eq_true, if_false] at e0 e1 e2 e3
      go_wp2_with fail
      go_roundg 2
      case measure => have := A.out.1; omega
      case rel => exact ⟨2, by omega, rfl, rfl, A.out.2.1.set_ 1 _, A.out.2.2.1.far (p := ⟨w.heap.size, 1, none⟩) (by simp) _, A.out.2.2.2.setCell (p := ⟨w.heap.size, 1, none⟩) (Nat.le_refl _) _⟩
    · simp only [nw, Nat.lt_irrefl, decide_false, decide_true, if_true, Nat.reduceLT, Bool.false_eq_true, if_false] at e0 e1 e2 e3
      go_wp2_with fail
      go_roundg 1
      case measure => have := A.out.1; omega
      case rel => exact ⟨3, by omega, rfl, rfl, A.out.2.1.set_ 2 _, A.out.2.2.1.far (p := ⟨w.heap.size, 2, none⟩) (by simp) _, A.out.2.2.2.setCell (p := ⟨w.heap.size, 2, none⟩) (Nat.le_refl _) _⟩
    · simp only [nw, Nat.lt_irrefl, decide_false, decide_true, if_true, Nat.reduceLT, Bool.false_eq_true, if_false] at e0 e1 e2 e3
      go_wp2_with fail
      go_roundg 0
      case measure => have := A.out.1; omega
      case rel => exact ⟨4, by omega, rfl, rfl, A.out.2.1.set_ 3 _, A.out.2.2.1.far (p := ⟨w.heap.size, 3, none⟩) (by simp) _, A.out.2.2.2.setCell (p := ⟨w.heap.size, 3, none⟩) (Nat.le_refl _) _⟩
    · simp only [nw, Nat.lt_irrefl, decide_false, decide_true, if_true, Nat.reduceLT, Bool.false_eq_true, if_false] at e0 e1 e2 e3
      go_wp2_with fail
      have hbk := (((A.out.2.2.1.set_ 0 (.int .u64 (notI a))).set_ 1 (.int .u64 (notI b))).set_ 2 (.int .u64 (notI c))).set_ 3 (.int .u64 (notI d))
      refine bodyPost_ret (results_cell_row (by rfl) _ _ (w.heap.size + 1) 26 _ (0, 0) _ (by rfl) hbk Tryz.underlying26 (by rfl) (by kernel_rfl)) rfl ?_
      refine ⟨rfl, (((A.out.2.2.2.setCell ?_ _).setCell ?_ _).setCell ?_ _).setCell ?_ _⟩ <;> simp
theorem not_set (M : Nat) (w : World) : Calls Tryz.prog 111 #[setV M] w fun e w' => e = .returned (setV (notM M)) ∧ Below w.heap.size w w' := by
  refine (not_any _ _ _ _ (wd_range M 0) (wd_range M 1) (wd_range M 2) (wd_range M 3) w).mono ?_
  rintro e w' ⟨rfl, hb⟩
  refine ⟨?_, hb⟩
  show Ending.returned (.agg #[.int .u64 (notI (wd M 0)), .int .u64 (notI (wd M 1)), .int .u64 (notI (wd M 2)), .int .u64 (notI (wd M 3))]) = _
  unfold notI
  rw [wd_not M 0 (by omega), wd_not M 1 (by omega), wd_not M 2 (by omega), wd_not M 3 (by omega)]
  rfl
theorem all_any (w : World) : Calls Tryz.prog 89 #[] w fun e w' => e = .returned (setV fullM) ∧ Below w.heap.size w w' := by
  have hn := fun W => not_any 0 0 0 0 (by decide) (by decide) (by decide) (by decide) W
  have e : (Value.agg (nrow 0 0 0 0 4)) = setV fullM := by
    show (Value.agg #[.int .u64 (notI 0), .int .u64 (notI 0), .int .u64 (notI 0), .int .u64 (notI 0)]) = setV fullM
    unfold setV
    rw [wd_full 0 (by decide), wd_full 1 (by decide), wd_full 2 (by decide), wd_full 3 (by decide)]
    have h0 : notI 0 = IntKind.u64.max := by decide
    rw [h0]
  rw [e] at hn
  obtain ⟨a, b, c, d, hfm⟩ : ∃ a b c d : Int, setV fullM = .agg #[.int .u64 a, .int .u64 b, .int .u64 c, .int .u64 d] := ⟨_, _, _, _, rfl⟩
  rw [hfm] at hn ⊢
  clear hfm e
  go_enter Tryz.func89, Tryz.ntmps89
  go_wp2_with fail
  refine (hn _).mono ?_
  rintro e w1 ⟨rfl, hb⟩
  have hB := (Blk.new w 26 #[.int .u64 0, .int .u64 0, .int .u64 0, .int .u64 0]).below hb (by simp)
  obtain ⟨c0, c1, c2, c3, cf⟩ := hB.facts4
  have hb1 : Below w.heap.size w w1 := ((Below.refl w.heap.size w).alloc (Nat.le_refl _) _).trans (hb.mono (by simp))
  have H := Lib.hid (And.intro hB hb1)
  clear hb hb1 hB hn
  go_wp2_with fail
  have hbk := (((H.out.1.set_ 0 (.int .u64 a)).set_ 1 (.int .u64 b)).set_ 2 (.int .u64 c)).set_ 3 (.int .u64 d)
  refine bodyPost_ret (results_cell_row (by rfl) _ _ w.heap.size 26 _ (0, 0) _ (by rfl) hbk Tryz.underlying26 (by rfl) (by kernel_rfl)) rfl ?_
  refine ⟨rfl, (((H.out.2.setCell ?_ _).setCell ?_ _).setCell ?_ _).setCell ?_ _⟩ <;> (simp; try omega)
end Go.Proofs.YtknpkndiflodbaaGreatDoor.Tb
set_option linter.unusedVariables false
set_option linter.unusedSimpArgs false
namespace Go.Proofs.YtknpkndiflodbaaGreatDoor.Tb
open Go Go.RowKit Go.Proofs Mx
theorem foldl_or_snoc (l : List Nat) (x : Nat) : (l ++ [x]).foldl (· ||| ·) 0 = l.foldl (· ||| ·) 0 ||| x := by simp
set_option maxRecDepth 100000 in
set_option maxHeartbeats 4000000 in
theorem union_any (D : Nat → Prop) (l : List Nat) (v : Value) (w : World) (hv : SliceK D encSet 4 w v l) :
    Calls Tryz.prog 71 #[v] w fun e w' => e = .returned (setV (l.foldl (· ||| ·) 0)) ∧ Below w.heap.size w w' := by
  obtain ⟨a, c, rfl, hc1, hc2, hk⟩ := hv
  have hmx : l.length ≤ 9223372036854775807 := by unfold maxLen at hc2; omega
  have HK := Lib.hid hk
  clear hk
  go_enter Tryz.func71, Tryz.ntmps71
  go_wp2_with fail
  have hB0 : Blk ((w.alloc (.cells #[.int .u64 0, .int .u64 0, .int .u64 0, .int .u64 0] 26)).alloc (.cells #[.int .u64 0, .int .u64 0, .int .u64 0, .int .u64 0] 26)) w.heap.size 26 #[.int .u64 0, .int .u64 0, .int .u64 0, .int .u64 0] := (Blk.new_ rfl _ _).alloc _
  have hz0 : setC ((l.take 0).foldl (· ||| ·) 0) = #[.int .u64 0, .int .u64 0, .int .u64 0, .int .u64 0] := by
    rw [List.take_zero]
    show setC 0 = #[.int .u64 0, .int .u64 0, .int .u64 0, .int .u64 0]
    unfold setC wd
    simp
  have hB1 : Blk ((w.alloc (.cells #[.int .u64 0, .int .u64 0, .int .u64 0, .int .u64 0] 26)).alloc (.cells #[.int .u64 0, .int .u64 0, .int .u64 0, .int .u64 0] 26)) (w.heap.size + 1) 26 (setC ((l.take 0).foldl (· ||| ·) 0)) := by rw [hz0]; exact Blk.new_ (by simp) _ _
  have hbl := ((Below.refl w.heap.size w).alloc (Nat.le_refl _) (.cells #[.int .u64 0, .int .u64 0, .int .u64 0, .int .u64 0] 26)).alloc (by simp) (.cells #[.int .u64 0, .int .u64 0, .int .u64 0, .int .u64 0] 26)
  generalize ((w.alloc (.cells #[.int .u64 0, .int .u64 0, .int .u64 0, .int .u64 0] 26)).alloc (.cells #[.int .u64 0, .int .u64 0, .int .u64 0, .int .u64 0] 26)) = w2 at hB0 hB1 hbl ⊢
  go_loopg [9] l.length (fun m v wr => ∃ i : Nat, i ≤ l.length ∧ m = l.length - i ∧ v = .int .i64 i ∧ Blk wr w.heap.size 26 #[.int .u64 0, .int .u64 0, .int .u64 0, .int .u64 0] ∧ Blk wr (w.heap.size + 1) 26 (setC ((l.take i).foldl (· ||| ·) 0)) ∧ Below w.heap.size w wr)
  case atStart => exact ⟨0, by omega, rfl, rfl, hB0, hB1, hbl⟩
  case round =>
    obtain ⟨i, hi, hm, rfl, h0, h1, h2⟩ := hrel
    clear hB0 hB1 hbl hz0
    by_cases hlt : i < l.length
    · obtain ⟨x, hx⟩ : ∃ x, l[i]? = some x := ⟨_, List.getElem?_eq_getElem hlt⟩
      obtain ⟨kg, ko, rfl, _, hkr⟩ := HK.out (by rintro rfl; simp at hlt)
      have k0 := hkr.cells i _ hx 0 _ rfl
      have k1 := hkr.cells i _ hx 1 _ rfl
      have k2 := hkr.cells i _ hx 2 _ rfl
      have k3 := hkr.cells i _ hx 3 _ rfl
      simp only [Nat.add_zero] at k0
      have k0 := (h2.cell (p := ⟨kg, ko + i * 4, none⟩) (World.block_lt_of_cell? _ _ k0)).trans k0
      have k1 := (h2.cell (p := ⟨kg, ko + i * 4 + 1, none⟩) (World.block_lt_of_cell? _ _ k1)).trans k1
      have k2 := (h2.cell (p := ⟨kg, ko + i * 4 + 2, none⟩) (World.block_lt_of_cell? _ _ k2)).trans k2
      have k3 := (h2.cell (p := ⟨kg, ko + i * 4 + 3, none⟩) (World.block_lt_of_cell? _ _ k3)).trans k3
      have hnext : (l.take (i + 1)).foldl (· ||| ·) 0 = (l.take i).foldl (· ||| ·) 0 ||| x := by
        rw [List.take_add_one, hx]; exact foldl_or_snoc _ _
      obtain ⟨M, hM⟩ : ∃ M, (l.take i).foldl (· ||| ·) 0 = M := ⟨_, rfl⟩
      rw [hM] at h1 hnext
      obtain ⟨R, hR⟩ : ∃ R, M ||| x = R := ⟨_, rfl⟩
      have l0 := wd_or M x 0
      have l1 := wd_or M x 1
      have l2 := wd_or M x 2
      have l3 := wd_or M x 3
      rw [hR] at l0 l1 l2 l3 hnext
      have hi0 : (0 : Int) ≤ (i : Int) := by omega
      have hi1 : (i : Int) < (l.length : Int) := by omega
      have A := Lib.hid (And.intro hm (And.intro h0 (And.intro h1 (And.intro h2 (And.intro hnext hR)))))

      clear hm h0 h1 h2 hnext hM hR hx hkr
      go_wp2_with fail
      have g0 : Blk (wr.alloc (.cells #[.int .u64 (wd x 0), .int .u64 (wd x 1), .int .u64 (wd x 2), .int .u64 (wd x 3)] 26)) w.heap.size 26 #[.int .u64 0, .int .u64 0, .int .u64 0, .int .u64 0] := A.out.2.1.alloc _
      have g1 : Blk (wr.alloc (.cells #[.int .u64 (wd x 0), .int .u64 (wd x 1), .int .u64 (wd x 2), .int .u64 (wd x 3)] 26)) (w.heap.size + 1) 26 (mix M R 0) := A.out.2.2.1.alloc _
      have g2 : Blk (wr.alloc (.cells #[.int .u64 (wd x 0), .int .u64 (wd x 1), .int .u64 (wd x 2), .int .u64 (wd x 3)] 26)) wr.heap.size 26 #[.int .u64 (wd x 0), .int .u64 (wd x 1), .int .u64 (wd x 2), .int .u64 (wd x 3)] := Blk.new _ _ _
      have g3 : Below w.heap.size w (wr.alloc (.cells #[.int .u64 (wd x 0), .int .u64 (wd x 1), .int .u64 (wd x 2), .int .u64 (wd x 3)] 26)) := A.out.2.2.2.1.alloc A.out.2.2.2.1.size _
      have hz1 : w.heap.size + 1 < wr.heap.size := A.out.2.2.1.lt
      generalize wr.alloc (.cells #[.int .u64 (wd x 0), .int .u64 (wd x 1), .int .u64 (wd x 2), .int .u64 (wd x 3)] 26) = w3 at g0 g1 g2 g3 ⊢
      generalize wr.heap.size = xb at g2 hz1 ⊢
      clear k0 k1 k2 k3
      go_loopg [13] 4 (fun m v wq => ∃ j : Nat, j ≤ 4 ∧ m = 4 - j ∧ v = .int .i64 j ∧ Blk wq w.heap.size 26 #[.int .u64 0, .int .u64 0, .int .u64 0, .int .u64 0] ∧ Blk wq (w.heap.size + 1) 26 (mix M R j) ∧ Blk wq xb 26 #[.int .u64 (wd x 0), .int .u64 (wd x 1), .int .u64 (wd x 2), .int .u64 (wd x 3)] ∧ Below w.heap.size w wq)
      case atStart => exact ⟨0, by omega, rfl, rfl, g0, g1, g2, g3⟩
      case round =>
        obtain ⟨j, hj, hm, rfl, h0, h1, h2, h3⟩ := hrel
        have Q := Lib.hid (And.intro hm (And.intro h0 (And.intro h1 (And.intro h2 h3))))
        obtain ⟨e0, e1, e2, e3, ef⟩ := h1.facts4
        obtain ⟨f0, f1, f2, f3, ff⟩ := h2.facts4
        clear g0 g1 g2 g3 hm h0 h1 h2 h3
        rcases (show j = 0 ∨ j = 1 ∨ j = 2 ∨ j = 3 ∨ j = 4 by omega) with rfl | rfl | rfl | rfl | rfl
        · simp only [Nat.lt_irrefl, if_true, Nat.reduceLT, if_false] at e0 e1 e2 e3
          go_wp2_with fail
          apply via
          · intro K
            go_region
            all_goals (try go_simp)
            all_goals exact K.out
          go_wp2_with fail
          go_roundg 3
          case measure => have := Q.out.1; omega
          case rel => exact ⟨1, by omega, rfl, rfl, Q.out.2.1.far (p := ⟨w.heap.size + 1, 0, none⟩) (by simp) _, Q.out.2.2.1.set_ 0 _, Q.out.2.2.2.1.far (p := ⟨w.heap.size + 1, 0, none⟩) (by simp; omega) _, (Q.out.2.2.2.2.setCell (p := ⟨w.heap.size + 1, 0, none⟩) (by simp) _).drew⟩
        · simp only [Nat.lt_irrefl, if_true, Nat.reduceLT, if_false] at e0 e1 e2 e3
          go_wp2_with fail
          apply via
          · intro K
            go_region
            all_goals (try go_simp)
            all_goals exact K.out
          go_wp2_with fail
          go_roundg 2
          case measure => have := Q.out.1; omega
          case rel => exact ⟨2, by omega, rfl, rfl, Q.out.2.1.far (p := ⟨w.heap.size + 1, 1, none⟩) (by simp) _, Q.out.2.2.1.set_ 1 _, Q.out.2.2.2.1.far (p := ⟨w.heap.size + 1, 1, none⟩) (by simp; omega) _, (Q.out.2.2.2.2.setCell (p := ⟨w.heap.size + 1, 1, none⟩) (by simp) _).drew⟩
        · simp only [Nat.lt_irrefl, if_true, Nat.reduceLT, if_false] at e0 e1 e2 e3
          go_wp2_with fail
          apply via
          · intro K
            go_region
            all_goals (try go_simp)
            all_goals exact K.out
          go_wp2_with fail
          go_roundg 1
          case measure => have := Q.out.1; omega
          case rel => exact ⟨3, by omega, rfl, rfl, Q.out.2.1.far (p := ⟨w.heap.size + 1, 2, none⟩) (by simp) _, Q.out.2.2.1.set_ 2 _, Q.out.2.2.2.1.far (p := ⟨w.heap.size + 1, 2, none⟩) (by simp; omega) _, (Q.out.2.2.2.2.setCell (p := ⟨w.heap.size + 1, 2, none⟩) (by simp) _).drew⟩
        · simp only [Nat.lt_irrefl, if_true, Nat.reduceLT, if_false] at e0 e1 e2 e3
          go_wp2_with fail
          apply via
          · intro K
            go_region
            all_goals (try go_simp)
            all_goals exact K.out
          go_wp2_with fail
          go_roundg 0
          case measure => have := Q.out.1; omega
          case rel => exact ⟨4, by omega, rfl, rfl, Q.out.2.1.far (p := ⟨w.heap.size + 1, 3, none⟩) (by simp) _, Q.out.2.2.1.set_ 3 _, Q.out.2.2.2.1.far (p := ⟨w.heap.size + 1, 3, none⟩) (by simp; omega) _, (Q.out.2.2.2.2.setCell (p := ⟨w.heap.size + 1, 3, none⟩) (by simp) _).drew⟩
        · go_wp2_with fail
          go_roundg (l.length - (i + 1))
          case measure => have := A.out.1; omega
          case rel => exact ⟨i + 1, by omega, rfl, rfl, Q.out.2.1, by rw [A.out.2.2.2.2.1]; exact Q.out.2.2.1, Q.out.2.2.2.2⟩
    · obtain rfl : i = l.length := by omega
      rw [List.take_length] at h1
      obtain ⟨R, hR⟩ : ∃ R, l.foldl (· ||| ·) 0 = R := ⟨_, rfl⟩
      rw [hR] at h1
      have HR := Lib.hid hR
      clear hR
      obtain ⟨e0, e1, e2, e3, ef⟩ := Blk.facts4 (v0 := .int .u64 (wd R 0)) (v1 := .int .u64 (wd R 1)) (v2 := .int .u64 (wd R 2)) (v3 := .int .u64 (wd R 3)) h1
      obtain ⟨f0, f1, f2, f3, ff⟩ := h0.facts4
      have A := Lib.hid (And.intro h0 h2)
      clear h0 h1 h2 hm
      go_wp2_with fail
      have hbk := (((A.out.1.set_ 0 (.int .u64 (wd R 0))).set_ 1 (.int .u64 (wd R 1))).set_ 2 (.int .u64 (wd R 2))).set_ 3 (.int .u64 (wd R 3))
      refine bodyPost_ret (results_cell_row (by rfl) _ _ w.heap.size 26 _ (0, 0) _ (by rfl) hbk Tryz.underlying26 (by rfl) (by kernel_rfl)) rfl ?_
      refine ⟨by rw [HR.out]; rfl, (((A.out.2.setCell ?_ _).setCell ?_ _).setCell ?_ _).setCell ?_ _⟩ <;> (simp; try omega)
end Go.Proofs.YtknpkndiflodbaaGreatDoor.Tb
