/-
  WALKS of package sets: Not, Make.
-/
import Derived.Test.YtacgnbelcpmjfaaGreatDoorTake
import Derived.Test.YtacgnbelcpmjfaaGreatDoorMemA
import Derived.Laws.Rows
set_option linter.unusedVariables false
set_option linter.unusedSimpArgs false
namespace Go.Proofs.YtacgnbelcpmjfaaGreatDoor.Dx
open Go.RowKit Go.Proofs Mx

/-- A set's word. -/
def wd (M j : Nat) : Int := ((M / 2 ^ (64 * j) % 18446744073709551616 : Nat) : Int)
def setV (M : Nat) : Value := .agg #[.int .u64 (wd M 0), .int .u64 (wd M 1), .int .u64 (wd M 2), .int .u64 (wd M 3)]
def setC (M : Nat) : Array Value := #[.int .u64 (wd M 0), .int .u64 (wd M 1), .int .u64 (wd M 2), .int .u64 (wd M 3)]
theorem wd_range (M j : Nat) : 0 ≤ wd M j ∧ wd M j ≤ 18446744073709551615 := by unfold wd; omega

theorem ofInt_nat (a : Nat) (ha : a < 2 ^ 64) : BitVec.ofInt 64 (a : Int) = BitVec.ofNat 64 a := by
  apply BitVec.eq_of_toNat_eq
  simp
theorem or_nat (a b : Nat) (ha : a < 2 ^ 64) (hb : b < 2 ^ 64) : bits .or .u64 (a : Int) (b : Int) = ((a ||| b : Nat) : Int) := by
  have hab : a ||| b < 2 ^ 64 := Nat.or_lt_two_pow ha hb
  show IntKind.u64.wrap ((BitVec.ofInt 64 (a : Int) ||| BitVec.ofInt 64 (b : Int)).toNat : Int) = _
  rw [ofInt_nat a ha, ofInt_nat b hb, BitVec.toNat_or, BitVec.toNat_ofNat, BitVec.toNat_ofNat, Nat.mod_eq_of_lt ha, Nat.mod_eq_of_lt hb, IntKind.wrap_u64]
  omega
theorem xor_nat (a b : Nat) (ha : a < 2 ^ 64) (hb : b < 2 ^ 64) : bits .xor .u64 (a : Int) (b : Int) = ((a ^^^ b : Nat) : Int) := by
  have hab : a ^^^ b < 2 ^ 64 := Nat.xor_lt_two_pow ha hb
  show IntKind.u64.wrap ((BitVec.ofInt 64 (a : Int) ^^^ BitVec.ofInt 64 (b : Int)).toNat : Int) = _
  rw [ofInt_nat a ha, ofInt_nat b hb, BitVec.toNat_xor, BitVec.toNat_ofNat, BitVec.toNat_ofNat, Nat.mod_eq_of_lt ha, Nat.mod_eq_of_lt hb, IntKind.wrap_u64]
  omega
theorem two64 : (18446744073709551616 : Nat) = 2 ^ 64 := by decide
theorem wd_lt (M j : Nat) : M / 2 ^ (64 * j) % 18446744073709551616 < 2 ^ 64 := by omega
theorem wd_or (M N j : Nat) : bits .or .u64 (wd M j) (wd N j) = wd (M ||| N) j := by
  unfold wd
  rw [or_nat _ _ (wd_lt M j) (wd_lt N j), two64]
  congr 1
  apply Nat.eq_of_testBit_eq
  intro i
  simp only [Nat.testBit_or, Nat.testBit_mod_two_pow, Nat.testBit_div_two_pow]
  cases decide (i < 64) <;> simp
def fullM : Nat := 2 ^ 256 - 1
def notM (M : Nat) : Nat := fullM ^^^ M
theorem wd_full (j : Nat) (hj : j < 4) : wd fullM j = IntKind.u64.max := by
  rcases (show j = 0 ∨ j = 1 ∨ j = 2 ∨ j = 3 by omega) with rfl | rfl | rfl | rfl <;> decide
theorem wd_not (M j : Nat) (hj : j < 4) : bits .xor .u64 IntKind.u64.max (wd M j) = wd (notM M) j := by
  rw [← wd_full j hj]
  unfold wd
  rw [xor_nat _ _ (wd_lt _ j) (wd_lt M j), two64]
  congr 1
  apply Nat.eq_of_testBit_eq
  intro i
  simp only [notM, Nat.testBit_xor, Nat.testBit_mod_two_pow, Nat.testBit_div_two_pow]
  cases decide (i < 64) <;> simp
/-- One bit's word. -/
theorem wd_bit (b j : Nat) (hb : b < 256) (hj : j < 4) : wd (2 ^ b) j = if j = b / 64 then (2 : Int) ^ (b % 64) else 0 := by
  have h : (List.range 256).all (fun b => (List.range 4).all (fun j => decide (wd (2 ^ b) j = if j = b / 64 then (2 : Int) ^ (b % 64) else 0))) = true := by decide +kernel
  have h1 := List.all_eq_true.1 h b (by simp; omega)
  have h2 := List.all_eq_true.1 h1 j (by simp; omega)
  simpa using h2
theorem wd_set (M b j : Nat) (hb : b < 256) (hj : j < 4) : wd (M ||| 2 ^ b) j = if j = b / 64 then bits .or .u64 (wd M j) (2 ^ (b % 64)) else wd M j := by
  rw [← wd_or, wd_bit b j hb hj]
  by_cases h : j = b / 64
  · rw [if_pos h, if_pos h]
  · rw [if_neg h, if_neg h]
    have h0 : (0 : Int) = ((0 : Nat) : Int) := rfl
    unfold wd
    rw [h0, or_nat _ _ (wd_lt M j) (by omega)]
    simp
def notI (x : Int) : Int := bits .xor .u64 IntKind.u64.max x
def nw (b : Bool) (x : Int) : Value := .int .u64 (if b then notI x else x)
def nrow (a b c d : Int) (i : Nat) : Array Value := #[nw (decide (0 < i)) a, nw (decide (1 < i)) b, nw (decide (2 < i)) c, nw (decide (3 < i)) d]
set_option maxRecDepth 100000 in
theorem not_any (a b c d : Int) (ha : 0 ≤ a ∧ a ≤ 18446744073709551615) (hb : 0 ≤ b ∧ b ≤ 18446744073709551615) (hc : 0 ≤ c ∧ c ≤ 18446744073709551615) (hd : 0 ≤ d ∧ d ≤ 18446744073709551615) (w : World) :
    Calls Tryz.prog 52 #[.agg #[.int .u64 a, .int .u64 b, .int .u64 c, .int .u64 d]] w fun e w' => e = .returned (.agg (nrow a b c d 4)) ∧ Below w.heap.size w w' := by
  obtain ⟨a0, a1⟩ := ha
  obtain ⟨b0, b1⟩ := hb
  obtain ⟨c0, c1⟩ := hc
  obtain ⟨d0, d1⟩ := hd
  go_enter Tryz.func52, Tryz.ntmps52
  go_wp2_with fail
  have hB0 : Blk ((w.alloc (.cells #[.int .u64 a, .int .u64 b, .int .u64 c, .int .u64 d] 33)).alloc (.cells #[.int .u64 0, .int .u64 0, .int .u64 0, .int .u64 0] 33)) w.heap.size 33 (nrow a b c d 0) :=
    (Blk.new_ rfl _ _).alloc _
  have hB1 : Blk ((w.alloc (.cells #[.int .u64 a, .int .u64 b, .int .u64 c, .int .u64 d] 33)).alloc (.cells #[.int .u64 0, .int .u64 0, .int .u64 0, .int .u64 0] 33)) (w.heap.size + 1) 33 #[.int .u64 0, .int .u64 0, .int .u64 0, .int .u64 0] :=
    Blk.new_ (by simp) _ _
  have hbl := ((Below.refl w.heap.size w).alloc (Nat.le_refl _) (.cells #[.int .u64 a, .int .u64 b, .int .u64 c, .int .u64 d] 33)).alloc (by simp) (.cells #[.int .u64 0, .int .u64 0, .int .u64 0, .int .u64 0] 33)
  generalize ((w.alloc (.cells #[.int .u64 a, .int .u64 b, .int .u64 c, .int .u64 d] 33)).alloc (.cells #[.int .u64 0, .int .u64 0, .int .u64 0, .int .u64 0] 33)) = w2 at hB0 hB1 hbl ⊢
  go_loopg [4] 4 (fun m v wr => ∃ i : Nat, i ≤ 4 ∧ m = 4 - i ∧ v = .int .i64 i ∧ Blk wr w.heap.size 33 (nrow a b c d i) ∧ Blk wr (w.heap.size + 1) 33 #[.int .u64 0, .int .u64 0, .int .u64 0, .int .u64 0] ∧ Below w.heap.size w wr)
  case atStart => exact ⟨0, by omega, rfl, rfl, hB0, hB1, hbl⟩
  case round =>
    obtain ⟨i, hi, hm, rfl, h0, h1, h2⟩ := hrel
    have A := Lib.hid (And.intro hm (And.intro h0 (And.intro h1 h2)))
    obtain ⟨e0, e1, e2, e3, ef⟩ := h0.facts4
    obtain ⟨f0, f1, f2, f3, ff⟩ := h1.facts4
    clear hB0 hB1 hbl hm h0 h1 h2
    rcases (show i = 0 ∨ i = 1 ∨ i = 2 ∨ i = 3 ∨ i = 4 by omega) with rfl | rfl | rfl | rfl | rfl
    · simp only [nw, Nat.lt_irrefl, decide_false, decide_true, if_true, Nat.reduceLT, Bool.false_eq_true, if_false] at e0 e1 e2 e3
      go_wp2_with fail
      go_roundg 3
      case measure => have := A.out.1; omega
      case rel => exact ⟨1, by omega, rfl, rfl, A.out.2.1.set_ 0 _, A.out.2.2.1.far (p := ⟨w.heap.size, 0, none⟩) (by simp) _, A.out.2.2.2.setCell (p := ⟨w.heap.size, 0, none⟩) (Nat.le_refl _) _⟩
    · simp only [nw, Nat.lt_irrefl, decide_false, decide_true, if_true, Nat.reduceLT, Bool.false_eq_true, if_false] at e0 e1 e2 e3
      go_wp2_with fail
      go_roundg 2
      case measure => have := A.out.1; omega
      case rel => exact ⟨2, by omega, rfl, rfl, A.out.2.1.set_ 1 _, A.out.2.2.1.far (p := ⟨w.heap.size, 1, none⟩) (by simp) _, A.out.2.2.2.setCell (p := ⟨w.heap.size, 1, none⟩) (Nat.le_refl _) _⟩
    · simp only [nw, Nat.lt_irrefl, decide_false, decide_true, if_true, Nat.reduceLT, Bool.false_eq_true, if_false] at e0 e1 e2 e3
      go_wp2_with fail
      go_roundg 1
      case measure => have := A.out.1; omega
      case rel => exact ⟨3, by omega, rfl, rfl, A.out.2.1.set_ 2 _, A.out.2.2.1.far (p := ⟨w.heap.size, 2, none⟩) (by simp) _, A.out.2.2.2.setCell (p := ⟨w.heap.size, 2, none⟩) (Nat.le_refl _) _⟩
    · simp only [nw, Nat.lt_irrefl, decide_false, decide_true, if_true, Nat.reduceLT, Bool.false_eq_true, if_false] at e0 e1 e2 e3
      go_wp2_with fail
      go_roundg 0
      case measure => have := A.out.1; omega
      case rel => exact ⟨4, by omega, rfl, rfl, A.out.2.1.set_ 3 _, A.out.2.2.1.far (p := ⟨w.heap.size, 3, none⟩) (by simp) _, A.out.2.2.2.setCell (p := ⟨w.heap.size, 3, none⟩) (Nat.le_refl _) _⟩
    · simp only [nw, Nat.lt_irrefl, decide_false, decide_true, if_true, Nat.reduceLT, Bool.false_eq_true, if_false] at e0 e1 e2 e3
      go_wp2_with fail
      have hbk := (((A.out.2.2.1.set_ 0 (.int .u64 (notI a))).set_ 1 (.int .u64 (notI b))).set_ 2 (.int .u64 (notI c))).set_ 3 (.int .u64 (notI d))
      refine bodyPost_ret (results_cell_row (by rfl) _ _ (w.heap.size + 1) 33 _ (0, 0) _ (by rfl) hbk Tryz.underlying33 (by rfl) (by kernel_rfl)) rfl ?_
      refine ⟨rfl, (((A.out.2.2.2.setCell ?_ _).setCell ?_ _).setCell ?_ _).setCell ?_ _⟩ <;> simp
theorem not_set (M : Nat) (w : World) : Calls Tryz.prog 52 #[setV M] w fun e w' => e = .returned (setV (notM M)) ∧ Below w.heap.size w w' := by
  refine (not_any _ _ _ _ (wd_range M 0) (wd_range M 1) (wd_range M 2) (wd_range M 3) w).mono ?_
  rintro e w' ⟨rfl, hb⟩
  refine ⟨?_, hb⟩
  show Ending.returned (.agg #[.int .u64 (notI (wd M 0)), .int .u64 (notI (wd M 1)), .int .u64 (notI (wd M 2)), .int .u64 (notI (wd M 3))]) = _
  unfold notI
  rw [wd_not M 0 (by omega), wd_not M 1 (by omega), wd_not M 2 (by omega), wd_not M 3 (by omega)]
  rfl
end Go.Proofs.YtacgnbelcpmjfaaGreatDoor.Dx
