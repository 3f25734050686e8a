/-
  WALKS: bits.OnesCount64, bits.TrailingZeros64, sets.Count.
-/
import Derived.Test.YtmkidbenndhhjaaDoorOnes2
import Derived.Test.YtmkidbenndhhjaaDoorMake
import Derived.Shelf.Spec.TrailingZeros
import Derived.Laws.Bits128
set_option linter.unusedVariables false
set_option linter.unusedSimpArgs false
namespace Go.Proofs.YtmkidbenndhhjaaDoor.Dx
open Go.RowKit Go.Proofs Mx

theorem ones_any (x : Nat) (hx : x < 18446744073709551616) (w : World) :
    Calls Tryd.prog 74 #[.int .u64 (x : Int)] w fun e w' => e = .returned (.int .i64 ((ones x : Nat) : Int)) ∧ w = w' := by
  go_enter Tryd.func74, Tryd.ntmps74
  go_wp2
  go_ret
  refine ⟨ret_int ?_, rfl⟩
  obtain ⟨x1, hx1⟩ : ∃ x1, (x / 2 &&& 6148914691236517205) + (x &&& 6148914691236517205) = x1 := ⟨_, rfl⟩
  obtain ⟨x2, hx2⟩ : ∃ x2, (x1 / 4 &&& 3689348814741910323) + (x1 &&& 3689348814741910323) = x2 := ⟨_, rfl⟩
  obtain ⟨x3, hx3⟩ : ∃ x3, (x2 / 16 + x2) &&& 1085102592571150095 = x3 := ⟨_, rfl⟩
  have b1 : x1 ≤ 12297829382473034410 := by
    have := @Nat.and_le_right (x / 2) 6148914691236517205
    have := @Nat.and_le_right x 6148914691236517205
    omega
  have b2 : x2 ≤ 7378697629483820646 := by
    have := @Nat.and_le_right (x1 / 4) 3689348814741910323
    have := @Nat.and_le_right x1 3689348814741910323
    omega
  have b3 : x3 ≤ 1085102592571150095 := by
    have := @Nat.and_le_right (x2 / 16 + x2) 1085102592571150095
    omega
  have hand : ∀ a c : Nat, a < 18446744073709551616 → c < 18446744073709551616 → bits .and .u64 (a : Int) (c : Int) = ((a &&& c : Nat) : Int) := fun a c ha hc => bits_and_u64_nat a c ha hc
  have w1 : IntKind.u64.wrap (bits .and .u64 ((x : Int) / 2) 6148914691236517205 + bits .and .u64 (x : Int) 6148914691236517205) = (x1 : Int) := by
    have h1 := hand (x / 2) 6148914691236517205 (by omega) (by omega)
    have h2 := hand x 6148914691236517205 (by omega) (by omega)
    rw [show ((x : Int) / 2) = ((x / 2 : Nat) : Int) by omega, show (6148914691236517205 : Int) = ((6148914691236517205 : Nat) : Int) from rfl, h1, h2, IntKind.wrap_u64]
    omega
  rw [w1]
  have w2 : IntKind.u64.wrap (bits .and .u64 ((x1 : Int) / 4) 3689348814741910323 + bits .and .u64 (x1 : Int) 3689348814741910323) = (x2 : Int) := by
    have h1 := hand (x1 / 4) 3689348814741910323 (by omega) (by omega)
    have h2 := hand x1 3689348814741910323 (by omega) (by omega)
    rw [show ((x1 : Int) / 4) = ((x1 / 4 : Nat) : Int) by omega, show (3689348814741910323 : Int) = ((3689348814741910323 : Nat) : Int) from rfl, h1, h2, IntKind.wrap_u64]
    omega
  rw [w2]
  have w3 : bits .and .u64 (IntKind.u64.wrap ((x2 : Int) / 16 + (x2 : Int))) 1085102592571150095 = (x3 : Int) := by
    have h1 := hand (x2 / 16 + x2) 1085102592571150095 (by omega) (by omega)
    rw [show IntKind.u64.wrap ((x2 : Int) / 16 + (x2 : Int)) = ((x2 / 16 + x2 : Nat) : Int) by rw [IntKind.wrap_u64]; omega, show (1085102592571150095 : Int) = ((1085102592571150095 : Nat) : Int) from rfl, h1, hx3]
  rw [w3]
  have hones : ones x = (x3 + x3 / 256 + (x3 + x3 / 256) / 65536 + (x3 + x3 / 256 + (x3 + x3 / 256) / 65536) / 4294967296) % 128 := by
    unfold ones
    simp only
    rw [hx1, hx2, hx3]
  rw [hones, i64_and127]
  clear hones w1 w2 w3 hand hx1 hx2 hx3 b1 b2
  rw [show IntKind.u64.wrap ((x3 : Int) + (x3 : Int) / 256) = ((x3 + x3 / 256 : Nat) : Int) by rw [IntKind.wrap_u64]; omega]
  have c4 : x3 + x3 / 256 ≤ 2000000000000000000 := by omega
  generalize x3 + x3 / 256 = x4 at c4 ⊢
  rw [show IntKind.u64.wrap ((x4 : Int) + (x4 : Int) / 65536) = ((x4 + x4 / 65536 : Nat) : Int) by rw [IntKind.wrap_u64]; omega]
  have c5 : x4 + x4 / 65536 ≤ 3000000000000000000 := by omega
  generalize x4 + x4 / 65536 = x5 at c5 ⊢
  rw [show IntKind.u64.wrap ((x5 : Int) + (x5 : Int) / 4294967296) = ((x5 + x5 / 4294967296 : Nat) : Int) by rw [IntKind.wrap_u64]; omega]
  have c6 : x5 + x5 / 4294967296 ≤ 4000000000000000000 := by omega
  generalize x5 + x5 / 4294967296 = x6 at c6 ⊢
  unfold wrap64
  omega
/-- The table of the lowest bits, as its initialiser lays it. -/
def Bru (w : World) : Prop := ∀ j, j < 64 → w.cell? ⟨4, j, none⟩ = some (.int .u8 (Lib.deBruijn64tab.getD j 0))
theorem Bru.below {w w' : World} {B : Nat} (h : Bru w) (hb : Below B w w') (hB : LB ≤ B) : Bru w' := fun j hj =>
  (hb.cell (p := ⟨4, j, none⟩) (Nat.lt_of_lt_of_le (show 4 < LB by decide) hB)).trans (h j hj)
set_option maxHeartbeats 1000000 in
theorem tz_core (x k idx : Nat) (w : World) (hx0 : ((x : Int) == 0) = false)
    (key : IntKind.u64.wrap (bits BinOp.and IntKind.u64 (x : Int) (IntKind.u64.wrap (-(x : Int))) * 285870213051353865) / 288230376151711744 = (idx : Int))
    (hi : idx < 64) (hk : k < 64) (hcell : w.cell? ⟨4, idx, none⟩ = some (.int .u8 k)) :
    Calls Tryd.prog 86 #[.int .u64 (x : Int)] w fun e w' => e = .returned (.int .i64 k) ∧ w = w' := by
  go_enter Tryd.func86, Tryd.ntmps86
  go_wp2_with (simp only [key])
  go_ret
  exact ⟨rfl, rfl⟩
theorem tz_any (x : Nat) (hx : x < 18446744073709551616) (hx0 : x ≠ 0) (w : World) (hT : Bru w) :
    Calls Tryd.prog 86 #[.int .u64 (x : Int)] w fun e w' => e = .returned (.int .i64 (Lib.ctz 64 x)) ∧ w = w' := by
  obtain ⟨hlow, hk⟩ := Lib.lowest_bit 64 x hx0 hx
  obtain ⟨hi, htab⟩ := Lib.deBruijn64_at _ hk
  have hi' : Lib.ctz 64 x < 64 := hk
  have hcell := hT _ (show _ < 64 from hi)
  rw [htab] at hcell
  exact tz_core x _ _ w (by simp; omega) (tz64_key x _ hx hx0 hlow) hi hk hcell
theorem ix0 (a b c d : Value) (w : World) : (Instr.index 49 (.agg #[a, b, c, d]) (.int .i64 0)).run Tryd.prog w = .ok a w := by kernel_rfl
theorem ix1 (a b c d : Value) (w : World) : (Instr.index 49 (.agg #[a, b, c, d]) (.int .i64 1)).run Tryd.prog w = .ok b w := by kernel_rfl
theorem ix2 (a b c d : Value) (w : World) : (Instr.index 49 (.agg #[a, b, c, d]) (.int .i64 2)).run Tryd.prog w = .ok c w := by kernel_rfl
theorem ix3 (a b c d : Value) (w : World) : (Instr.index 49 (.agg #[a, b, c, d]) (.int .i64 3)).run Tryd.prog w = .ok d w := by kernel_rfl
def onesUp (M : Nat) : Nat → Nat
  | 0 => 0
  | j + 1 => onesUp M j + ones (wdN M j)
theorem ones_le (x : Nat) : ones x ≤ 127 := by
  unfold ones
  simp only
  omega
theorem onesUp_le (M : Nat) (j : Nat) : onesUp M j ≤ 127 * j := by
  induction j with
  | zero => exact Nat.le_refl _
  | succ j ih => have := ones_le (wdN M j); rw [onesUp]; omega
theorem onesUp_four (M : Nat) : onesUp M 4 = (bytesOf M).length := by
  rw [count_words]; simp [onesUp]
set_option maxRecDepth 100000 in
set_option maxHeartbeats 1000000 in
theorem count_any (M : Nat) (w : World) :
    Calls Tryd.prog 63 #[setV M] w fun e w' => e = .returned (.int .i64 ((bytesOf M).length : Int)) ∧ Below w.heap.size w w' := by
  rw [show setV M = .agg #[.int .u64 ((wdN M 0 : Nat) : Int), .int .u64 ((wdN M 1 : Nat) : Int), .int .u64 ((wdN M 2 : Nat) : Int), .int .u64 ((wdN M 3 : Nat) : Int)] from rfl]
  have h0 := wdN_lt M 0
  have h1 := wdN_lt M 1
  have h2 := wdN_lt M 2
  have h3 := wdN_lt M 3
  rw [show (2 : Nat) ^ 64 = 18446744073709551616 by decide] at h0 h1 h2 h3
  have hones := fun j (hj : wdN M j < 18446744073709551616) => ones_any (wdN M j) hj
  have H := Lib.hid (And.intro (hones 0 h0) (And.intro (hones 1 h1) (And.intro (hones 2 h2) (hones 3 h3))))
  have hf := onesUp_four M
  rw [← hf]
  have HF := Lib.hid hf
  have i0 := ix0
  have i1 := ix1
  have i2 := ix2
  have i3 := ix3
  clear hones hf
  go_enter Tryd.func63, Tryd.ntmps63
  go_wp2_with fail
  go_loopw [3, 7] (fun vn vi wr => ∃ i : Nat, i ≤ 4 ∧ vi = .int .i64 i ∧ vn = .int .i64 ((onesUp M i : Nat) : Int) ∧ Below w.heap.size w wr) (fun _ vi _ => 4 - (intOf vi).toNat)
  case atStart => exact ⟨0, by omega, rfl, rfl, (Below.refl _ _).alloc (Nat.le_refl _) _⟩
  case round =>
    obtain ⟨i, hi, rfl, rfl, hb⟩ := hrel
    have HB := Lib.hid hb
    clear hb h0 h1 h2 h3
    rcases (show i = 0 ∨ i = 1 ∨ i = 2 ∨ i = 3 ∨ i = 4 by omega) with rfl | rfl | rfl | rfl | rfl
    · have b1 := onesUp_le M 0
      have b2 := ones_le (wdN M 0)
      go_wp2_with fail
      refine (H.out.1 _).mono ?_
      rintro e w1 ⟨rfl, rfl⟩
      go_wp2_with fail
      go_roundw
      case rel => exact ⟨1, by omega, rfl, by rw [show onesUp M 1 = onesUp M 0 + ones (wdN M 0) from rfl]; go_num, HB.out⟩
      case measure => simp [intOf]
    · have b1 := onesUp_le M 1
      have b2 := ones_le (wdN M 1)
      go_wp2_with fail
      refine (H.out.2.1 _).mono ?_
      rintro e w1 ⟨rfl, rfl⟩
      go_wp2_with fail
      go_roundw
      case rel => exact ⟨2, by omega, rfl, by rw [show onesUp M 2 = onesUp M 1 + ones (wdN M 1) from rfl]; go_num, HB.out⟩
      case measure => simp [intOf]
    · have b1 := onesUp_le M 2
      have b2 := ones_le (wdN M 2)
      go_wp2_with fail
      refine (H.out.2.2.1 _).mono ?_
      rintro e w1 ⟨rfl, rfl⟩
      go_wp2_with fail
      go_roundw
      case rel => exact ⟨3, by omega, rfl, by rw [show onesUp M 3 = onesUp M 2 + ones (wdN M 2) from rfl]; go_num, HB.out⟩
      case measure => simp [intOf]
    · have b1 := onesUp_le M 3
      have b2 := ones_le (wdN M 3)
      go_wp2_with fail
      refine (H.out.2.2.2 _).mono ?_
      rintro e w1 ⟨rfl, rfl⟩
      go_wp2_with fail
      go_roundw
      case rel => exact ⟨4, by omega, rfl, by rw [show onesUp M 4 = onesUp M 3 + ones (wdN M 3) from rfl]; go_num, HB.out⟩
      case measure => simp [intOf]
    · go_wp2_with fail
      go_ret
      exact ⟨rfl, HB.out⟩
end Go.Proofs.YtmkidbenndhhjaaDoor.Dx
