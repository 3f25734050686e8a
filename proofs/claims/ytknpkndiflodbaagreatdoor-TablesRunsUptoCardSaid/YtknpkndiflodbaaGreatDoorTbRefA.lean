/-
  WALKS: the document's answer for sets: Has, With, Of.
  WALKS: sets.Has.
  WALKS: the document's Of; a symbol of two bytes.
-/
import Derived.Test.YtknpkndiflodbaaGreatDoorTbSetsA
import Derived.Test.YtknpkndiflodbaaGreatDoorRowsA
import Derived.StillTailTactics
import Derived.IntWalk
set_option linter.unusedVariables false
set_option linter.unusedSimpArgs false
namespace Go.Proofs.YtknpkndiflodbaaGreatDoor.Tb
open Go Go.RowKit Go.Proofs Go.Maps Mx
theorem ret_bool {a b : Bool} (h : a = b) : Ending.returned (.bool a) = .returned (.bool b) := by rw [h]
theorem ret_int {k : IntKind} {a b : Int} (h : a = b) : Ending.returned (.int k a) = .returned (.int k b) := by rw [h]
theorem wd_bit (b j : Nat) (hb : b < 256) (hj : j < 4) : wd (2 ^ b) j = if j = b / 64 then (2 : Int) ^ (b % 64) else 0 := by
  have h : (List.range 256).all (fun b => (List.range 4).all (fun j => decide (wd (2 ^ b) j = if j = b / 64 then (2 : Int) ^ (b % 64) else 0))) = true := by decide +kernel
  have h1 := List.all_eq_true.1 h b (by simp; omega)
  have h2 := List.all_eq_true.1 h1 j (by simp; omega)
  simpa using h2
theorem wd_set (M b j : Nat) (hb : b < 256) (hj : j < 4) : wd (M ||| 2 ^ b) j = if j = b / 64 then bits .or .u64 (wd M j) (2 ^ (b % 64)) else wd M j := by
  rw [← wd_or, wd_bit b j hb hj]
  by_cases h : j = b / 64
  · rw [if_pos h, if_pos h]
  · rw [if_neg h, if_neg h]
    have h0 : (0 : Int) = ((0 : Nat) : Int) := rfl
    unfold wd
    rw [h0, or_nat _ _ (wd_lt M j) (by omega)]
    simp
theorem wrap_pow (m : Nat) (hm : m < 64) : IntKind.u64.wrap ((2 : Int) ^ m) = 2 ^ m := by
  have h : (List.range 64).all (fun m => decide (IntKind.u64.wrap ((2 : Int) ^ m) = 2 ^ m)) = true := by decide +kernel
  simpa using List.all_eq_true.1 h m (by simp; omega)
theorem wd_test (M b q m : Nat) (hq : b / 64 = q) (hm : b % 64 = m) : ((wd M q / 2 ^ m).tmod 2 == 1) = M.testBit b := by
  obtain ⟨N, hN⟩ : ∃ N : Nat, M / 2 ^ (64 * q) % 18446744073709551616 = N := ⟨_, rfl⟩
  have h1 : wd M q = (N : Int) := by rw [wd, hN]
  have h2 : M.testBit b = N.testBit m := by
    rw [← hN, two64, Nat.testBit_mod_two_pow, Nat.testBit_div_two_pow]
    have : m < 64 := by omega
    simp only [this, decide_true, Bool.true_and]
    congr 1
    omega
  rw [h1, h2, Nat.testBit_eq_decide_div_mod_eq]
  have h3 : ((N : Int) / 2 ^ m).tmod 2 = ((N / 2 ^ m % 2 : Nat) : Int) := by
    rw [show ((2 : Int) ^ m) = ((2 ^ m : Nat) : Int) by simp, ← Int.natCast_ediv, show (2 : Int) = ((2 : Nat) : Int) from rfl, ← Int.ofNat_tmod]
  rw [h3]
  have h4 : N / 2 ^ m % 2 < 2 := Nat.mod_lt _ (by decide)
  generalize N / 2 ^ m % 2 = x at h4 ⊢
  match x, h4 with
  | 0, _ => rfl
  | 1, _ => rfl
set_option maxRecDepth 100000 in
theorem rhas_any (M b : Nat) (hb : b < 256) (w : World) :
    Calls Tryz.prog 53 #[.agg #[.int .u64 (wd M 0), .int .u64 (wd M 1), .int .u64 (wd M 2), .int .u64 (wd M 3)], .int .i64 (b : Int)] w fun e w' => e = .returned (.bool (M.testBit b)) ∧ Below w.heap.size w w' := by
  have hb0 : (0 : Int) ≤ (b : Int) := by omega
  obtain ⟨m, hm⟩ : ∃ m : Nat, b % 64 = m := ⟨_, rfl⟩
  have hm' : (b : Int) % 64 = (m : Int) := by omega
  have hm64 : (m : Int) < 64 := by omega
  have hm0 : (0 : Int) ≤ (m : Int) := by omega
  have w0 := wd_range M 0
  have w1 := wd_range M 1
  have w2 := wd_range M 2
  have w3 := wd_range M 3
  rcases (show b / 64 = 0 ∨ b / 64 = 1 ∨ b / 64 = 2 ∨ b / 64 = 3 by omega) with hq | hq | hq | hq
  · have hq' : (b : Int) / 64 = 0 := by omega
    have HX := Lib.hid (wd_test M b 0 m hq hm)
    clear hm hq
    go_enter Tryz.func53, Tryz.ntmps53
    go_wp2_with fail
    go_ret
    exact ⟨ret_bool HX.out, (Below.refl _ w).alloc (Nat.le_refl _) _⟩
  · have hq' : (b : Int) / 64 = 1 := by omega
    have HX := Lib.hid (wd_test M b 1 m hq hm)
    clear hm hq
    go_enter Tryz.func53, Tryz.ntmps53
    go_wp2_with fail
    go_ret
    exact ⟨ret_bool HX.out, (Below.refl _ w).alloc (Nat.le_refl _) _⟩
  · have hq' : (b : Int) / 64 = 2 := by omega
    have HX := Lib.hid (wd_test M b 2 m hq hm)
    clear hm hq
    go_enter Tryz.func53, Tryz.ntmps53
    go_wp2_with fail
    go_ret
    exact ⟨ret_bool HX.out, (Below.refl _ w).alloc (Nat.le_refl _) _⟩
  · have hq' : (b : Int) / 64 = 3 := by omega
    have HX := Lib.hid (wd_test M b 3 m hq hm)
    clear hm hq
    go_enter Tryz.func53, Tryz.ntmps53
    go_wp2_with fail
    go_ret
    exact ⟨ret_bool HX.out, (Below.refl _ w).alloc (Nat.le_refl _) _⟩
theorem or_same (M b : Nat) (h : M.testBit b = true) : M ||| 2 ^ b = M := by
  apply Nat.eq_of_testBit_eq
  intro i
  rw [Nat.testBit_or, Nat.testBit_two_pow]
  by_cases hi : b = i
  · subst hi; simp [h]
  · simp [hi]
theorem add_bit (M b q m : Nat) (hb : b < 256) (hq : b / 64 = q) (hm : b % 64 = m) (h : M.testBit b = false) : IntKind.u64.wrap (wd M q + IntKind.u64.wrap ((2 : Int) ^ m)) = wd (M ||| 2 ^ b) q := by
  have hm64 : m < 64 := by omega
  obtain ⟨N, hN⟩ : ∃ N : Nat, M / 2 ^ (64 * q) % 18446744073709551616 = N := ⟨_, rfl⟩
  have h1 : wd M q = (N : Int) := by rw [wd, hN]
  have hlt : N < 2 ^ 64 := by rw [← hN]; exact Nat.mod_lt _ (by decide)
  have h2 : N.testBit m = false := by
    rw [← h, ← hN, two64, Nat.testBit_mod_two_pow, Nat.testBit_div_two_pow]
    simp only [hm64, decide_true, Bool.true_and]
    congr 1
    omega
  rw [wd_set M b q hb (by omega), if_pos hq.symm, hm, wrap_pow m hm64, h1]
  have hp : (2 : Nat) ^ m < 2 ^ 64 := Nat.pow_lt_pow_right (by decide) hm64
  rw [show ((2 : Int) ^ m) = ((2 ^ m : Nat) : Int) by simp, or_nat _ _ hlt hp]
  have hor : N ||| 2 ^ m < 2 ^ 64 := Nat.or_lt_two_pow hlt hp
  have hadd : N + 2 ^ m = N ||| 2 ^ m := by
    have hb0 : BitVec.ofNat 64 N &&& BitVec.ofNat 64 (2 ^ m) = 0#64 := by
      apply BitVec.eq_of_getLsbD_eq
      intro i hi
      rw [BitVec.getLsbD_and, BitVec.getLsbD_ofNat, BitVec.getLsbD_ofNat, Nat.testBit_two_pow]
      by_cases him : m = i
      · subst him; simp [h2]
      · simp [him]
    have h5 := congrArg BitVec.toNat (BitVec.add_eq_or_of_and_eq_zero _ _ hb0)
    rw [BitVec.toNat_add, BitVec.toNat_or, BitVec.toNat_ofNat, BitVec.toNat_ofNat, Nat.mod_eq_of_lt hlt, Nat.mod_eq_of_lt hp] at h5
    have h6 : N + 2 ^ m < 2 ^ 64 := by
      have e1 : N = 2 ^ (m + 1) * (N / 2 ^ (m + 1)) + N % 2 ^ (m + 1) := (Nat.div_add_mod _ _).symm
      have e2 : N % 2 ^ (m + 1) < 2 ^ m := by
        apply Nat.lt_pow_two_of_testBit
        intro i hi
        rw [Nat.testBit_mod_two_pow]
        by_cases him : i = m
        · subst him; simp [h2]
        · simp; omega
      have e3 : N / 2 ^ (m + 1) < 2 ^ (63 - m) := by
        rw [Nat.div_lt_iff_lt_mul (Nat.two_pow_pos _), ← Nat.pow_add, show 63 - m + (m + 1) = 64 by omega]; exact hlt
      have e4 : 2 ^ (m + 1) * (N / 2 ^ (m + 1)) + 2 ^ (m + 1) ≤ 2 ^ 64 := by
        have : 2 ^ (m + 1) * (N / 2 ^ (m + 1) + 1) ≤ 2 ^ (m + 1) * 2 ^ (63 - m) := Nat.mul_le_mul_left _ e3
        rw [← Nat.pow_add, show m + 1 + (63 - m) = 64 by omega, Nat.mul_add, Nat.mul_one] at this
        exact this
      have e5 : (2 : Nat) ^ (m + 1) = 2 * 2 ^ m := by rw [Nat.pow_succ]; omega
      omega
    rw [Nat.mod_eq_of_lt h6] at h5
    exact h5
  rw [← hadd, IntKind.wrap_u64]
  have : N + 2 ^ m < 2 ^ 64 := by rw [hadd]; exact hor
  have h64 : (2 : Nat) ^ 64 = 18446744073709551616 := by decide
  rw [h64] at this
  generalize (2 : Nat) ^ m = x at this ⊢
  omega
theorem setV_bit (M b q m : Nat) (hb : b < 256) (hq : b / 64 = q) (hm : b % 64 = m) (h : M.testBit b = false) :
    (setC M).setIfInBounds q (.int .u64 (IntKind.u64.wrap (wd M q + IntKind.u64.wrap ((2 : Int) ^ m)))) = setC (M ||| 2 ^ b) := by
  rw [add_bit M b q m hb hq hm h]
  have hw : ∀ j, j < 4 → j ≠ q → wd (M ||| 2 ^ b) j = wd M j := fun j hj hne => by rw [wd_set M b j hb hj, if_neg (by omega)]
  unfold setC
  rcases (show q = 0 ∨ q = 1 ∨ q = 2 ∨ q = 3 by omega) with rfl | rfl | rfl | rfl
  · rw [hw 1 (by decide) (by decide), hw 2 (by decide) (by decide), hw 3 (by decide) (by decide)]; rfl
  · rw [hw 0 (by decide) (by decide), hw 2 (by decide) (by decide), hw 3 (by decide) (by decide)]; rfl
  · rw [hw 0 (by decide) (by decide), hw 1 (by decide) (by decide), hw 3 (by decide) (by decide)]; rfl
  · rw [hw 0 (by decide) (by decide), hw 1 (by decide) (by decide), hw 2 (by decide) (by decide)]; rfl
set_option maxRecDepth 100000 in
set_option maxHeartbeats 1000000 in
theorem rwith_any (M b : Nat) (hb : b < 256) (w : World) :
    Calls Tryz.prog 62 #[.agg #[.int .u64 (wd M 0), .int .u64 (wd M 1), .int .u64 (wd M 2), .int .u64 (wd M 3)], .int .i64 (b : Int)] w fun e w' => e = .returned (setV (M ||| 2 ^ b)) ∧ Below w.heap.size w w' := by
  have hb0 : (0 : Int) ≤ (b : Int) := by omega
  obtain ⟨m, hm⟩ : ∃ m : Nat, b % 64 = m := ⟨_, rfl⟩
  have hm' : (b : Int) % 64 = (m : Int) := by omega
  have hm64 : (m : Int) < 64 := by omega
  have hm0 : (0 : Int) ≤ (m : Int) := by omega
  have HB := Lib.hid (And.intro hb hm)
  clear hm
  go_enter Tryz.func62, Tryz.ntmps62
  go_wp2_with fail
  have hB0 : Blk ((w.alloc (.cells #[.int .u64 (wd M 0), .int .u64 (wd M 1), .int .u64 (wd M 2), .int .u64 (wd M 3)] 26)).alloc (.cells #[.int .u64 0, .int .u64 0, .int .u64 0, .int .u64 0] 26)) w.heap.size 26 (setC M) :=
    (Blk.new_ rfl _ _).alloc _
  have hB1 : Blk ((w.alloc (.cells #[.int .u64 (wd M 0), .int .u64 (wd M 1), .int .u64 (wd M 2), .int .u64 (wd M 3)] 26)).alloc (.cells #[.int .u64 0, .int .u64 0, .int .u64 0, .int .u64 0] 26)) (w.heap.size + 1) 26 (setC 0) :=
    Blk.new_ (by simp) _ _
  have hbl := ((Below.refl w.heap.size w).alloc (Nat.le_refl _) (.cells #[.int .u64 (wd M 0), .int .u64 (wd M 1), .int .u64 (wd M 2), .int .u64 (wd M 3)] 26)).alloc (by simp) (.cells #[.int .u64 0, .int .u64 0, .int .u64 0, .int .u64 0] 26)
  generalize ((w.alloc (.cells #[.int .u64 (wd M 0), .int .u64 (wd M 1), .int .u64 (wd M 2), .int .u64 (wd M 3)] 26)).alloc (.cells #[.int .u64 0, .int .u64 0, .int .u64 0, .int .u64 0] 26)) = W1 at hB0 hB1 hbl ⊢
  refine (rhas_any M b hb _).mono ?_
  rintro e w2 ⟨rfl, hb2⟩
  replace hB0 := hB0.below hb2 hB0.lt
  replace hB1 := hB1.below hb2 hB1.lt
  replace hbl := hbl.trans (hb2.mono hbl.size)
  clear hb2 W1
  obtain ⟨e0, e1, e2, e3, ef⟩ := hB0.facts4
  obtain ⟨f0, f1, f2, f3, ff⟩ := hB1.facts4
  have H := Lib.hid (And.intro hB0 (And.intro hB1 hbl))
  clear hB0 hB1 hbl
  cases hx : M.testBit b with
  | true =>
    have HM := Lib.hid (or_same M b hx)
    clear hx
    go_wp2_with fail
    have hbk := (((H.out.2.1.set_ 0 (.int .u64 (wd M 0))).set_ 1 (.int .u64 (wd M 1))).set_ 2 (.int .u64 (wd M 2))).set_ 3 (.int .u64 (wd M 3))
    refine bodyPost_ret (results_cell_row (by rfl) _ _ (w.heap.size + 1) 26 _ (0, 0) _ (by rfl) hbk Tryz.underlying26 (by rfl) (by kernel_rfl)) rfl ?_
    rw [HM.out]
    refine ⟨rfl, (((H.out.2.2.setCell ?_ _).setCell ?_ _).setCell ?_ _).setCell ?_ _⟩ <;> simp
  | false =>
    have HM := Lib.hid (fun q hq => setV_bit M b q m hb hq HB.out.2 hx)
    clear hx
    rcases (show b / 64 = 0 ∨ b / 64 = 1 ∨ b / 64 = 2 ∨ b / 64 = 3 by omega) with hq | hq | hq | hq
    · have hq' : (b : Int) / 64 = 0 := by omega
      have HQ := Lib.hid hq
      clear hq
      go_wp2_with fail
      go_region
      go_wp2_with fail
      have hbk := (((((((H.out.2.1.far (p := ⟨w.heap.size, 0, none⟩) (by simp) (.int .u64 (IntKind.u64.wrap (wd M 0 + IntKind.u64.wrap ((2 : Int) ^ m)))))).set_ 0 (.int .u64 (IntKind.u64.wrap (wd M 0 + IntKind.u64.wrap ((2 : Int) ^ m))))).set_ 1 (.int .u64 (wd M 1))).set_ 2 (.int .u64 (wd M 2))).set_ 3 (.int .u64 (wd M 3)))).drew
      refine bodyPost_ret (results_cell_row (by rfl) _ _ (w.heap.size + 1) 26 _ (0, 0) _ (by rfl) hbk Tryz.underlying26 (by rfl) (by kernel_rfl)) rfl ?_
      have hv := HM.out 0 HQ.out
      refine ⟨?_, (((((H.out.2.2.setCell (p := ⟨w.heap.size, 0, none⟩) ?_ _).setCell ?_ _).setCell ?_ _).setCell ?_ _).setCell ?_ _).drew⟩
      · unfold setV
        have hv' := congrArg (fun a => Ending.returned (Value.agg a)) hv
        exact hv'
      all_goals simp
    · have hq' : (b : Int) / 64 = 1 := by omega
      have HQ := Lib.hid hq
      clear hq
      go_wp2_with fail
      go_region
      go_wp2_with fail
      have hbk := (((((((H.out.2.1.far (p := ⟨w.heap.size, 1, none⟩) (by simp) (.int .u64 (IntKind.u64.wrap (wd M 1 + IntKind.u64.wrap ((2 : Int) ^ m)))))).set_ 0 (.int .u64 (wd M 0))).set_ 1 (.int .u64 (IntKind.u64.wrap (wd M 1 + IntKind.u64.wrap ((2 : Int) ^ m))))).set_ 2 (.int .u64 (wd M 2))).set_ 3 (.int .u64 (wd M 3)))).drew
      refine bodyPost_ret (results_cell_row (by rfl) _ _ (w.heap.size + 1) 26 _ (0, 0) _ (by rfl) hbk Tryz.underlying26 (by rfl) (by kernel_rfl)) rfl ?_
      have hv := HM.out 1 HQ.out
      refine ⟨?_, (((((H.out.2.2.setCell (p := ⟨w.heap.size, 1, none⟩) ?_ _).setCell ?_ _).setCell ?_ _).setCell ?_ _).setCell ?_ _).drew⟩
      · unfold setV
        have hv' := congrArg (fun a => Ending.returned (Value.agg a)) hv
        exact hv'
      all_goals simp
    · have hq' : (b : Int) / 64 = 2 := by omega
      have HQ := Lib.hid hq
      clear hq
      go_wp2_with fail
      go_region
      go_wp2_with fail
      have hbk := (((((((H.out.2.1.far (p := ⟨w.heap.size, 2, none⟩) (by simp) (.int .u64 (IntKind.u64.wrap (wd M 2 + IntKind.u64.wrap ((2 : Int) ^ m)))))).set_ 0 (.int .u64 (wd M 0))).set_ 1 (.int .u64 (wd M 1))).set_ 2 (.int .u64 (IntKind.u64.wrap (wd M 2 + IntKind.u64.wrap ((2 : Int) ^ m))))).set_ 3 (.int .u64 (wd M 3)))).drew
      refine bodyPost_ret (results_cell_row (by rfl) _ _ (w.heap.size + 1) 26 _ (0, 0) _ (by rfl) hbk Tryz.underlying26 (by rfl) (by kernel_rfl)) rfl ?_
      have hv := HM.out 2 HQ.out
      refine ⟨?_, (((((H.out.2.2.setCell (p := ⟨w.heap.size, 2, none⟩) ?_ _).setCell ?_ _).setCell ?_ _).setCell ?_ _).setCell ?_ _).drew⟩
      · unfold setV
        have hv' := congrArg (fun a => Ending.returned (Value.agg a)) hv
        exact hv'
      all_goals simp
    · have hq' : (b : Int) / 64 = 3 := by omega
      have HQ := Lib.hid hq
      clear hq
      go_wp2_with fail
      go_region
      go_wp2_with fail
      have hbk := (((((((H.out.2.1.far (p := ⟨w.heap.size, 3, none⟩) (by simp) (.int .u64 (IntKind.u64.wrap (wd M 3 + IntKind.u64.wrap ((2 : Int) ^ m)))))).set_ 0 (.int .u64 (wd M 0))).set_ 1 (.int .u64 (wd M 1))).set_ 2 (.int .u64 (wd M 2))).set_ 3 (.int .u64 (IntKind.u64.wrap (wd M 3 + IntKind.u64.wrap ((2 : Int) ^ m)))))).drew
      refine bodyPost_ret (results_cell_row (by rfl) _ _ (w.heap.size + 1) 26 _ (0, 0) _ (by rfl) hbk Tryz.underlying26 (by rfl) (by kernel_rfl)) rfl ?_
      have hv := HM.out 3 HQ.out
      refine ⟨?_, (((((H.out.2.2.setCell (p := ⟨w.heap.size, 3, none⟩) ?_ _).setCell ?_ _).setCell ?_ _).setCell ?_ _).setCell ?_ _).drew⟩
      · unfold setV
        have hv' := congrArg (fun a => Ending.returned (Value.agg a)) hv
        exact hv'
      all_goals simp
end Go.Proofs.YtknpkndiflodbaaGreatDoor.Tb
set_option linter.unusedVariables false
set_option linter.unusedSimpArgs false
namespace Go.Proofs.YtknpkndiflodbaaGreatDoor.Tb
open Go Go.RowKit Go.Proofs Go.Maps Mx
theorem and63 (b : Nat) (hb : b < 256) : bits .and .u8 (b : Int) 63 = ((b % 64 : Nat) : Int) := by
  have h : (List.range 256).all (fun b => decide (bits .and .u8 (b : Int) 63 = ((b % 64 : Nat) : Int))) = true := by decide +kernel
  simpa using List.all_eq_true.1 h b (by simp; omega)
theorem and_one (M b q m : Nat) (hq : b / 64 = q) (hm : b % 64 = m) : (bits .and .u64 (wd M q / 2 ^ m) 1 == 1) = M.testBit b := by
  obtain ⟨N, hN⟩ : ∃ N : Nat, M / 2 ^ (64 * q) % 18446744073709551616 = N := ⟨_, rfl⟩
  have h1 : wd M q = (N : Int) := by rw [wd, hN]
  have hlt : N < 2 ^ 64 := by rw [← hN]; exact Nat.mod_lt _ (by decide)
  have h2 : M.testBit b = N.testBit m := by
    rw [← hN, two64, Nat.testBit_mod_two_pow, Nat.testBit_div_two_pow]
    have : m < 64 := by omega
    simp only [this, decide_true, Bool.true_and]
    congr 1
    omega
  rw [h1, h2, Nat.testBit_eq_decide_div_mod_eq, show ((2 : Int) ^ m) = ((2 ^ m : Nat) : Int) by simp, ← Int.natCast_ediv, show (1 : Int) = ((1 : Nat) : Int) from rfl,
    and_nat _ _ (Nat.lt_of_le_of_lt (Nat.div_le_self _ _) hlt) (by decide), Nat.and_one_is_mod]
  have h4 : N / 2 ^ m % 2 < 2 := Nat.mod_lt _ (by decide)
  generalize N / 2 ^ m % 2 = x at h4 ⊢
  match x, h4 with
  | 0, _ => rfl
  | 1, _ => rfl
set_option maxRecDepth 100000 in
set_option maxHeartbeats 4000000 in
theorem has_any (M : Nat) (b : Nat) (hb : b < 256) (w : World) :
    Calls Tryz.prog 58 #[setV M, .int .u8 (b : Int)] w fun e w' => e = .returned (.bool (M.testBit b)) ∧ Below w.heap.size w w' := by
  unfold setV
  have hb0 : (0 : Int) ≤ (b : Int) := by omega
  have ha := and63 b hb
  obtain ⟨m, hm⟩ : ∃ m : Nat, b % 64 = m := ⟨_, rfl⟩
  rw [hm] at ha
  have hm64 : (m : Int) < 64 := by omega
  have hm0 : (0 : Int) ≤ (m : Int) := by omega
  have w0 := wd_range M 0
  have w1 := wd_range M 1
  have w2 := wd_range M 2
  have w3 := wd_range M 3
  rcases (show b / 64 = 0 ∨ b / 64 = 1 ∨ b / 64 = 2 ∨ b / 64 = 3 by omega) with hq | hq | hq | hq
  · have hq' : (b : Int) / 64 = 0 := by omega
    have HX := Lib.hid (and_one M b 0 m hq hm)
    clear hm
    go_enter Tryz.func58, Tryz.ntmps58
    go_wp2_with fail
    go_ret
    exact ⟨ret_bool HX.out, (Below.refl _ w).alloc (Nat.le_refl _) _⟩
  · have hq' : (b : Int) / 64 = 1 := by omega
    have HX := Lib.hid (and_one M b 1 m hq hm)
    clear hm
    go_enter Tryz.func58, Tryz.ntmps58
    go_wp2_with fail
    go_ret
    exact ⟨ret_bool HX.out, (Below.refl _ w).alloc (Nat.le_refl _) _⟩
  · have hq' : (b : Int) / 64 = 2 := by omega
    have HX := Lib.hid (and_one M b 2 m hq hm)
    clear hm
    go_enter Tryz.func58, Tryz.ntmps58
    go_wp2_with fail
    go_ret
    exact ⟨ret_bool HX.out, (Below.refl _ w).alloc (Nat.le_refl _) _⟩
  · have hq' : (b : Int) / 64 = 3 := by omega
    have HX := Lib.hid (and_one M b 3 m hq hm)
    clear hm
    go_enter Tryz.func58, Tryz.ntmps58
    go_wp2_with fail
    go_ret
    exact ⟨ret_bool HX.out, (Below.refl _ w).alloc (Nat.le_refl _) _⟩
end Go.Proofs.YtknpkndiflodbaaGreatDoor.Tb
set_option linter.unusedVariables false
set_option linter.unusedSimpArgs false
namespace Go.Proofs.YtknpkndiflodbaaGreatDoor.Tb
open Go Go.RowKit Go.Proofs Go.Maps Mx
def encB (c : Nat) : List Value := [.int .u8 (c : Int)]
def ofB (l : List Nat) : Nat := l.foldl (fun M b => M ||| 2 ^ b) 0
theorem ofB_take (l : List Nat) (i b : Nat) (h : l[i]? = some b) : ofB (l.take (i + 1)) = ofB (l.take i) ||| 2 ^ b := by
  rw [List.take_add_one, h]; simp [ofB]
set_option maxRecDepth 100000 in
set_option maxHeartbeats 4000000 in
theorem of_any (D : Nat → Prop) (l : List Nat) (hl : ∀ b ∈ l, b < 256) (v : Value) (w : World) (hv : SliceK D encB 1 w v l) :
    Calls Tryz.prog 33 #[v] w fun e w' => e = .returned (setV (ofB l)) ∧ Below w.heap.size w w' := by
  obtain ⟨a, c, rfl, hc1, hc2, hk⟩ := hv
  have hlm : l.length ≤ 9223372036854775807 := by unfold maxLen at hc2; omega
  have HK := Lib.hid (And.intro hk hl)
  clear hk hl
  go_enter Tryz.func33, Tryz.ntmps33
  go_wp2_with fail
  have hB0 : Blk ((w.alloc (.cells #[.int .u64 0, .int .u64 0, .int .u64 0, .int .u64 0] 26)).alloc (.cells #[.int .u64 0, .int .u64 0, .int .u64 0, .int .u64 0] 26)) w.heap.size 26 (setC 0) := (Blk.new_ rfl _ _).alloc _
  have hB1 : Blk ((w.alloc (.cells #[.int .u64 0, .int .u64 0, .int .u64 0, .int .u64 0] 26)).alloc (.cells #[.int .u64 0, .int .u64 0, .int .u64 0, .int .u64 0] 26)) (w.heap.size + 1) 26 (setC 0) := Blk.new_ (by simp) _ _
  have hbl := ((Below.refl w.heap.size w).alloc (Nat.le_refl _) (.cells #[.int .u64 0, .int .u64 0, .int .u64 0, .int .u64 0] 26)).alloc (by simp) (.cells #[.int .u64 0, .int .u64 0, .int .u64 0, .int .u64 0] 26)
  generalize ((w.alloc (.cells #[.int .u64 0, .int .u64 0, .int .u64 0, .int .u64 0] 26)).alloc (.cells #[.int .u64 0, .int .u64 0, .int .u64 0, .int .u64 0] 26)) = W1 at hB0 hB1 hbl ⊢
  go_loopg [4] l.length (fun m v wr => ∃ i : Nat, i ≤ l.length ∧ m = l.length - i ∧ v = .int .i64 i ∧ Blk wr w.heap.size 26 (setC 0) ∧ Blk wr (w.heap.size + 1) 26 (setC (ofB (l.take i))) ∧ Below w.heap.size w wr)
  case atStart => exact ⟨0, Nat.zero_le _, rfl, rfl, hB0, hB1, hbl⟩
  case round =>
    obtain ⟨i, hi, hm, rfl, h0, h1, h2⟩ := hrel
    have A := Lib.hid (And.intro hm (And.intro h0 (And.intro h1 h2)))
    obtain ⟨e0, e1, e2, e3, ef⟩ := h0.facts4
    obtain ⟨f0, f1, f2, f3, ff⟩ := h1.facts4
    clear hB0 hB1 hbl hm h0 h1 h2
    by_cases hlt : i < l.length
    · obtain ⟨b, hb⟩ : ∃ b, l[i]? = some b := ⟨_, List.getElem?_eq_getElem hlt⟩
      obtain ⟨kg, ko, rfl, hkD, hkr⟩ := HK.out.1 (by rintro rfl; simp at hlt)
      have k0 := hkr.cells i _ hb 0 _ rfl
      simp only [Nat.add_zero, Nat.mul_one] at k0
      have k0 := (World.cell?_of_block (A.out.2.2.2.block kg hkr.lt)).trans k0
      have hb256 := HK.out.2 b (List.mem_of_getElem? hb)
      have hi0 : (0 : Int) ≤ (i : Int) := by omega
      have hi1 : (i : Int) < (l.length : Int) := by omega
      have hb0 : (0 : Int) ≤ (b : Int) := by omega
      have HB := Lib.hid hb
      have hwr : IntKind.i64.wrap (b : Int) = (b : Int) := IntWalk.i64_in _ (by omega)
      clear hb hkr
      go_wp2_with fail
      go_still_tail 6, (by kernel_rfl)
      change wpList _ _ _ _ _ wr.drew
      have hwi := rwith_any (ofB (l.take i)) b hb256
      have A2 := Lib.hid (And.intro A.out.2.1.drew (And.intro A.out.2.2.1.drew A.out.2.2.2.drew))
      clear hwr e0 e1 e2 e3 ef f0 f1 f2 f3 ff k0
      generalize wr.drew = wd1 at A2 ⊢
      go_wp2_with fail
      refine (hwi _).mono ?_
      rintro e w3 ⟨rfl, hb3⟩
      have h1 := A2.out.2.1.below hb3 A2.out.2.1.lt
      have A3 := Lib.hid (And.intro (A2.out.1.below hb3 A2.out.1.lt) (And.intro h1 (A2.out.2.2.trans (hb3.mono A2.out.2.2.size))))
      obtain ⟨f0, f1, f2, f3, ff⟩ := h1.facts4
      clear hwi h1 hb3
      unfold setV
      go_wp2_with fail
      go_roundg (l.length - (i + 1))
      case measure => have := A.out.1; omega
      case rel =>
        refine ⟨i + 1, by omega, rfl, rfl, ?_, ?_, ?_⟩
        · exact (((A3.out.1.far (p := ⟨w.heap.size + 1, 0, none⟩) (by simp) _).far (p := ⟨w.heap.size + 1, 1, none⟩) (by simp) _).far (p := ⟨w.heap.size + 1, 2, none⟩) (by simp) _).far (p := ⟨w.heap.size + 1, 3, none⟩) (by simp) _
        · rw [ofB_take l i b HB.out]
          exact (((A3.out.2.1.set_ 0 _).set_ 1 _).set_ 2 _).set_ 3 _
        · refine (((A3.out.2.2.setCell ?_ _).setCell ?_ _).setCell ?_ _).setCell ?_ _ <;> simp
    · obtain rfl : i = l.length := by omega
      clear HK
      go_wp2_with fail
      have hbk := (((A.out.2.1.set_ 0 (.int .u64 (wd (ofB l) 0))).set_ 1 (.int .u64 (wd (ofB l) 1))).set_ 2 (.int .u64 (wd (ofB l) 2))).set_ 3 (.int .u64 (wd (ofB l) 3))
      refine bodyPost_ret (results_cell_row (by rfl) _ _ w.heap.size 26 _ (0, 0) _ (by rfl) hbk Tryz.underlying26 (by rfl) (by kernel_rfl)) rfl ?_
      refine ⟨rfl, (((A.out.2.2.2.setCell ?_ _).setCell ?_ _).setCell ?_ _).setCell ?_ _⟩ <;> simp
def symV (s : Sy) : Value := .agg #[.int .i64 s.kind, .int .u64 (wd s.set 0), .int .u64 (wd s.set 1), .int .u64 (wd s.set 2), .int .u64 (wd s.set 3), .int .i64 s.sort]
set_option maxRecDepth 100000 in
set_option maxHeartbeats 4000000 in
theorem set_any (a b : Nat) (ha : a < 256) (hb : b < 256) (w : World) :
    Calls Tryz.prog 9 #[.int .u8 (a : Int), .int .u8 (b : Int)] w fun e w' => e = .returned (symV ⟨0, ofB [a, b], 0⟩) ∧ Below w.heap.size w w' := by
  go_enter Tryz.func9, Tryz.ntmps9
  go_wp2_with fail
  have hB0 : Blk ((w.alloc (.cells #[.int .i64 0, .int .u64 0, .int .u64 0, .int .u64 0, .int .u64 0, .int .i64 0] 28)).alloc (.cells #[.int .u8 (a : Int), .int .u8 (b : Int)] 5)) w.heap.size 28 #[.int .i64 0, .int .u64 0, .int .u64 0, .int .u64 0, .int .u64 0, .int .i64 0] := (Blk.new_ rfl _ _).alloc _
  have hB1 : Blk ((w.alloc (.cells #[.int .i64 0, .int .u64 0, .int .u64 0, .int .u64 0, .int .u64 0, .int .i64 0] 28)).alloc (.cells #[.int .u8 (a : Int), .int .u8 (b : Int)] 5)) (w.heap.size + 1) 5 #[.int .u8 (a : Int), .int .u8 (b : Int)] := Blk.new_ (by simp) _ _
  have hbl := ((Below.refl w.heap.size w).alloc (Nat.le_refl _) (.cells #[.int .i64 0, .int .u64 0, .int .u64 0, .int .u64 0, .int .u64 0, .int .i64 0] 28)).alloc (by simp) (.cells #[.int .u8 (a : Int), .int .u8 (b : Int)] 5)
  generalize ((w.alloc (.cells #[.int .i64 0, .int .u64 0, .int .u64 0, .int .u64 0, .int .u64 0, .int .i64 0] 28)).alloc (.cells #[.int .u8 (a : Int), .int .u8 (b : Int)] 5)) = W1 at hB0 hB1 hbl ⊢
  have hsl : SliceK (fun _ => True) encB 1 W1 (.slice (some ⟨w.heap.size + 1, 0, none⟩) 2 2) [a, b] := by
    refine ⟨_, 2, rfl, Nat.le_refl _, by decide, fun _ => ⟨_, _, rfl, trivial, hB1.lt, ?_⟩⟩
    intro i x hx j u hu
    have h0 := hB1.cell 0
    have h1 := hB1.cell 1
    match i, hx with
    | 0, hx =>
      obtain rfl : a = x := by simpa using hx
      match j, hu with
      | 0, hu => obtain rfl : Value.int .u8 (a : Int) = u := by simpa [encB] using hu
                 exact h0
    | 1, hx =>
      obtain rfl : b = x := by simpa using hx
      match j, hu with
      | 0, hu => obtain rfl : Value.int .u8 (b : Int) = u := by simpa [encB] using hu
                 exact h1
  refine (of_any _ [a, b] (by simp [ha, hb]) _ _ hsl).mono ?_
  rintro e w3 ⟨rfl, hb3⟩
  have h0 := hB0.below hb3 hB0.lt
  have A := Lib.hid (And.intro h0 (hbl.trans (hb3.mono hbl.size)))
  obtain ⟨M, hM⟩ : ∃ M, ofB [a, b] = M := ⟨_, rfl⟩
  rw [hM]
  have HM := Lib.hid hM
  have f0 := h0.cell 0
  have f1 := h0.cell 1
  have f2 := h0.cell 2
  have f3 := h0.cell 3
  have f4 := h0.cell 4
  have f5 := h0.cell 5
  have ff := h0.frozen
  simp at f0 f1 f2 f3 f4 f5
  clear hsl hB0 hB1 hbl hb3 h0 hM
  unfold setV
  go_wp2_with fail
  have hbk := (((((A.out.1.set_ 0 (.int .i64 0)).set_ 1 (.int .u64 (wd M 0))).set_ 2 (.int .u64 (wd M 1))).set_ 3 (.int .u64 (wd M 2))).set_ 4 (.int .u64 (wd M 3))).set_ 5 (.int .i64 0)
  refine bodyPost_ret (results_cell_row (by rfl) _ _ w.heap.size 28 _ (0, 0) _ (by rfl) hbk Tryz.underlying28 (by rfl) (by kernel_rfl)) rfl ?_
  rw [HM.out]
  refine ⟨rfl, (((((A.out.2.setCell ?_ _).setCell ?_ _).setCell ?_ _).setCell ?_ _).setCell ?_ _).setCell ?_ _⟩ <;> simp
end Go.Proofs.YtknpkndiflodbaaGreatDoor.Tb
