/- Walks and plain laws that the last text stands on: TbRefA, TbChkS, TbOpen. -/
import Derived.Test.YtknpkndiflodbaaGreatDoorTs6
import Derived.Test.YtknpkndiflodbaaGreatDoorTs2
import Derived.StillTailTactics
import Derived.IntWalk
import Derived.Test.YtknpkndiflodbaaGreatDoorRows
import Derived.Deep.Slices
import Derived.OpenShut
set_option linter.unusedVariables false
set_option linter.unusedSimpArgs false
set_option maxRecDepth 100000
set_option maxHeartbeats 16000000
namespace Go.Proofs.YtknpkndiflodbaaGreatDoor.Tb
open Go Go.RowKit Go.Proofs Go.Maps Mx
theorem ret_bool {a b : Bool} (h : a = b) : Ending.returned (.bool a) = .returned (.bool b) := by rw [h]
theorem wd_bit (b j : Nat) (hb : b < 256) (hj : j < 4) : wd (2 ^ b) j = if j = b / 64 then (2 : Int) ^ (b % 64) else 0 := by
 have h : (List.range 256).all (fun b => (List.range 4).all (fun j => decide (wd (2 ^ b) j = if j = b / 64 then (2 : Int) ^ (b % 64) else 0))) = true := by decide +kernel
 have h1 := List.all_eq_true.1 h b (by simp; omega)
 have h2 := List.all_eq_true.1 h1 j (by simp; omega)
 simpa using h2
theorem wd_set (M b j : Nat) (hb : b < 256) (hj : j < 4) : wd (M ||| 2 ^ b) j = if j = b / 64 then bits .or .u64 (wd M j) (2 ^ (b % 64)) else wd M j := by
 rw [<- wd_or, wd_bit b j hb hj]
 by_cases h : j = b / 64
 ·rw [if_pos h, if_pos h]
 ·rw [if_neg h, if_neg h]
  have h0 : (0 : Int) = ((0 : Nat) : Int) := rfl
  unfold wd
  rw [h0, or_nat _ _ (wd_lt M j) (by omega)]
  simp
theorem wrap_pow (m : Nat) (hm : m < 64) : IntKind.u64.wrap ((2 : Int) ^ m) = 2 ^ m := by
 have h : (List.range 64).all (fun m => decide (IntKind.u64.wrap ((2 : Int) ^ m) = 2 ^ m)) = true := by decide +kernel
 simpa using List.all_eq_true.1 h m (by simp; omega)
theorem wd_test (M b q m : Nat) (hq : b / 64 = q) (hm : b % 64 = m) : ((wd M q / 2 ^ m).tmod 2 == 1) = M.testBit b := by
 obtain ⟨N, hN⟩ : ∃ N : Nat, M / 2 ^ (64 * q) % 18446744073709551616 = N := ⟨_, rfl⟩
 have h1 : wd M q = (N : Int) := by rw [wd, hN]
 have h2 : M.testBit b = N.testBit m := by
  rw [<- hN, two64, Nat.testBit_mod_two_pow, Nat.testBit_div_two_pow]
  have : m < 64 := by omega
  simp only [this, decide_true, Bool.true_and]
  congr 1
  omega
 rw [h1, h2, Nat.testBit_eq_decide_div_mod_eq]
 have h3 : ((N : Int) / 2 ^ m).tmod 2 = ((N / 2 ^ m % 2 : Nat) : Int) := by
  rw [show ((2 : Int) ^ m) = ((2 ^ m : Nat) : Int) by simp, <- Int.natCast_ediv, show (2 : Int) = ((2 : Nat) : Int) from rfl, <- Int.ofNat_tmod]
 rw [h3]
 have h4 : N / 2 ^ m % 2 < 2 := Nat.mod_lt _ (by decide)
 generalize N / 2 ^ m % 2 = x at h4 ⊢
 match x, h4 with
 | 0, _ => rfl
 | 1, _ => rfl
theorem rhas_any (M b : Nat) (hb : b < 256) (w : World) :
  Calls Tryz.prog 53 #[.agg #[.int .u64 (wd M 0), .int .u64 (wd M 1), .int .u64 (wd M 2), .int .u64 (wd M 3)], .int .i64 (b : Int)] w fun e w' => e = .returned (.bool (M.testBit b)) /\ Below w.heap.size w w' := by
 have hb0 : (0 : Int) <= (b : Int) := by omega
 obtain ⟨m, hm⟩ : ∃ m : Nat, b % 64 = m := ⟨_, rfl⟩
 have hm' : (b : Int) % 64 = (m : Int) := by omega
 have hm64 : (m : Int) < 64 := by omega
 have hm0 : (0 : Int) <= (m : Int) := by omega
 have w0 := wd_range M 0
 have w1 := wd_range M 1
 have w2 := wd_range M 2
 have w3 := wd_range M 3
 rcases (show b / 64 = 0 ∨ b / 64 = 1 ∨ b / 64 = 2 ∨ b / 64 = 3 by omega) with hq | hq | hq | hq
 ·have hq' : (b : Int) / 64 = 0 := by omega
  have HX := Hd (wd_test M b 0 m hq hm)
  clear hm hq
  go_enter Tryz.func53, Tryz.ntmps53
  go_wp2_with fail
  go_ret
  exact ⟨ret_bool HX.out, (Below.refl _ w).alloc (Nat.le_refl _) _⟩
 ·have hq' : (b : Int) / 64 = 1 := by omega
  have HX := Hd (wd_test M b 1 m hq hm)
  clear hm hq
  go_enter Tryz.func53, Tryz.ntmps53
  go_wp2_with fail
  go_ret
  exact ⟨ret_bool HX.out, (Below.refl _ w).alloc (Nat.le_refl _) _⟩
 ·have hq' : (b : Int) / 64 = 2 := by omega
  have HX := Hd (wd_test M b 2 m hq hm)
  clear hm hq
  go_enter Tryz.func53, Tryz.ntmps53
  go_wp2_with fail
  go_ret
  exact ⟨ret_bool HX.out, (Below.refl _ w).alloc (Nat.le_refl _) _⟩
 ·have hq' : (b : Int) / 64 = 3 := by omega
  have HX := Hd (wd_test M b 3 m hq hm)
  clear hm hq
  go_enter Tryz.func53, Tryz.ntmps53
  go_wp2_with fail
  go_ret
  exact ⟨ret_bool HX.out, (Below.refl _ w).alloc (Nat.le_refl _) _⟩
theorem or_same (M b : Nat) (h : M.testBit b = true) : M ||| 2 ^ b = M := by
 apply Nat.eq_of_testBit_eq
 intro i
 rw [Nat.testBit_or, Nat.testBit_two_pow]
 by_cases hi : b = i
 ·subst hi; simp [h]
 ·simp [hi]
theorem add_bit (M b q m : Nat) (hb : b < 256) (hq : b / 64 = q) (hm : b % 64 = m) (h : M.testBit b = false) : IntKind.u64.wrap (wd M q + IntKind.u64.wrap ((2 : Int) ^ m)) = wd (M ||| 2 ^ b) q := by
 have hm64 : m < 64 := by omega
 obtain ⟨N, hN⟩ : ∃ N : Nat, M / 2 ^ (64 * q) % 18446744073709551616 = N := ⟨_, rfl⟩
 have h1 : wd M q = (N : Int) := by rw [wd, hN]
 have hlt : N < 2 ^ 64 := by rw [<- hN]; exact Nat.mod_lt _ (by decide)
 have h2 : N.testBit m = false := by
  rw [<- h, <- hN, two64, Nat.testBit_mod_two_pow, Nat.testBit_div_two_pow]
  simp only [hm64, decide_true, Bool.true_and]
  congr 1
  omega
 rw [wd_set M b q hb (by omega), if_pos hq.symm, hm, wrap_pow m hm64, h1]
 have hp : (2 : Nat) ^ m < 2 ^ 64 := Nat.pow_lt_pow_right (by decide) hm64
 rw [show ((2 : Int) ^ m) = ((2 ^ m : Nat) : Int) by simp, or_nat _ _ hlt hp]
 have hor : N ||| 2 ^ m < 2 ^ 64 := Nat.or_lt_two_pow hlt hp
 have hadd : N + 2 ^ m = N ||| 2 ^ m := by
  have hb0 : BitVec.ofNat 64 N &&& BitVec.ofNat 64 (2 ^ m) = 0#64 := by
   apply BitVec.eq_of_getLsbD_eq
   intro i hi
   rw [BitVec.getLsbD_and, BitVec.getLsbD_ofNat, BitVec.getLsbD_ofNat, Nat.testBit_two_pow]
   by_cases him : m = i
   ·subst him; simp [h2]
   ·simp [him]
  have h5 := congrArg BitVec.toNat (BitVec.add_eq_or_of_and_eq_zero _ _ hb0)
  rw [BitVec.toNat_add, BitVec.toNat_or, BitVec.toNat_ofNat, BitVec.toNat_ofNat, Nat.mod_eq_of_lt hlt, Nat.mod_eq_of_lt hp] at h5
  have h6 : N + 2 ^ m < 2 ^ 64 := by
   have e1 : N = 2 ^ (m + 1) * (N / 2 ^ (m + 1)) + N % 2 ^ (m + 1) := (Nat.div_add_mod _ _).symm
   have e2 : N % 2 ^ (m + 1) < 2 ^ m := by
    apply Nat.lt_pow_two_of_testBit
    intro i hi
    rw [Nat.testBit_mod_two_pow]
    by_cases him : i = m
    ·subst him; simp [h2]
    ·simp; omega
   have e3 : N / 2 ^ (m + 1) < 2 ^ (63 - m) := by
    rw [Nat.div_lt_iff_lt_mul (Nat.two_pow_pos _), <- Nat.pow_add, show 63 - m + (m + 1) = 64 by omega]; exact hlt
   have e4 : 2 ^ (m + 1) * (N / 2 ^ (m + 1)) + 2 ^ (m + 1) <= 2 ^ 64 := by
    have : 2 ^ (m + 1) * (N / 2 ^ (m + 1) + 1) <= 2 ^ (m + 1) * 2 ^ (63 - m) := Nat.mul_le_mul_left _ e3
    rw [<- Nat.pow_add, show m + 1 + (63 - m) = 64 by omega, Nat.mul_add, Nat.mul_one] at this
    exact this
   have e5 : (2 : Nat) ^ (m + 1) = 2 * 2 ^ m := by rw [Nat.pow_succ]; omega
   omega
  rw [Nat.mod_eq_of_lt h6] at h5
  exact h5
 rw [<- hadd, IntKind.wrap_u64]
 have : N + 2 ^ m < 2 ^ 64 := by rw [hadd]; exact hor
 have h64 : (2 : Nat) ^ 64 = 18446744073709551616 := by decide
 rw [h64] at this
 generalize (2 : Nat) ^ m = x at this ⊢
 omega
theorem setV_bit (M b q m : Nat) (hb : b < 256) (hq : b / 64 = q) (hm : b % 64 = m) (h : M.testBit b = false) :
  (setC M).setIfInBounds q (.int .u64 (IntKind.u64.wrap (wd M q + IntKind.u64.wrap ((2 : Int) ^ m)))) = setC (M ||| 2 ^ b) := by
 rw [add_bit M b q m hb hq hm h]
 have hw : ∀ j, j < 4 -> j ≠ q -> wd (M ||| 2 ^ b) j = wd M j := fun j hj hne => by rw [wd_set M b j hb hj, if_neg (by omega)]
 unfold setC
 rcases (show q = 0 ∨ q = 1 ∨ q = 2 ∨ q = 3 by omega) with rfl | rfl | rfl | rfl
 ·rw [hw 1 (by decide) (by decide), hw 2 (by decide) (by decide), hw 3 (by decide) (by decide)]; rfl
 ·rw [hw 0 (by decide) (by decide), hw 2 (by decide) (by decide), hw 3 (by decide) (by decide)]; rfl
 ·rw [hw 0 (by decide) (by decide), hw 1 (by decide) (by decide), hw 3 (by decide) (by decide)]; rfl
 ·rw [hw 0 (by decide) (by decide), hw 1 (by decide) (by decide), hw 2 (by decide) (by decide)]; rfl
theorem rwith_any (M b : Nat) (hb : b < 256) (w : World) :
  Calls Tryz.prog 62 #[.agg #[.int .u64 (wd M 0), .int .u64 (wd M 1), .int .u64 (wd M 2), .int .u64 (wd M 3)], .int .i64 (b : Int)] w fun e w' => e = .returned (setV (M ||| 2 ^ b)) /\ Below w.heap.size w w' := by
 have hb0 : (0 : Int) <= (b : Int) := by omega
 obtain ⟨m, hm⟩ : ∃ m : Nat, b % 64 = m := ⟨_, rfl⟩
 have hm' : (b : Int) % 64 = (m : Int) := by omega
 have hm64 : (m : Int) < 64 := by omega
 have hm0 : (0 : Int) <= (m : Int) := by omega
 have HB := Hd (An hb hm)
 clear hm
 go_enter Tryz.func62, Tryz.ntmps62
 go_wp2_with fail
 have hB0 : Blk ((w.alloc (.cells #[.int .u64 (wd M 0), .int .u64 (wd M 1), .int .u64 (wd M 2), .int .u64 (wd M 3)] 26)).alloc (.cells #[.int .u64 0, .int .u64 0, .int .u64 0, .int .u64 0] 26)) w.heap.size 26 (setC M) :=
  (Blk.new_ rfl _ _).alloc _
 have hB1 : Blk ((w.alloc (.cells #[.int .u64 (wd M 0), .int .u64 (wd M 1), .int .u64 (wd M 2), .int .u64 (wd M 3)] 26)).alloc (.cells #[.int .u64 0, .int .u64 0, .int .u64 0, .int .u64 0] 26)) (w.heap.size + 1) 26 (setC 0) :=
  Blk.new_ (by simp) _ _
 have hbl := ((Below.refl w.heap.size w).alloc (Nat.le_refl _) (.cells #[.int .u64 (wd M 0), .int .u64 (wd M 1), .int .u64 (wd M 2), .int .u64 (wd M 3)] 26)).alloc (by simp) (.cells #[.int .u64 0, .int .u64 0, .int .u64 0, .int .u64 0] 26)
 generalize ((w.alloc (.cells #[.int .u64 (wd M 0), .int .u64 (wd M 1), .int .u64 (wd M 2), .int .u64 (wd M 3)] 26)).alloc (.cells #[.int .u64 0, .int .u64 0, .int .u64 0, .int .u64 0] 26)) = W1 at hB0 hB1 hbl ⊢
 refine (rhas_any M b hb _).mono ?_
 rintro e w2 ⟨rfl, hb2⟩
 replace hB0 := hB0.below hb2 hB0.lt
 replace hB1 := hB1.below hb2 hB1.lt
 replace hbl := hbl.trans (hb2.mono hbl.size)
 clear hb2 W1
 obtain ⟨e0, e1, e2, e3, ef⟩ := hB0.facts4
 obtain ⟨f0, f1, f2, f3, ff⟩ := hB1.facts4
 have H := Hd (An hB0 (An hB1 hbl))
 clear hB0 hB1 hbl
 cases hx : M.testBit b with
 | true =>
  have HM := Hd (or_same M b hx)
  clear hx
  go_wp2_with fail
  have hbk := (((H.out.2.1.set_ 0 (.int .u64 (wd M 0))).set_ 1 (.int .u64 (wd M 1))).set_ 2 (.int .u64 (wd M 2))).set_ 3 (.int .u64 (wd M 3))
  refine bodyPost_ret (results_cell_row (by rfl) _ _ (w.heap.size + 1) 26 _ (0, 0) _ (by rfl) hbk Tryz.underlying26 (by rfl) (by kernel_rfl)) rfl ?_
  rw [HM.out]
  refine ⟨rfl, (((H.out.2.2.setCell ?_ _).setCell ?_ _).setCell ?_ _).setCell ?_ _⟩ <;> simp
 | false =>
  have HM := Hd (fun q hq => setV_bit M b q m hb hq HB.out.2 hx)
  clear hx
  rcases (show b / 64 = 0 ∨ b / 64 = 1 ∨ b / 64 = 2 ∨ b / 64 = 3 by omega) with hq | hq | hq | hq
  ·have hq' : (b : Int) / 64 = 0 := by omega
   have HQ := Hd hq
   clear hq
   go_wp2_with fail
   go_region
   go_wp2_with fail
   have hbk := (((((((H.out.2.1.far (p := ⟨w.heap.size, 0, none⟩) (by simp) (.int .u64 (IntKind.u64.wrap (wd M 0 + IntKind.u64.wrap ((2 : Int) ^ m)))))).set_ 0 (.int .u64 (IntKind.u64.wrap (wd M 0 + IntKind.u64.wrap ((2 : Int) ^ m))))).set_ 1 (.int .u64 (wd M 1))).set_ 2 (.int .u64 (wd M 2))).set_ 3 (.int .u64 (wd M 3)))).drew
   refine bodyPost_ret (results_cell_row (by rfl) _ _ (w.heap.size + 1) 26 _ (0, 0) _ (by rfl) hbk Tryz.underlying26 (by rfl) (by kernel_rfl)) rfl ?_
   have hv := HM.out 0 HQ.out
   refine ⟨?_, (((((H.out.2.2.setCell (p := ⟨w.heap.size, 0, none⟩) ?_ _).setCell ?_ _).setCell ?_ _).setCell ?_ _).setCell ?_ _).drew⟩
   ·unfold setV
    have hv' := congrArg (fun a => Ending.returned (Value.agg a)) hv
    exact hv'
   all_goals simp
  ·have hq' : (b : Int) / 64 = 1 := by omega
   have HQ := Hd hq
   clear hq
   go_wp2_with fail
   go_region
   go_wp2_with fail
   have hbk := (((((((H.out.2.1.far (p := ⟨w.heap.size, 1, none⟩) (by simp) (.int .u64 (IntKind.u64.wrap (wd M 1 + IntKind.u64.wrap ((2 : Int) ^ m)))))).set_ 0 (.int .u64 (wd M 0))).set_ 1 (.int .u64 (IntKind.u64.wrap (wd M 1 + IntKind.u64.wrap ((2 : Int) ^ m))))).set_ 2 (.int .u64 (wd M 2))).set_ 3 (.int .u64 (wd M 3)))).drew
   refine bodyPost_ret (results_cell_row (by rfl) _ _ (w.heap.size + 1) 26 _ (0, 0) _ (by rfl) hbk Tryz.underlying26 (by rfl) (by kernel_rfl)) rfl ?_
   have hv := HM.out 1 HQ.out
   refine ⟨?_, (((((H.out.2.2.setCell (p := ⟨w.heap.size, 1, none⟩) ?_ _).setCell ?_ _).setCell ?_ _).setCell ?_ _).setCell ?_ _).drew⟩
   ·unfold setV
    have hv' := congrArg (fun a => Ending.returned (Value.agg a)) hv
    exact hv'
   all_goals simp
  ·have hq' : (b : Int) / 64 = 2 := by omega
   have HQ := Hd hq
   clear hq
   go_wp2_with fail
   go_region
   go_wp2_with fail
   have hbk := (((((((H.out.2.1.far (p := ⟨w.heap.size, 2, none⟩) (by simp) (.int .u64 (IntKind.u64.wrap (wd M 2 + IntKind.u64.wrap ((2 : Int) ^ m)))))).set_ 0 (.int .u64 (wd M 0))).set_ 1 (.int .u64 (wd M 1))).set_ 2 (.int .u64 (IntKind.u64.wrap (wd M 2 + IntKind.u64.wrap ((2 : Int) ^ m))))).set_ 3 (.int .u64 (wd M 3)))).drew
   refine bodyPost_ret (results_cell_row (by rfl) _ _ (w.heap.size + 1) 26 _ (0, 0) _ (by rfl) hbk Tryz.underlying26 (by rfl) (by kernel_rfl)) rfl ?_
   have hv := HM.out 2 HQ.out
   refine ⟨?_, (((((H.out.2.2.setCell (p := ⟨w.heap.size, 2, none⟩) ?_ _).setCell ?_ _).setCell ?_ _).setCell ?_ _).setCell ?_ _).drew⟩
   ·unfold setV
    have hv' := congrArg (fun a => Ending.returned (Value.agg a)) hv
    exact hv'
   all_goals simp
  ·have hq' : (b : Int) / 64 = 3 := by omega
   have HQ := Hd hq
   clear hq
   go_wp2_with fail
   go_region
   go_wp2_with fail
   have hbk := (((((((H.out.2.1.far (p := ⟨w.heap.size, 3, none⟩) (by simp) (.int .u64 (IntKind.u64.wrap (wd M 3 + IntKind.u64.wrap ((2 : Int) ^ m)))))).set_ 0 (.int .u64 (wd M 0))).set_ 1 (.int .u64 (wd M 1))).set_ 2 (.int .u64 (wd M 2))).set_ 3 (.int .u64 (IntKind.u64.wrap (wd M 3 + IntKind.u64.wrap ((2 : Int) ^ m)))))).drew
   refine bodyPost_ret (results_cell_row (by rfl) _ _ (w.heap.size + 1) 26 _ (0, 0) _ (by rfl) hbk Tryz.underlying26 (by rfl) (by kernel_rfl)) rfl ?_
   have hv := HM.out 3 HQ.out
   refine ⟨?_, (((((H.out.2.2.setCell (p := ⟨w.heap.size, 3, none⟩) ?_ _).setCell ?_ _).setCell ?_ _).setCell ?_ _).setCell ?_ _).drew⟩
   ·unfold setV
    have hv' := congrArg (fun a => Ending.returned (Value.agg a)) hv
    exact hv'
   all_goals simp
end Go.Proofs.YtknpkndiflodbaaGreatDoor.Tb
namespace Go.Proofs.YtknpkndiflodbaaGreatDoor.Tb
open Go Go.RowKit Go.Proofs Go.Maps Mx
theorem and63 (b : Nat) (hb : b < 256) : bits .and .u8 (b : Int) 63 = ((b % 64 : Nat) : Int) := by
 have h : (List.range 256).all (fun b => decide (bits .and .u8 (b : Int) 63 = ((b % 64 : Nat) : Int))) = true := by decide +kernel
 simpa using List.all_eq_true.1 h b (by simp; omega)
theorem and_one (M b q m : Nat) (hq : b / 64 = q) (hm : b % 64 = m) : (bits .and .u64 (wd M q / 2 ^ m) 1 == 1) = M.testBit b := by
 obtain ⟨N, hN⟩ : ∃ N : Nat, M / 2 ^ (64 * q) % 18446744073709551616 = N := ⟨_, rfl⟩
 have h1 : wd M q = (N : Int) := by rw [wd, hN]
 have hlt : N < 2 ^ 64 := by rw [<- hN]; exact Nat.mod_lt _ (by decide)
 have h2 : M.testBit b = N.testBit m := by
  rw [<- hN, two64, Nat.testBit_mod_two_pow, Nat.testBit_div_two_pow]
  have : m < 64 := by omega
  simp only [this, decide_true, Bool.true_and]
  congr 1
  omega
 rw [h1, h2, Nat.testBit_eq_decide_div_mod_eq, show ((2 : Int) ^ m) = ((2 ^ m : Nat) : Int) by simp, <- Int.natCast_ediv, show (1 : Int) = ((1 : Nat) : Int) from rfl,
  and_nat _ _ (Nat.lt_of_le_of_lt (Nat.div_le_self _ _) hlt) (by decide), Nat.and_one_is_mod]
 have h4 : N / 2 ^ m % 2 < 2 := Nat.mod_lt _ (by decide)
 generalize N / 2 ^ m % 2 = x at h4 ⊢
 match x, h4 with
 | 0, _ => rfl
 | 1, _ => rfl
theorem has_any (M : Nat) (b : Nat) (hb : b < 256) (w : World) :
  Calls Tryz.prog 58 #[setV M, .int .u8 (b : Int)] w fun e w' => e = .returned (.bool (M.testBit b)) /\ Below w.heap.size w w' := by
 unfold setV
 have hb0 : (0 : Int) <= (b : Int) := by omega
 have ha := and63 b hb
 obtain ⟨m, hm⟩ : ∃ m : Nat, b % 64 = m := ⟨_, rfl⟩
 rw [hm] at ha
 have hm64 : (m : Int) < 64 := by omega
 have hm0 : (0 : Int) <= (m : Int) := by omega
 have w0 := wd_range M 0
 have w1 := wd_range M 1
 have w2 := wd_range M 2
 have w3 := wd_range M 3
 rcases (show b / 64 = 0 ∨ b / 64 = 1 ∨ b / 64 = 2 ∨ b / 64 = 3 by omega) with hq | hq | hq | hq
 ·have hq' : (b : Int) / 64 = 0 := by omega
  have HX := Hd (and_one M b 0 m hq hm)
  clear hm
  go_enter Tryz.func58, Tryz.ntmps58
  go_wp2_with fail
  go_ret
  exact ⟨ret_bool HX.out, (Below.refl _ w).alloc (Nat.le_refl _) _⟩
 ·have hq' : (b : Int) / 64 = 1 := by omega
  have HX := Hd (and_one M b 1 m hq hm)
  clear hm
  go_enter Tryz.func58, Tryz.ntmps58
  go_wp2_with fail
  go_ret
  exact ⟨ret_bool HX.out, (Below.refl _ w).alloc (Nat.le_refl _) _⟩
 ·have hq' : (b : Int) / 64 = 2 := by omega
  have HX := Hd (and_one M b 2 m hq hm)
  clear hm
  go_enter Tryz.func58, Tryz.ntmps58
  go_wp2_with fail
  go_ret
  exact ⟨ret_bool HX.out, (Below.refl _ w).alloc (Nat.le_refl _) _⟩
 ·have hq' : (b : Int) / 64 = 3 := by omega
  have HX := Hd (and_one M b 3 m hq hm)
  clear hm
  go_enter Tryz.func58, Tryz.ntmps58
  go_wp2_with fail
  go_ret
  exact ⟨ret_bool HX.out, (Below.refl _ w).alloc (Nat.le_refl _) _⟩
end Go.Proofs.YtknpkndiflodbaaGreatDoor.Tb
namespace Go.Proofs.YtknpkndiflodbaaGreatDoor.Tb
open Go Go.RowKit Go.Proofs Go.Maps Mx
def encB (c : Nat) : List Value := [.int .u8 (c : Int)]
def ofB (l : List Nat) : Nat := l.foldl (fun M b => M ||| 2 ^ b) 0
theorem ofB_take (l : List Nat) (i b : Nat) (h : l[i]? = some b) : ofB (l.take (i + 1)) = ofB (l.take i) ||| 2 ^ b := by
 rw [List.take_add_one, h]; simp [ofB]
theorem of_any (D : Nat -> Prop) (l : List Nat) (hl : ∀ b ∈ l, b < 256) (v : Value) (w : World) (hv : SliceK D encB 1 w v l) :
  Calls Tryz.prog 33 #[v] w fun e w' => e = .returned (setV (ofB l)) /\ Below w.heap.size w w' := by
 obtain ⟨a, c, rfl, hc1, hc2, hk⟩ := hv
 have hlm : l.length <= 9223372036854775807 := by unfold maxLen at hc2; omega
 have HK := Hd (An hk hl)
 clear hk hl
 go_enter Tryz.func33, Tryz.ntmps33
 go_wp2_with fail
 have hB0 : Blk ((w.alloc (.cells #[.int .u64 0, .int .u64 0, .int .u64 0, .int .u64 0] 26)).alloc (.cells #[.int .u64 0, .int .u64 0, .int .u64 0, .int .u64 0] 26)) w.heap.size 26 (setC 0) := (Blk.new_ rfl _ _).alloc _
 have hB1 : Blk ((w.alloc (.cells #[.int .u64 0, .int .u64 0, .int .u64 0, .int .u64 0] 26)).alloc (.cells #[.int .u64 0, .int .u64 0, .int .u64 0, .int .u64 0] 26)) (w.heap.size + 1) 26 (setC 0) := Blk.new_ (by simp) _ _
 have hbl := ((Below.refl w.heap.size w).alloc (Nat.le_refl _) (.cells #[.int .u64 0, .int .u64 0, .int .u64 0, .int .u64 0] 26)).alloc (by simp) (.cells #[.int .u64 0, .int .u64 0, .int .u64 0, .int .u64 0] 26)
 generalize ((w.alloc (.cells #[.int .u64 0, .int .u64 0, .int .u64 0, .int .u64 0] 26)).alloc (.cells #[.int .u64 0, .int .u64 0, .int .u64 0, .int .u64 0] 26)) = W1 at hB0 hB1 hbl ⊢
 go_loopg [4] l.length (fun m v wr => ∃ i : Nat, i <= l.length /\ m = l.length - i /\ v = .int .i64 i /\ Blk wr w.heap.size 26 (setC 0) /\ Blk wr (w.heap.size + 1) 26 (setC (ofB (l.take i))) /\ Below w.heap.size w wr)
 case atStart => exact ⟨0, Nat.zero_le _, rfl, rfl, hB0, hB1, hbl⟩
 case round =>
  obtain ⟨i, hi, hm, rfl, h0, h1, h2⟩ := hrel
  have A := Hd (An hm (An h0 (An h1 h2)))
  obtain ⟨e0, e1, e2, e3, ef⟩ := h0.facts4
  obtain ⟨f0, f1, f2, f3, ff⟩ := h1.facts4
  clear hB0 hB1 hbl hm h0 h1 h2
  by_cases hlt : i < l.length
  ·obtain ⟨b, hb⟩ : ∃ b, l[i]? = some b := ⟨_, List.getElem?_eq_getElem hlt⟩
   obtain ⟨kg, ko, rfl, hkD, hkr⟩ := HK.out.1 (by rintro rfl; simp at hlt)
   have k0 := hkr.cells i _ hb 0 _ rfl
   simp only [Nat.add_zero, Nat.mul_one] at k0
   have k0 := (World.cell?_of_block (A.out.2.2.2.block kg hkr.lt)).trans k0
   have hb256 := HK.out.2 b (List.mem_of_getElem? hb)
   have hi0 : (0 : Int) <= (i : Int) := by omega
   have hi1 : (i : Int) < (l.length : Int) := by omega
   have hb0 : (0 : Int) <= (b : Int) := by omega
   have HB := Hd hb
   have hwr : IntKind.i64.wrap (b : Int) = (b : Int) := IntWalk.i64_in _ (by omega)
   clear hb hkr
   go_wp2_with fail
   go_still_tail 6, (by kernel_rfl)
   change wpList _ _ _ _ _ wr.drew
   have hwi := rwith_any (ofB (l.take i)) b hb256
   have A2 := Hd (An A.out.2.1.drew (An A.out.2.2.1.drew A.out.2.2.2.drew))
   clear hwr e0 e1 e2 e3 ef f0 f1 f2 f3 ff k0
   generalize wr.drew = wd1 at A2 ⊢
   go_wp2_with fail
   refine (hwi _).mono ?_
   rintro e w3 ⟨rfl, hb3⟩
   have h1 := A2.out.2.1.below hb3 A2.out.2.1.lt
   have A3 := Hd (An (A2.out.1.below hb3 A2.out.1.lt) (An h1 (A2.out.2.2.trans (hb3.mono A2.out.2.2.size))))
   obtain ⟨f0, f1, f2, f3, ff⟩ := h1.facts4
   clear hwi h1 hb3
   unfold setV
   go_wp2_with fail
   go_roundg (l.length - (i + 1))
   case measure => have := A.out.1; omega
   case rel =>
    refine ⟨i + 1, by omega, rfl, rfl, ?_, ?_, ?_⟩
    ·exact (((A3.out.1.far (p := ⟨w.heap.size + 1, 0, none⟩) (by simp) _).far (p := ⟨w.heap.size + 1, 1, none⟩) (by simp) _).far (p := ⟨w.heap.size + 1, 2, none⟩) (by simp) _).far (p := ⟨w.heap.size + 1, 3, none⟩) (by simp) _
    ·rw [ofB_take l i b HB.out]
     exact (((A3.out.2.1.set_ 0 _).set_ 1 _).set_ 2 _).set_ 3 _
    ·refine (((A3.out.2.2.setCell ?_ _).setCell ?_ _).setCell ?_ _).setCell ?_ _ <;> simp
  ·obtain rfl : i = l.length := by omega
   clear HK
   go_wp2_with fail
   have hbk := (((A.out.2.1.set_ 0 (.int .u64 (wd (ofB l) 0))).set_ 1 (.int .u64 (wd (ofB l) 1))).set_ 2 (.int .u64 (wd (ofB l) 2))).set_ 3 (.int .u64 (wd (ofB l) 3))
   refine bodyPost_ret (results_cell_row (by rfl) _ _ w.heap.size 26 _ (0, 0) _ (by rfl) hbk Tryz.underlying26 (by rfl) (by kernel_rfl)) rfl ?_
   refine ⟨rfl, (((A.out.2.2.2.setCell ?_ _).setCell ?_ _).setCell ?_ _).setCell ?_ _⟩ <;> simp
def symV (s : Sy) : Value := .agg #[.int .i64 s.kind, .int .u64 (wd s.set 0), .int .u64 (wd s.set 1), .int .u64 (wd s.set 2), .int .u64 (wd s.set 3), .int .i64 s.sort]
theorem set_any (a b : Nat) (ha : a < 256) (hb : b < 256) (w : World) :
    Calls Tryz.prog 9 #[.int .u8 (a : Int), .int .u8 (b : Int)] w fun e w' => e = .returned (symV ⟨0, ofB [a, b], 0⟩) /\ Below w.heap.size w w' := by
  go_enter Tryz.func9, Tryz.ntmps9
  go_wp2_with fail
  have hB0 : Blk ((w.alloc (.cells #[.int .i64 0, .int .u64 0, .int .u64 0, .int .u64 0, .int .u64 0, .int .i64 0] 28)).alloc (.cells #[.int .u8 (a : Int), .int .u8 (b : Int)] 5)) w.heap.size 28 #[.int .i64 0, .int .u64 0, .int .u64 0, .int .u64 0, .int .u64 0, .int .i64 0] := (Blk.new_ rfl _ _).alloc _
  have hB1 : Blk ((w.alloc (.cells #[.int .i64 0, .int .u64 0, .int .u64 0, .int .u64 0, .int .u64 0, .int .i64 0] 28)).alloc (.cells #[.int .u8 (a : Int), .int .u8 (b : Int)] 5)) (w.heap.size + 1) 5 #[.int .u8 (a : Int), .int .u8 (b : Int)] := Blk.new_ (by simp) _ _
  have hbl := ((Below.refl w.heap.size w).alloc (Nat.le_refl _) (.cells #[.int .i64 0, .int .u64 0, .int .u64 0, .int .u64 0, .int .u64 0, .int .i64 0] 28)).alloc (by simp) (.cells #[.int .u8 (a : Int), .int .u8 (b : Int)] 5)
  generalize ((w.alloc (.cells #[.int .i64 0, .int .u64 0, .int .u64 0, .int .u64 0, .int .u64 0, .int .i64 0] 28)).alloc (.cells #[.int .u8 (a : Int), .int .u8 (b : Int)] 5)) = W1 at hB0 hB1 hbl ⊢
  have hsl : SliceK (fun _ => True) encB 1 W1 (.slice (some ⟨w.heap.size + 1, 0, none⟩) 2 2) [a, b] := by
    refine ⟨_, 2, rfl, Nat.le_refl _, by decide, fun _ => ⟨_, _, rfl, trivial, hB1.lt, ?_⟩⟩
    intro i x hx j u hu
    have h0 := hB1.cell 0
    have h1 := hB1.cell 1
    match i, hx with
    | 0, hx =>
      obtain rfl : a = x := by simpa using hx
      match j, hu with
      | 0, hu => obtain rfl : Value.int .u8 (a : Int) = u := by simpa [encB] using hu
                 exact h0
    | 1, hx =>
      obtain rfl : b = x := by simpa using hx
      match j, hu with
      | 0, hu => obtain rfl : Value.int .u8 (b : Int) = u := by simpa [encB] using hu
                 exact h1
  refine (of_any _ [a, b] (by simp [ha, hb]) _ _ hsl).mono ?_
  rintro e w3 ⟨rfl, hb3⟩
  have h0 := hB0.below hb3 hB0.lt
  have A := Hd (An h0 (hbl.trans (hb3.mono hbl.size)))
  obtain ⟨M, hM⟩ : ∃ M, ofB [a, b] = M := ⟨_, rfl⟩
  rw [hM]
  have HM := Hd hM
  have f0 := h0.cell 0
  have f1 := h0.cell 1
  have f2 := h0.cell 2
  have f3 := h0.cell 3
  have f4 := h0.cell 4
  have f5 := h0.cell 5
  have ff := h0.frozen
  simp at f0 f1 f2 f3 f4 f5
  clear hsl hB0 hB1 hbl hb3 h0 hM
  unfold setV
  go_wp2_with fail
  have hbk := (((((A.out.1.set_ 0 (.int .i64 0)).set_ 1 (.int .u64 (wd M 0))).set_ 2 (.int .u64 (wd M 1))).set_ 3 (.int .u64 (wd M 2))).set_ 4 (.int .u64 (wd M 3))).set_ 5 (.int .i64 0)
  refine bodyPost_ret (results_cell_row (by rfl) _ _ w.heap.size 28 _ (0, 0) _ (by rfl) hbk Tryz.underlying28 (by rfl) (by kernel_rfl)) rfl ?_
  rw [HM.out]
  refine ⟨rfl, (((((A.out.2.setCell ?_ _).setCell ?_ _).setCell ?_ _).setCell ?_ _).setCell ?_ _).setCell ?_ _⟩ <;> simp
def sortsB (g : Gr) : Bool := g.sorts.all (fun s => !s.isEmpty && decide (s.length <= 1000)) && decide g.sorts.Nodup && decide (1 <= g.sorts.length) && decide (g.sorts.length <= 1000) && decide (0 <= g.start) && decide (g.start < g.sorts.length)
theorem sortsB_iff (g : Gr) : sortsB g = true ↔ SortsOk g := by
 unfold sortsB
 simp only [Bool.and_eq_true, decide_eq_true_eq, List.all_eq_true, Bool.not_eq_true', List.isEmpty_eq_false_iff]
 constructor
 ·rintro ⟨⟨⟨⟨⟨h1, h2⟩, h3⟩, h4⟩, h5⟩, h6⟩
  exact ⟨h2, h1, h3, h4, h5, h6⟩
 ·rintro ⟨h1, h2, h3, h4, h5, h6⟩
  exact ⟨⟨⟨⟨⟨h2, h1⟩, h3⟩, h4⟩, h5⟩, h6⟩
theorem sortsB_no {g : Gr} {b : Bool} (h : ¬ SortsOk g) (hb : b = false) : b = sortsB g := by
 rw [hb]
 cases h2 : sortsB g with
 | false => rfl
 | true => exact absurd ((sortsB_iff g).1 h2) h
theorem sorts_any (D : Nat -> Prop) (g : Gr) (hN : g.sorts.length <= 2000000) (hS : ∀ s ∈ g.sorts, s.length <= 2000000) (w : World) (sv pv fv lv : Value) (hs : SliceK D encS 1 w sv g.sorts) :
  Calls Tryz.prog 37 #[.agg #[sv, pv, .int .i64 g.start, fv, lv]] w fun e w' => e = .returned (.bool (sortsB g)) /\ Below w.heap.size w w' := by
 obtain ⟨a, c, rfl, hc1, hc2, hk⟩ := hs
 have hmm := @run_makeMap Tryz.prog
 have HK := Hd (An hk hS)
 clear hk hS
 go_enter Tryz.func37, Tryz.ntmps37
 go_wp2_with fail
 have hB1 : Blk ((w.alloc (.cells #[.slice a g.sorts.length c, pv, .int .i64 g.start, fv, lv] 39)).alloc (.map #[] 0)) w.heap.size 39 #[.slice a g.sorts.length c, pv, .int .i64 g.start, fv, lv] := (Blk.new _ _ _).alloc _
 have hM1 : MapV Tryz.prog 9 ((w.alloc (.cells #[.slice a g.sorts.length c, pv, .int .i64 g.start, fv, lv] 39)).alloc (.map #[] 0)) (w.heap.size + 1) 0 (fun _ => none) := by
  have := MapV.made (w.alloc (.cells #[.slice a g.sorts.length c, pv, .int .i64 g.start, fv, lv] 39)) Tryz.prog 9
  simpa using this
 have hb1 : Below w.heap.size w ((w.alloc (.cells #[.slice a g.sorts.length c, pv, .int .i64 g.start, fv, lv] 39)).alloc (.map #[] 0)) := ((Below.refl _ w).alloc (Nat.le_refl _) _).alloc (by simp) _
 have hz1 : w.heap.size + 2 <= ((w.alloc (.cells #[.slice a g.sorts.length c, pv, .int .i64 g.start, fv, lv] 39)).alloc (.map #[] 0)).heap.size := by simp
 generalize (w.alloc (.cells #[.slice a g.sorts.length c, pv, .int .i64 g.start, fv, lv] 39)).alloc (.map #[] 0) = W1 at hB1 hM1 hb1 hz1 ⊢
 have H1 := Hd (An hB1 (An hM1 (An hb1 hz1)))
 clear hB1 hM1 hb1 hz1
 go_loopg [10] g.sorts.length (fun m v10 wr => ∃ (i : Nat) (f : Lit -> Option Value), i <= g.sorts.length /\ m = g.sorts.length - i /\ v10 = .int .i64 i /\ MapV Tryz.prog 9 wr (w.heap.size + 1) i f /\
  (∀ s, f (.string s) = if s ∈ g.sorts.take i then some (.int .i64 1) else none) /\ Below w.heap.size w wr /\ Blk wr w.heap.size 39 #[.slice a g.sorts.length c, pv, .int .i64 g.start, fv, lv] /\ (g.sorts.take i).Nodup /\ ∀ s ∈ g.sorts.take i, s ≠ [] /\ s.length <= 1000)
 case atStart => exact ⟨0, _, by omega, rfl, rfl, H1.out.2.1, (fun s => by simp), H1.out.2.2.1, H1.out.1, by simp, by simp⟩
 case round =>
  obtain ⟨i, f, hi, hm, rfl, hM, hf, hb, hB, hnd, heach⟩ := hrel
  have q0 := hB.cell 0
  have q2 := hB.cell 2
  simp at q0 q2
  by_cases hlt : i < g.sorts.length
  ·obtain ⟨s, hsi⟩ : ∃ s, g.sorts[i]? = some s := ⟨_, List.getElem?_eq_getElem hlt⟩
   obtain ⟨kg, ko, rfl, hkD, hkr⟩ := HK.out.1 (by rintro h; rw [h] at hlt; simp at hlt)
   have k0 := hkr.cells i _ hsi 0 _ rfl
   simp only [Nat.add_zero, Nat.mul_one] at k0
   have k0 := (World.cell?_of_block (hb.block kg hkr.lt)).trans k0
   have hsm := HK.out.2 s (List.mem_of_getElem? hsi)
   have hkey : keyOf Tryz.prog 9 (.string ⟨s.toArray⟩) = some (.string s) := by
    have h1 := WideMaps.keyOf_string_mk (P := Tryz.prog) (k := 9) Tryz.underlying9 (s := ⟨s.toArray⟩) (by unfold maxLen; show s.toArray.size <= _; simp; omega)
    simpa using h1
   obtain ⟨cn, hcn⟩ : ∃ cn : Nat, (if s ∈ g.sorts.take i then some (Value.int .i64 1) else none).getD (.int .i64 0) = .int .i64 (cn : Int) /\ (cn = 0 ∨ cn = 1) /\ (cn = 0 ↔ s ∉ g.sorts.take i) := by
    by_cases h : s ∈ g.sorts.take i
    ·exact ⟨1, by rw [if_pos h]; rfl, .inr rfl, by simp [h]⟩
    ·exact ⟨0, by rw [if_neg h]; rfl, .inl rfl, by simp [h]⟩
   obtain ⟨hcv, hc01, hcm⟩ := hcn
   have hlk : (Instr.lookup 92 (.map (some (w.heap.size + 1))) (.string ⟨s.toArray⟩) false).run Tryz.prog wr = .ok (.int .i64 (cn : Int)) wr := by
    have h1 := hM.lookup (string_keyed Tryz.underlying9) Tryz.underlying92 (Tryz.zeroValue3 wr) hkey
    rw [hf, hcv] at h1
    exact h1
   have hi0 : (0 : Int) <= (i : Int) := by omega
   have hi1 : (i : Int) < (g.sorts.length : Int) := by omega
   have hmx : i < maxLen := by unfold maxLen; omega
   have hcn0 : (0 : Int) <= (cn : Int) := by omega
   have hcn1 : (cn : Int) <= 1 := by omega
   have HMv := Hd hM
   have HR := Hd (An hm (An hf (An hb (An hB (An hsi (An hcm (An hnd heach)))))))
   clear hm hf hb hB hsi hcv hc01 hcm hM hkr q0 q2 hnd heach
   go_wp2_with (at_mapUpdate; refine wpList_mapUpdateV _ rfl _ _ _ 92 rfl 9 3 (string_keyed Tryz.underlying9) Tryz.underlying92 (w.heap.size + 1) i f rfl ?_ hmx _ _ _ rfl rfl hkey ?_; exact HMv.out)
   intro w5 hm5 hg5
   have hlk5 : (Instr.lookup 92 (.map (some (w.heap.size + 1))) (.string ⟨s.toArray⟩) false).run Tryz.prog w5 = .ok (.int .i64 ((cn : Int) + 1)) w5 := by
    have h1 := hm5.lookup (string_keyed Tryz.underlying9) Tryz.underlying92 (Tryz.zeroValue3 w5) hkey
    rw [putV_string, if_pos rfl] at h1
    exact h1
   have hb5 : Below w.heap.size w w5 := HR.out.2.2.1.trans (below_of_grown hg5 HR.out.2.2.1.size (Nat.le_succ _))
   have hB5 := HR.out.2.2.2.1.grown hg5 (by simp)
   have HS := Hd (An hm5 (An hb5 hB5))
   clear hm5 hb5 hB5 hg5 hlk
   cases hse : s.isEmpty with
   | true =>
    have HV := Hd (sortsB_no (g := g) (fun h => (h.each s (List.mem_of_getElem? HR.out.2.2.2.2.1)).1 (List.isEmpty_iff.1 hse)) rfl)
    go_wp2_with fail
    go_ret
    exact ⟨ret_bool HV.out, HS.out.2.1⟩
   | false =>
    by_cases hl : 1000 < s.length
    ·have hd : (1000 : Int) < (s.length : Int) := by omega
     have HV := Hd (sortsB_no (g := g) (fun h => by have := (h.each s (List.mem_of_getElem? HR.out.2.2.2.2.1)).2; omega) rfl)
     clear hl
     go_wp2_with fail
     go_ret
     exact ⟨ret_bool HV.out, HS.out.2.1⟩
    ·have hd : ¬ (1000 : Int) < (s.length : Int) := by omega
     by_cases hcz : cn = 0
     ·subst hcz
      have HD := Hd (An hl (An hse (HR.out.2.2.2.2.2.1.1 rfl)))
      clear hl
      go_wp2_with fail
      go_roundg (g.sorts.length - (i + 1))
      case measure => have := HR.out.1; omega
      case rel =>
       have htk : g.sorts.take (i + 1) = g.sorts.take i ++ [s] := by rw [List.take_add_one, HR.out.2.2.2.2.1]; rfl
       refine ⟨i + 1, _, by omega, rfl, rfl, HS.out.1, fun t => ?_, HS.out.2.1, HS.out.2.2, ?_, fun t ht => ?_⟩
       ·rw [putV_string, htk]
        by_cases e : t = s
        ·rw [if_pos e, if_pos (by simp [e])]; rfl
        ·rw [if_neg e, HR.out.2.1]
         by_cases e2 : t ∈ g.sorts.take i
         ·rw [if_pos e2, if_pos (by simp [e2])]
         ·rw [if_neg e2, if_neg (by simp [e2, e])]
       ·rw [htk, List.nodup_append]
        exact ⟨HR.out.2.2.2.2.2.2.1, by simp, fun a ha b hb => by simp at hb; subst hb; exact fun e => HD.out.2.2 (e ▸ ha)⟩
       ·rw [htk] at ht
        rcases List.mem_append.1 ht with ht | ht
        ·exact HR.out.2.2.2.2.2.2.2 t ht
        ·simp at ht; subst ht
         exact ⟨List.isEmpty_eq_false_iff.1 HD.out.2.1, by have := HD.out.1; omega⟩
     ·have hmem : s ∈ g.sorts.take i := Classical.byContradiction fun h => hcz (HR.out.2.2.2.2.2.1.2 h)
      have HV := Hd (sortsB_no (g := g) (fun h => by
       obtain ⟨j, hj, e⟩ := List.getElem_of_mem hmem
       have hji : j < i := by rw [List.length_take] at hj; omega
       rw [List.getElem_take] at e
       have h1 := List.pairwise_iff_getElem.1 h.nodup j i (by omega) hlt hji
       rw [e, (List.getElem?_eq_some_iff.1 HR.out.2.2.2.2.1).2] at h1
       exact h1 rfl) rfl)
      have hc1 : cn = 1 := by omega
      subst hc1
      clear hmem hl
      go_wp2_with fail
      go_ret
      exact ⟨ret_bool HV.out, HS.out.2.1⟩
  ·obtain rfl : i = g.sorts.length := by omega
   rw [List.take_length] at hnd heach
   have HR := Hd (An hb (An hnd heach))
   clear hb hB hM hf hm hnd heach
   by_cases c1 : 1 <= g.sorts.length
   ·by_cases c2 : g.sorts.length <= 1000
    ·by_cases c3 : 0 <= g.start
     ·by_cases c4 : g.start < (g.sorts.length : Int)
      ·have HV := Hd ((sortsB_iff g).2 ⟨HR.out.2.1, HR.out.2.2, c1, c2, c3, c4⟩)
       go_wp2_with fail
       go_ret
       exact ⟨ret_bool (by rw [HV.out]), HR.out.1⟩
      ·have HV := Hd (sortsB_no (g := g) (fun h => c4 h.start.2) rfl)
       have hd : decide (g.start < (g.sorts.length : Int)) = false := decide_eq_false c4
       clear c4
       go_wp2_with fail
       go_ret
       exact ⟨ret_bool (by rw [<- HV.out]), HR.out.1⟩
     ·have HV := Hd (sortsB_no (g := g) (fun h => c3 h.start.1) rfl)
      have hd : decide (0 <= g.start) = false := decide_eq_false c3
      clear c3
      go_wp2_with fail
      go_ret
      exact ⟨ret_bool (by rw [<- HV.out]), HR.out.1⟩
    ·have HV := Hd (sortsB_no (g := g) (fun h => c2 h.many) rfl)
     have hd : decide ((g.sorts.length : Int) <= 1000) = false := decide_eq_false (by omega)
     clear c2
     go_wp2_with fail
     go_ret
     exact ⟨ret_bool (by rw [<- HV.out]), HR.out.1⟩
   ·have HV := Hd (sortsB_no (g := g) (fun h => c1 h.some_) rfl)
    have hd : decide ((1 : Int) <= (g.sorts.length : Int)) = false := decide_eq_false (by omega)
    clear c1
    go_wp2_with fail
    go_ret
    exact ⟨ret_bool (by rw [<- HV.out]), HR.out.1⟩
end Go.Proofs.YtknpkndiflodbaaGreatDoor.Tb
namespace Go.Proofs.YtknpkndiflodbaaGreatDoor.Tb
open Go Go.RowKit Go.Proofs Mx
open Go.ChangeShapes Go.WideShapes Go.ChangeAt Go.WideMaps Go.WideElems
theorem bulk_part {H : Type} {d : DataW H} {l : List (DataW H)} (h : d ∈ l) : Rows.uptoBulk d <= Rows.uptoBulkAll l := by
 induction l with
 | nil => cases h
 | cons x r ih =>
  simp only [Rows.uptoBulkAll]
  cases List.mem_cons.1 h with
  | inl e => subst e; omega
  | inr e => have := ih e; omega
theorem bulk_pos {H : Type} (d : DataW H) : 1 <= Rows.uptoBulk d := by
 cases d with
 | lit l => cases l <;> simp [Rows.uptoBulk]
 | _ => simp [Rows.uptoBulk]
theorem bulk_len {H : Type} : ∀ l : List (DataW H), l.length <= Rows.uptoBulkAll l
 | [] => by simp
 | x :: r => by
  have := bulk_len r
  have := bulk_pos x
  simp only [Rows.uptoBulkAll, List.length_cons]; omega
theorem spot_none {w : World} {a : Addr} {v : Value} (h : w.cell? a = some v) : a.spot = none := by
 unfold World.cell? at h
 split at h
 ·cases hs : a.spot with
  | none => rfl
  | some s => rw [hs] at h; simp at h
 ·cases h
section
variable {H : Type} {enc : TypeId × Value → H} {w : World} {base : Nat} {sp : Nat → Bool} {held : Bool}
theorem slice_openK {α : Type} [Inhabited α] {en : α -> List Value} {k : Nat} (hk0 : 0 < k) (hk : ∀ x, (en x).length = k) {t E : TypeId} (ht : Tryz.prog.underlying t = some (.slice E)) (hE : Tryz.prog.cellsOf E = k) (P : α -> DataW H -> Prop)
  (elem : ∀ {fuel : Nat} {cs : List Value} {x : DataW H × List MemPlace}, DataW.trod enc Tryz.prog w base sp held fuel E cs = some x -> ∃ a, cs = en a /\ P a x.1)
  {fuel : Nat} {cs : List Value} {x : DataW H × List MemPlace} (h : DataW.trod enc Tryz.prog w base sp held fuel t cs = some x) :
  ∃ (v : Value) (l : List α), cs = [v] /\ SliceK (fun _ => True) en k w v l /\ l.length <= Rows.uptoBulk x.1 /\ ∀ a ∈ l, ∃ d, P a d /\ Rows.uptoBulk d <= Rows.uptoBulk x.1 := by
 rcases Go.Deep.open_slice ht h with ⟨rfl, rfl⟩ | ⟨a, len, cap, m, n, D, Pl, rfl, _, hl, hm, hmm, rfl, hx⟩
 ·exact ⟨_, [], rfl, SliceK.nil, by simp, fun a ha => by cases ha⟩
 ·have hlm : len <= m := by rw [hmm]; split <;> omega
  have each : ∀ i, i < len -> ∃ q : α, P q (D i) /\ ∀ j u, (en q)[j]? = some u -> w.cell? ((a.add (i * k)).add j) = some u := by
   intro i hi
   obtain ⟨cs', h1, h2⟩ := hx i (by omega)
   rw [hE] at h1
   obtain ⟨_, hlen, hcell⟩ := World.cells?_some h1
   obtain ⟨q, rfl, hq⟩ := elem h2
   refine ⟨q, hq, fun j u hu => ?_⟩
   rw [hcell j (by rw [<- hk q]; exact (List.getElem?_eq_some_iff.1 hu).1), hu]
  obtain ⟨Q, hQ⟩ := Go.Deep.choose_lt each
  have hll : ((List.range len).map Q).length = len := by simp
  have hbD : ∀ i, i < len -> Rows.uptoBulk (D i) <= Rows.uptoBulk (DataW.slice ((List.range len).map D) ((List.range (m - len)).map fun j => D (len + j))) := by
   intro i hi
   have := bulk_part (List.mem_map_of_mem (f := D) (show i ∈ List.range len by simpa using hi))
   simp only [Rows.uptoBulk]
   omega
  refine ⟨_, (List.range len).map Q, rfl, ⟨some a, cap, by rw [hll], by rw [hll]; exact hl, hm, fun hne => ?_⟩, ?_, ?_⟩
  ·have hpos : 0 < len := by
    rcases Nat.eq_zero_or_pos len with h0 | h0
    ·subst h0; exact absurd rfl hne
    ·exact h0
   have h0 := (hQ 0 hpos).2 0 ((en (Q 0))[0]'(by rw [hk]; exact hk0)) (List.getElem?_eq_getElem _)
   have e0 : (a.add (0 * k)).add 0 = a := by rw [Nat.zero_mul]; simp [Addr.add]
   rw [e0] at h0
   have hs := spot_none h0
   obtain ⟨g, o, s⟩ := a
   simp only at hs
   subst hs
   refine ⟨g, o, rfl, trivial, World.block_lt_of_cell? _ _ h0, fun i y hy j u hu => ?_⟩
   obtain ⟨hi, hi2⟩ := List.getElem?_eq_some_iff.1 hy
   simp at hi hi2
   subst hi2
   have := (hQ i hi).2 j u hu
   rw [addr_add, addr_add] at this
   exact this
  ·rw [hll]
   have := bulk_len ((List.range len).map D)
   simp only [Rows.uptoBulk]
   simp at this
   omega
  ·intro q hq
   obtain ⟨j, hj, rfl⟩ := List.mem_map.1 hq
   have hjl : j < len := by simpa using hj
   exact ⟨D j, (hQ j hjl).1, hbD j hjl⟩
theorem cwSym : Tryz.prog.cellsOf 28 = 6 := by kernel_rfl
theorem cwKind : Tryz.prog.cellsOf 23 = 1 := by kernel_rfl
theorem cwInt : Tryz.prog.cellsOf 3 = 1 := by kernel_rfl
theorem cwStr : Tryz.prog.cellsOf 9 = 1 := by kernel_rfl
theorem cwSet : Tryz.prog.cellsOf 26 = 4 := by kernel_rfl
theorem cwU64 : Tryz.prog.cellsOf 24 = 1 := by kernel_rfl
theorem cwProd : Tryz.prog.cellsOf 34 = 7 := by kernel_rfl
theorem cwRole : Tryz.prog.cellsOf 32 = 1 := by kernel_rfl
theorem cwBool : Tryz.prog.cellsOf 4 = 1 := by kernel_rfl
theorem cwSyms : Tryz.prog.cellsOf 31 = 1 := by kernel_rfl
theorem cwStrs : Tryz.prog.cellsOf 29 = 1 := by kernel_rfl
theorem cwProds : Tryz.prog.cellsOf 35 = 1 := by kernel_rfl
theorem cwForbid : Tryz.prog.cellsOf 147 = 3 := by kernel_rfl
theorem cwFollow : Tryz.prog.cellsOf 150 = 5 := by kernel_rfl
theorem cwForbids : Tryz.prog.cellsOf 36 = 1 := by kernel_rfl
theorem cwFollows : Tryz.prog.cellsOf 37 = 1 := by kernel_rfl
theorem cwGram : Tryz.prog.cellsOf 39 = 5 := by kernel_rfl
theorem wd_of (s0 s1 s2 s3 : Int) (h0 : 0 <= s0 /\ s0 < 18446744073709551616) (h1 : 0 <= s1 /\ s1 < 18446744073709551616) (h2 : 0 <= s2 /\ s2 < 18446744073709551616) (h3 : 0 <= s3 /\ s3 < 18446744073709551616) :
  ∃ M : Nat, M < 2 ^ 256 /\ wd M 0 = s0 /\ wd M 1 = s1 /\ wd M 2 = s2 /\ wd M 3 = s3 := by
 obtain ⟨a0, rfl⟩ := Int.eq_ofNat_of_zero_le h0.1
 obtain ⟨a1, rfl⟩ := Int.eq_ofNat_of_zero_le h1.1
 obtain ⟨a2, rfl⟩ := Int.eq_ofNat_of_zero_le h2.1
 obtain ⟨a3, rfl⟩ := Int.eq_ofNat_of_zero_le h3.1
 refine ⟨a0 + 18446744073709551616 * (a1 + 18446744073709551616 * (a2 + 18446744073709551616 * a3)), ?_, ?_, ?_, ?_, ?_⟩
 ·have : (2 : Nat) ^ 256 = 18446744073709551616 * (18446744073709551616 * (18446744073709551616 * 18446744073709551616)) := by decide
  omega
 ·unfold wd
  rw [show (2 : Nat) ^ (64 * 0) = 1 by decide]
  omega
 ·unfold wd
  rw [show (2 : Nat) ^ (64 * 1) = 18446744073709551616 by decide]
  omega
 ·unfold wd
  rw [show (2 : Nat) ^ (64 * 2) = 18446744073709551616 * 18446744073709551616 by decide, <- Nat.div_div_eq_div_mul]
  omega
 ·unfold wd
  rw [show (2 : Nat) ^ (64 * 3) = 18446744073709551616 * (18446744073709551616 * 18446744073709551616) by decide, <- Nat.div_div_eq_div_mul, <- Nat.div_div_eq_div_mul]
  omega
theorem u64_wf {s : Int} (h : (Lit.int IntKind.u64 s).wf = true) : 0 <= s /\ s < 18446744073709551616 := by
 simp [Lit.wf] at h
 have h1 : IntKind.u64.min = 0 := rfl
 have h2 : IntKind.u64.max = 18446744073709551615 := rfl
 omega
def I64 (s : Int) : Prop := -9223372036854775808 <= s /\ s <= 9223372036854775807
theorem i64_wf {s : Int} (h : (Lit.int IntKind.i64 s).wf = true) : I64 s := by
 simp [Lit.wf] at h
 have h1 : IntKind.i64.min = -9223372036854775808 := rfl
 have h2 : IntKind.i64.max = 9223372036854775807 := rfl
 unfold I64
 omega
theorem set_open {fuel : Nat} {c0 c1 c2 c3 : Value} {x : DataW H × List MemPlace} (h : DataW.trod enc Tryz.prog w base sp held fuel 26 [c0, c1, c2, c3] = some x) : ∃ M : Nat, M < 2 ^ 256 /\ [c0, c1, c2, c3] = encSet M := by
 obtain ⟨ys, m, _, _, _, hyl, hy⟩ := DataW.trod_array Tryz.underlying26 h
 have a0 := hy 0 (by decide)
 have a1 := hy 1 (by decide)
 have a2 := hy 2 (by decide)
 have a3 := hy 3 (by decide)
 simp only [cwU64, Nat.zero_mul, Nat.one_mul, Nat.mul_one, List.drop_succ_cons, List.drop_zero, List.take_succ_cons, List.take_zero] at a0 a1 a2 a3
 rw [List.getElem?_eq_getElem (by rw [hyl]; decide)] at a0 a1 a2 a3
 obtain ⟨s0, f0, _, w0⟩ := DataW.trod_int Tryz.underlying24 a0
 obtain ⟨s1, f1, _, w1⟩ := DataW.trod_int Tryz.underlying24 a1
 obtain ⟨s2, f2, _, w2⟩ := DataW.trod_int Tryz.underlying24 a2
 obtain ⟨s3, f3, _, w3⟩ := DataW.trod_int Tryz.underlying24 a3
 obtain ⟨M, hM, m0, m1, m2, m3⟩ := wd_of s0 s1 s2 s3 (u64_wf w0) (u64_wf w1) (u64_wf w2) (u64_wf w3)
 refine ⟨M, hM, ?_⟩
 injection f0 with f0
 injection f1 with f1
 injection f2 with f2
 injection f3 with f3
 subst f0; subst f1; subst f2; subst f3
 rw [<- m0, <- m1, <- m2, <- m3]
 rfl
def SymOk (s : Sy) : Prop := s.set < 2 ^ 256 /\ I64 s.kind /\ I64 s.sort
theorem sym_open {fuel : Nat} {cs : List Value} {x : DataW H × List MemPlace} (h : DataW.trod enc Tryz.prog w base sp held fuel 28 cs = some x) : ∃ s : Sy, cs = encSy s /\ SymOk s := by
 obtain ⟨xs, k, _, _, hl, hxl, hf⟩ := DataW.trod_struct Tryz.underlying28 h
 rw [cwSym] at hl
 obtain ⟨c0, c1, c2, c3, c4, c5, rfl⟩ : ∃ c0 c1 c2 c3 c4 c5, cs = [c0, c1, c2, c3, c4, c5] := by
  match cs, hl with
  | [c0, c1, c2, c3, c4, c5], _ => exact ⟨_, _, _, _, _, _, rfl⟩
 have g0 := hf 0 _ rfl
 have g1 := hf 1 _ rfl
 have g2 := hf 2 _ rfl
 clear hf h
 simp only [List.getElem_toArray, List.getElem_cons_succ, List.getElem_cons_zero, cwKind, cwInt, cwSet, List.drop_succ_cons, List.drop_zero, List.take_succ_cons, List.take_zero] at g0 g1 g2
 rw [List.getElem?_eq_getElem (by rw [hxl]; decide)] at g0 g1 g2
 obtain ⟨k0, e0, _, w0⟩ := DataW.trod_int Tryz.underlying23 g0
 obtain ⟨k2, e2, _, w2⟩ := DataW.trod_int Tryz.underlying3 g2
 obtain ⟨M, hM, e1⟩ := set_open g1
 injection e0 with e0
 injection e2 with e2
 simp only [encSet, List.cons.injEq, and_true] at e1
 obtain ⟨rfl, rfl, rfl, rfl⟩ := e1
 subst e0; subst e2
 exact ⟨⟨k0, M, k2⟩, rfl, hM, i64_wf w0, i64_wf w2⟩
structure ProdOk (w : World) (B : Nat) (x : Value × Pr) : Prop where
 right : SliceK (fun _ => True) encSy 6 w x.1 x.2.right
 len : x.2.right.length <= B
 cons : x.2.cons.length <= B
 sym : ∀ s ∈ x.2.right, SymOk s
 left : I64 x.2.left
 role : I64 x.2.role
 made : I64 x.2.made
theorem prod_open {fuel : Nat} {cs : List Value} {x : DataW H × List MemPlace} (h : DataW.trod enc Tryz.prog w base sp held fuel 34 cs = some x) : ∃ a : Value × Pr, cs = encPr a /\ ProdOk w (Rows.uptoBulk x.1) a := by
 haveI : Inhabited Sy := ⟨⟨0, 0, 0⟩⟩
 obtain ⟨xs, k, _, rfl, hl, hxl, hf⟩ := DataW.trod_struct Tryz.underlying34 h
 rw [cwProd] at hl
 obtain ⟨c0, c1, c2, c3, c4, c5, c6, rfl⟩ : ∃ c0 c1 c2 c3 c4 c5 c6, cs = [c0, c1, c2, c3, c4, c5, c6] := by
  match cs, hl with
  | [c0, c1, c2, c3, c4, c5, c6], _ => exact ⟨_, _, _, _, _, _, _, rfl⟩
 have g0 := hf 0 _ rfl
 have g1 := hf 1 _ rfl
 have g2 := hf 2 _ rfl
 have g3 := hf 3 _ rfl
 have g4 := hf 4 _ rfl
 have g5 := hf 5 _ rfl
 have g6 := hf 6 _ rfl
 clear hf h
 simp only [List.getElem_toArray, List.getElem_cons_succ, List.getElem_cons_zero, cwRole, cwBool, cwStr, cwSyms, cwInt, cwSet, List.drop_succ_cons, List.drop_zero, List.take_succ_cons, List.take_zero] at g0 g1 g2 g3 g4 g5 g6
 have hm : ∀ i (hi : i < xs.length), Rows.uptoBulk xs[i].1 <= Rows.uptoBulkAll (xs.map (·.1)) := fun i hi => bulk_part (List.mem_map_of_mem (List.getElem_mem hi))
 have hx7 : xs.length = 7 := hxl
 rw [List.getElem?_eq_getElem (by rw [hx7]; decide)] at g0 g1 g2 g3 g4 g5 g6
 obtain ⟨k0, e0, _, w0⟩ := DataW.trod_int Tryz.underlying3 g0
 obtain ⟨v1, l1, e1, s1, b1, p1⟩ := slice_openK (k := 6) (by decide) encSy_len Tryz.underlying31 cwSym (fun s _ => SymOk s) (fun h => sym_open h) g1
 obtain ⟨k2, e2, x2, _⟩ := DataW.trod_string Tryz.underlying9 g2
 obtain ⟨k3, e3, _, w3⟩ := DataW.trod_int Tryz.underlying32 g3
 obtain ⟨k4, e4, _⟩ := DataW.trod_bool Tryz.underlying4 g4
 obtain ⟨k5, e5, _⟩ := DataW.trod_bool Tryz.underlying4 g5
 obtain ⟨k6, e6, _, w6⟩ := DataW.trod_int Tryz.underlying3 g6
 have b2 := hm 2 (by rw [hx7]; decide)
 rw [x2] at b2
 have b1' := hm 1 (by rw [hx7]; decide)
 simp only [List.cons.injEq, and_true] at e0 e1 e2 e3 e4 e5 e6
 subst e0 e1 e2 e3 e4 e5 e6
 simp only [Rows.uptoBulk] at b2
 refine ⟨(c1, ⟨k0, l1, k2.data.toList, k3, k4, k5, k6⟩), rfl, s1, ?_, ?_, fun s hs => ?_, i64_wf w0, i64_wf w3, i64_wf w6⟩
 ·simp only [Rows.uptoBulk]
  exact Nat.le_trans b1 (Nat.le_trans b1' (Nat.le_succ _))
 ·simp only [Rows.uptoBulk]
  omega
 ·obtain ⟨d, hd, _⟩ := p1 s hs
  exact hd
def encFb (f : Int × Int × Int) : List Value := [.int .i64 f.1, .int .i64 f.2.1, .int .i64 f.2.2]
theorem encFb_len (f : Int × Int × Int) : (encFb f).length = 3 := rfl
def encFo (f : Int × Nat) : List Value := .int .i64 f.1 :: encSet f.2
theorem encFo_len (f : Int × Nat) : (encFo f).length = 5 := rfl
def FbOk (f : Int × Int × Int) : Prop := I64 f.1 /\ I64 f.2.1 /\ I64 f.2.2
def FoOk (f : Int × Nat) : Prop := I64 f.1 /\ f.2 < 2 ^ 256
theorem fb_open {fuel : Nat} {cs : List Value} {x : DataW H × List MemPlace} (h : DataW.trod enc Tryz.prog w base sp held fuel 147 cs = some x) : ∃ s, cs = encFb s /\ FbOk s := by
 obtain ⟨xs, k, _, _, hl, hxl, hf⟩ := DataW.trod_struct Tryz.underlying147 h
 rw [cwForbid] at hl
 obtain ⟨c0, c1, c2, rfl⟩ : ∃ c0 c1 c2, cs = [c0, c1, c2] := by
  match cs, hl with
  | [c0, c1, c2], _ => exact ⟨_, _, _, rfl⟩
 have g0 := hf 0 _ rfl
 have g1 := hf 1 _ rfl
 have g2 := hf 2 _ rfl
 clear hf h
 simp only [List.getElem_toArray, List.getElem_cons_succ, List.getElem_cons_zero, cwInt, List.drop_succ_cons, List.drop_zero, List.take_succ_cons, List.take_zero] at g0 g1 g2
 rw [List.getElem?_eq_getElem (by rw [hxl]; decide)] at g0 g1 g2
 obtain ⟨k0, e0, _, w0⟩ := DataW.trod_int Tryz.underlying3 g0
 obtain ⟨k1, e1, _, w1⟩ := DataW.trod_int Tryz.underlying3 g1
 obtain ⟨k2, e2, _, w2⟩ := DataW.trod_int Tryz.underlying3 g2
 simp only [List.cons.injEq, and_true] at e0 e1 e2
 subst e0 e1 e2
 exact ⟨(k0, k1, k2), rfl, i64_wf w0, i64_wf w1, i64_wf w2⟩
theorem fo_open {fuel : Nat} {cs : List Value} {x : DataW H × List MemPlace} (h : DataW.trod enc Tryz.prog w base sp held fuel 150 cs = some x) : ∃ s, cs = encFo s /\ FoOk s := by
 obtain ⟨xs, k, _, _, hl, hxl, hf⟩ := DataW.trod_struct Tryz.underlying150 h
 rw [cwFollow] at hl
 obtain ⟨c0, c1, c2, c3, c4, rfl⟩ : ∃ c0 c1 c2 c3 c4, cs = [c0, c1, c2, c3, c4] := by
  match cs, hl with
  | [c0, c1, c2, c3, c4], _ => exact ⟨_, _, _, _, _, rfl⟩
 have g0 := hf 0 _ rfl
 have g1 := hf 1 _ rfl
 clear hf h
 simp only [List.getElem_toArray, List.getElem_cons_succ, List.getElem_cons_zero, cwInt, cwSet, List.drop_succ_cons, List.drop_zero, List.take_succ_cons, List.take_zero] at g0 g1
 rw [List.getElem?_eq_getElem (by rw [hxl]; decide)] at g0 g1
 obtain ⟨k0, e0, _, w0⟩ := DataW.trod_int Tryz.underlying3 g0
 obtain ⟨M, hM, e1⟩ := set_open g1
 simp only [List.cons.injEq, and_true] at e0
 subst e0
 exact ⟨(k0, M), by rw [e1]; rfl, i64_wf w0, hM⟩
theorem str_open {fuel : Nat} {cs : List Value} {x : DataW H × List MemPlace} (h : DataW.trod enc Tryz.prog w base sp held fuel 9 cs = some x) : ∃ s : List UInt8, cs = encS s /\ s.length <= Rows.uptoBulk x.1 := by
 obtain ⟨k2, e2, x2, _⟩ := DataW.trod_string Tryz.underlying9 h
 subst e2 x2
 exact ⟨k2.data.toList, rfl, by simp only [Rows.uptoBulk]; omega⟩
structure GramAt (w : World) (N : Nat) (g : Gr) (sv pv fv lv : Value) : Prop where
 sorts : SliceK (fun _ => True) encS 1 w sv g.sorts
 prods : ∃ l, SliceK (fun _ => True) encPr 7 w pv l /\ (∀ x ∈ l, ProdOk w N x) /\ l.map (·.2) = g.prods
 forbid : SliceK (fun _ => True) encFb 3 w fv g.forbid
 follow : SliceK (fun _ => True) encFo 5 w lv g.follow
 nsorts : g.sorts.length <= N
 str : ∀ s ∈ g.sorts, s.length <= N
 nprods : g.prods.length <= N
 nforbid : g.forbid.length <= N
 nfollow : g.follow.length <= N
 fb : ∀ f ∈ g.forbid, FbOk f
 fo : ∀ f ∈ g.follow, FoOk f
 start : I64 g.start
theorem gram_open {fuel : Nat} {cs : List Value} {x : DataW H × List MemPlace} (h : DataW.trod enc Tryz.prog w base sp held fuel 39 cs = some x) : ∃ g sv pv fv lv, cs = [sv, pv, .int .i64 g.start, fv, lv] /\ GramAt w (Rows.uptoBulk x.1) g sv pv fv lv := by
 haveI : Inhabited Pr := ⟨⟨0, [], [], 0, false, false, 0⟩⟩
 obtain ⟨xs, k, _, rfl, hl, hxl, hf⟩ := DataW.trod_struct Tryz.underlying39 h
 rw [cwGram] at hl
 obtain ⟨c0, c1, c2, c3, c4, rfl⟩ : ∃ c0 c1 c2 c3 c4, cs = [c0, c1, c2, c3, c4] := by
  match cs, hl with
  | [c0, c1, c2, c3, c4], _ => exact ⟨_, _, _, _, _, rfl⟩
 have g0 := hf 0 _ rfl
 have g1 := hf 1 _ rfl
 have g2 := hf 2 _ rfl
 have g3 := hf 3 _ rfl
 have g4 := hf 4 _ rfl
 clear hf h
 simp only [List.getElem_toArray, List.getElem_cons_succ, List.getElem_cons_zero, cwStrs, cwProds, cwForbids, cwFollows, cwInt, List.drop_succ_cons, List.drop_zero, List.take_succ_cons, List.take_zero] at g0 g1 g2 g3 g4
 have hm : ∀ i (hi : i < xs.length), Rows.uptoBulk xs[i].1 <= Rows.uptoBulkAll (xs.map (·.1)) := fun i hi => bulk_part (List.mem_map_of_mem (List.getElem_mem hi))
 have hx5 : xs.length = 5 := hxl
 rw [List.getElem?_eq_getElem (by rw [hx5]; decide)] at g0 g1 g2 g3 g4
 obtain ⟨v0, l0, e0, s0, b0, p0⟩ := slice_openK (k := 1) (by decide) encS_len Tryz.underlying29 cwStr (fun s d => s.length <= Rows.uptoBulk d) (fun h => str_open h) g0
 obtain ⟨v1, l1, e1, s1, b1, p1⟩ := slice_openK (k := 7) (by decide) encPr_len Tryz.underlying35 cwProd (fun s d => ProdOk w (Rows.uptoBulk d) s) (fun h => prod_open h) g1
 obtain ⟨k2, e2, _, w2⟩ := DataW.trod_int Tryz.underlying3 g2
 obtain ⟨v3, l3, e3, s3, b3, p3⟩ := slice_openK (k := 3) (by decide) encFb_len Tryz.underlying36 cwForbid (fun s _ => FbOk s) (fun h => fb_open h) g3
 obtain ⟨v4, l4, e4, s4, b4, p4⟩ := slice_openK (k := 5) (by decide) encFo_len Tryz.underlying37 cwFollow (fun s _ => FoOk s) (fun h => fo_open h) g4
 have q0 := hm 0 (by rw [hx5]; decide)
 have q1 := hm 1 (by rw [hx5]; decide)
 have q3 := hm 3 (by rw [hx5]; decide)
 have q4 := hm 4 (by rw [hx5]; decide)
 simp only [List.cons.injEq, and_true] at e0 e1 e2 e3 e4
 subst e0 e1 e2 e3 e4
 simp only [Rows.uptoBulk]
 refine ⟨⟨l0, l1.map (·.2), k2, l3, l4⟩, c0, c1, c3, c4, rfl, s0, ⟨l1, s1, fun x hx => ?_, rfl⟩, s3, s4, by show l0.length <= _; omega, fun s hs => ?_, by show (l1.map (·.2)).length <= _; rw [List.length_map]; omega, by show l3.length <= _; omega, by show l4.length <= _; omega, fun f hf => ?_, fun f hf => ?_, i64_wf w2⟩
 ·obtain ⟨d, hd, hd2⟩ := p1 x hx
  exact ⟨hd.right, by have := hd.len; omega, by have := hd.cons; omega, hd.sym, hd.left, hd.role, hd.made⟩
 ·obtain ⟨d, hd, hd2⟩ := p0 s hs
  omega
 ·obtain ⟨d, hd, _⟩ := p3 f hf
  exact hd
 ·obtain ⟨d, hd, _⟩ := p4 f hf
  exact hd
end
end Go.Proofs.YtknpkndiflodbaaGreatDoor.Tb
