/- Walks and plain laws that the last text stands on: TbSetsA, TbCheckA. -/
import Derived.Test.YtknpkndiflodbaaGreatDoorTs2
import Derived.Laws.Rows
import Derived.RegionTactic
import Derived.Test.YtknpkndiflodbaaGreatDoorTs5
import Derived.Test.YtknpkndiflodbaaGreatDoorTs4
import Derived.Deep.RegionHeld3
import Derived.Deep.DeepCutAuto
set_option linter.unusedVariables false
set_option linter.unusedSimpArgs false
set_option maxRecDepth 100000
set_option maxHeartbeats 16000000
namespace Go.Proofs.YtknpkndiflodbaaGreatDoor.Tb
open Go Go.RowKit Go.Proofs Mx
theorem wd_range (M j : Nat) : 0 <= wd M j /\ wd M j <= 18446744073709551615 := by unfold wd; omega
theorem ofInt_nat (a : Nat) (ha : a < 2 ^ 64) : BitVec.ofInt 64 (a : Int) = BitVec.ofNat 64 a := by
 apply BitVec.eq_of_toNat_eq
 simp
theorem two64 : (18446744073709551616 : Nat) = 2 ^ 64 := by decide
theorem wd_lt (M j : Nat) : M / 2 ^ (64 * j) % 18446744073709551616 < 2 ^ 64 := by omega
theorem wd_bits (M j i : Nat) : (M / 2 ^ (64 * j) % 18446744073709551616).testBit i = (decide (i < 64) && M.testBit (64 * j + i)) := by
 rw [two64, Nat.testBit_mod_two_pow, Nat.testBit_div_two_pow, Nat.add_comm i]
theorem and_nat (a b : Nat) (ha : a < 2 ^ 64) (hb : b < 2 ^ 64) : bits .and .u64 (a : Int) (b : Int) = ((a &&& b : Nat) : Int) := by
 have hab : a &&& b < 2 ^ 64 := Nat.lt_of_le_of_lt Nat.and_le_left ha
 show IntKind.u64.wrap ((BitVec.ofInt 64 (a : Int) &&& BitVec.ofInt 64 (b : Int)).toNat : Int) = _
 rw [ofInt_nat a ha, ofInt_nat b hb, BitVec.toNat_and, BitVec.toNat_ofNat, BitVec.toNat_ofNat, Nat.mod_eq_of_lt ha, Nat.mod_eq_of_lt hb, IntKind.wrap_u64]
 omega
theorem or_nat (a b : Nat) (ha : a < 2 ^ 64) (hb : b < 2 ^ 64) : bits .or .u64 (a : Int) (b : Int) = ((a ||| b : Nat) : Int) := by
 have hab : a ||| b < 2 ^ 64 := Nat.or_lt_two_pow ha hb
 show IntKind.u64.wrap ((BitVec.ofInt 64 (a : Int) ||| BitVec.ofInt 64 (b : Int)).toNat : Int) = _
 rw [ofInt_nat a ha, ofInt_nat b hb, BitVec.toNat_or, BitVec.toNat_ofNat, BitVec.toNat_ofNat, Nat.mod_eq_of_lt ha, Nat.mod_eq_of_lt hb, IntKind.wrap_u64]
 omega
theorem xor_nat (a b : Nat) (ha : a < 2 ^ 64) (hb : b < 2 ^ 64) : bits .xor .u64 (a : Int) (b : Int) = ((a ^^^ b : Nat) : Int) := by
 have hab : a ^^^ b < 2 ^ 64 := Nat.xor_lt_two_pow ha hb
 show IntKind.u64.wrap ((BitVec.ofInt 64 (a : Int) ^^^ BitVec.ofInt 64 (b : Int)).toNat : Int) = _
 rw [ofInt_nat a ha, ofInt_nat b hb, BitVec.toNat_xor, BitVec.toNat_ofNat, BitVec.toNat_ofNat, Nat.mod_eq_of_lt ha, Nat.mod_eq_of_lt hb, IntKind.wrap_u64]
 omega
theorem wd_and (M N j : Nat) : bits .and .u64 (wd M j) (wd N j) = wd (M &&& N) j := by
 unfold wd
 rw [and_nat _ _ (wd_lt M j) (wd_lt N j)]
 congr 1
 apply Nat.eq_of_testBit_eq
 intro i
 simp only [Nat.testBit_and, wd_bits]
 cases decide (i < 64) <;> simp
theorem wd_or (M N j : Nat) : bits .or .u64 (wd M j) (wd N j) = wd (M ||| N) j := by
 unfold wd
 rw [or_nat _ _ (wd_lt M j) (wd_lt N j)]
 congr 1
 apply Nat.eq_of_testBit_eq
 intro i
 simp only [Nat.testBit_or, wd_bits]
 cases decide (i < 64) <;> simp
theorem andNot_nat (a b : Nat) (ha : a < 2 ^ 64) (hb : b < 2 ^ 64) : bits .andNot .u64 (a : Int) (b : Int) = ((a &&& (18446744073709551615 ^^^ b) : Nat) : Int) := by
 have hab : a &&& (18446744073709551615 ^^^ b) < 2 ^ 64 := Nat.lt_of_le_of_lt Nat.and_le_left ha
 show IntKind.u64.wrap ((BitVec.ofInt 64 (a : Int) &&& ~~~ BitVec.ofInt 64 (b : Int)).toNat : Int) = _
 rw [ofInt_nat a ha, ofInt_nat b hb, BitVec.not_def, BitVec.toNat_and, BitVec.toNat_xor, BitVec.toNat_allOnes, BitVec.toNat_ofNat, BitVec.toNat_ofNat, Nat.mod_eq_of_lt ha, Nat.mod_eq_of_lt hb, IntKind.wrap_u64]
 have : (2 : Nat) ^ 64 - 1 = 18446744073709551615 := by decide
 rw [this]
 omega
def fullM : Nat := 2 ^ 256 - 1
def notM (M : Nat) : Nat := fullM ^^^ M
theorem wd_full (j : Nat) (hj : j < 4) : wd fullM j = IntKind.u64.max := by
 rcases (show j = 0 ∨ j = 1 ∨ j = 2 ∨ j = 3 by omega) with rfl | rfl | rfl | rfl <;> decide
theorem wd_not (M j : Nat) (hj : j < 4) : bits .xor .u64 IntKind.u64.max (wd M j) = wd (notM M) j := by
 rw [<- wd_full j hj]
 unfold wd
 rw [xor_nat _ _ (wd_lt _ j) (wd_lt M j)]
 congr 1
 apply Nat.eq_of_testBit_eq
 intro i
 simp only [notM, Nat.testBit_xor, wd_bits]
 cases decide (i < 64) <;> simp
theorem wd_andNot (M N j : Nat) (hj : j < 4) : bits .andNot .u64 (wd M j) (wd N j) = wd (M &&& notM N) j := by
 rw [<- wd_and, <- wd_not N j hj, <- wd_full j hj]
 unfold wd
 rw [andNot_nat _ _ (wd_lt M j) (wd_lt N j), xor_nat _ _ (wd_lt _ j) (wd_lt N j), and_nat _ _ (wd_lt M j) (Nat.xor_lt_two_pow (wd_lt _ j) (wd_lt N j))]
 congr 2
 rcases (show j = 0 ∨ j = 1 ∨ j = 2 ∨ j = 3 by omega) with rfl | rfl | rfl | rfl <;> rfl
def mix (M R i : Nat) : Array Value := #[.int .u64 (if 0 < i then wd R 0 else wd M 0), .int .u64 (if 1 < i then wd R 1 else wd M 1), .int .u64 (if 2 < i then wd R 2 else wd M 2), .int .u64 (if 3 < i then wd R 3 else wd M 3)]
theorem meet_any (M N : Nat) (w : World) :
  Calls Tryz.prog 90 #[setV M, setV N] w fun e w' => e = .returned (setV (M &&& N)) /\ Below w.heap.size w w' := by
 obtain ⟨R, hR⟩ : ∃ R, M &&& N = R := ⟨_, rfl⟩
 rw [hR]
 have l0 := wd_and M N 0
 have l1 := wd_and M N 1
 have l2 := wd_and M N 2
 have l3 := wd_and M N 3
 rw [hR] at l0 l1 l2 l3
 clear hR
 unfold setV
 go_enter Tryz.func90, Tryz.ntmps90
 go_wp2_with fail
 have hB0 : Blk (((w.alloc (.cells #[.int .u64 (wd M 0), .int .u64 (wd M 1), .int .u64 (wd M 2), .int .u64 (wd M 3)] 26)).alloc (.cells #[.int .u64 (wd N 0), .int .u64 (wd N 1), .int .u64 (wd N 2), .int .u64 (wd N 3)] 26)).alloc (.cells #[.int .u64 0, .int .u64 0, .int .u64 0, .int .u64 0] 26)) w.heap.size 26 (mix M R 0) := ((Blk.new_ rfl _ _).alloc _).alloc _
 have hB1 : Blk (((w.alloc (.cells #[.int .u64 (wd M 0), .int .u64 (wd M 1), .int .u64 (wd M 2), .int .u64 (wd M 3)] 26)).alloc (.cells #[.int .u64 (wd N 0), .int .u64 (wd N 1), .int .u64 (wd N 2), .int .u64 (wd N 3)] 26)).alloc (.cells #[.int .u64 0, .int .u64 0, .int .u64 0, .int .u64 0] 26)) (w.heap.size + 1) 26 #[.int .u64 (wd N 0), .int .u64 (wd N 1), .int .u64 (wd N 2), .int .u64 (wd N 3)] := (Blk.new_ (by simp) _ _).alloc _
 have hB2 : Blk (((w.alloc (.cells #[.int .u64 (wd M 0), .int .u64 (wd M 1), .int .u64 (wd M 2), .int .u64 (wd M 3)] 26)).alloc (.cells #[.int .u64 (wd N 0), .int .u64 (wd N 1), .int .u64 (wd N 2), .int .u64 (wd N 3)] 26)).alloc (.cells #[.int .u64 0, .int .u64 0, .int .u64 0, .int .u64 0] 26)) (w.heap.size + 2) 26 #[.int .u64 0, .int .u64 0, .int .u64 0, .int .u64 0] := Blk.new_ (by simp) _ _
 have hbl := (((Below.refl w.heap.size w).alloc (Nat.le_refl _) (.cells #[.int .u64 (wd M 0), .int .u64 (wd M 1), .int .u64 (wd M 2), .int .u64 (wd M 3)] 26)).alloc (by simp) (.cells #[.int .u64 (wd N 0), .int .u64 (wd N 1), .int .u64 (wd N 2), .int .u64 (wd N 3)] 26)).alloc (by simp; omega) (.cells #[.int .u64 0, .int .u64 0, .int .u64 0, .int .u64 0] 26)
 generalize (((w.alloc (.cells #[.int .u64 (wd M 0), .int .u64 (wd M 1), .int .u64 (wd M 2), .int .u64 (wd M 3)] 26)).alloc (.cells #[.int .u64 (wd N 0), .int .u64 (wd N 1), .int .u64 (wd N 2), .int .u64 (wd N 3)] 26)).alloc (.cells #[.int .u64 0, .int .u64 0, .int .u64 0, .int .u64 0] 26)) = w2 at hB0 hB1 hB2 hbl ⊢
 go_loopg [6] 4 (fun m v wr => ∃ i : Nat, i <= 4 /\ m = 4 - i /\ v = .int .i64 i /\ Blk wr w.heap.size 26 (mix M R i) /\ Blk wr (w.heap.size + 1) 26 #[.int .u64 (wd N 0), .int .u64 (wd N 1), .int .u64 (wd N 2), .int .u64 (wd N 3)] /\
  Blk wr (w.heap.size + 2) 26 #[.int .u64 0, .int .u64 0, .int .u64 0, .int .u64 0] /\ Below w.heap.size w wr)
 case atStart => exact ⟨0, by omega, rfl, rfl, hB0, hB1, hB2, hbl⟩
 case round =>
  obtain ⟨i, hi, hm, rfl, h0, h1, h2, h3⟩ := hrel
  have A := Hd (An hm (An h0 (An h1 (An h2 h3))))
  obtain ⟨e0, e1, e2, e3, ef⟩ := h0.facts4
  obtain ⟨f0, f1, f2, f3, ff⟩ := h1.facts4
  obtain ⟨g0, g1, g2, g3, gf⟩ := h2.facts4
  clear hB0 hB1 hB2 hbl hm h0 h1 h2 h3
  rcases (show i = 0 ∨ i = 1 ∨ i = 2 ∨ i = 3 ∨ i = 4 by omega) with rfl | rfl | rfl | rfl | rfl
  ·simp only [Nat.lt_irrefl, if_true, Nat.reduceLT, if_false] at e0 e1 e2 e3
   go_wp2_with fail
   apply via
   ·intro K
    go_region
    all_goals (try go_simp)
    all_goals exact K.out
   go_wp2_with fail
   go_roundg 3
   case measure => have := A.out.1; omega
   case rel => exact ⟨1, by omega, rfl, rfl, A.out.2.1.set_ 0 _, A.out.2.2.1.far (p := ⟨w.heap.size, 0, none⟩) (by simp) _, A.out.2.2.2.1.far (p := ⟨w.heap.size, 0, none⟩) (by simp) _, (A.out.2.2.2.2.setCell (p := ⟨w.heap.size, 0, none⟩) (Nat.le_refl _) _).drew⟩
  ·simp only [Nat.lt_irrefl, if_true, Nat.reduceLT, if_false] at e0 e1 e2 e3
   go_wp2_with fail
   apply via
   ·intro K
    go_region
    all_goals (try go_simp)
    all_goals exact K.out
   go_wp2_with fail
   go_roundg 2
   case measure => have := A.out.1; omega
   case rel => exact ⟨2, by omega, rfl, rfl, A.out.2.1.set_ 1 _, A.out.2.2.1.far (p := ⟨w.heap.size, 1, none⟩) (by simp) _, A.out.2.2.2.1.far (p := ⟨w.heap.size, 1, none⟩) (by simp) _, (A.out.2.2.2.2.setCell (p := ⟨w.heap.size, 1, none⟩) (Nat.le_refl _) _).drew⟩
  ·simp only [Nat.lt_irrefl, if_true, Nat.reduceLT, if_false] at e0 e1 e2 e3
   go_wp2_with fail
   apply via
   ·intro K
    go_region
    all_goals (try go_simp)
    all_goals exact K.out
   go_wp2_with fail
   go_roundg 1
   case measure => have := A.out.1; omega
   case rel => exact ⟨3, by omega, rfl, rfl, A.out.2.1.set_ 2 _, A.out.2.2.1.far (p := ⟨w.heap.size, 2, none⟩) (by simp) _, A.out.2.2.2.1.far (p := ⟨w.heap.size, 2, none⟩) (by simp) _, (A.out.2.2.2.2.setCell (p := ⟨w.heap.size, 2, none⟩) (Nat.le_refl _) _).drew⟩
  ·simp only [Nat.lt_irrefl, if_true, Nat.reduceLT, if_false] at e0 e1 e2 e3
   go_wp2_with fail
   apply via
   ·intro K
    go_region
    all_goals (try go_simp)
    all_goals exact K.out
   go_wp2_with fail
   go_roundg 0
   case measure => have := A.out.1; omega
   case rel => exact ⟨4, by omega, rfl, rfl, A.out.2.1.set_ 3 _, A.out.2.2.1.far (p := ⟨w.heap.size, 3, none⟩) (by simp) _, A.out.2.2.2.1.far (p := ⟨w.heap.size, 3, none⟩) (by simp) _, (A.out.2.2.2.2.setCell (p := ⟨w.heap.size, 3, none⟩) (Nat.le_refl _) _).drew⟩
  ·simp only [Nat.lt_irrefl, if_true, Nat.reduceLT, if_false] at e0 e1 e2 e3
   go_wp2_with fail
   have hbk := (((A.out.2.2.2.1.set_ 0 (.int .u64 (wd R 0))).set_ 1 (.int .u64 (wd R 1))).set_ 2 (.int .u64 (wd R 2))).set_ 3 (.int .u64 (wd R 3))
   refine bodyPost_ret (results_cell_row (by rfl) _ _ (w.heap.size + 2) 26 _ (0, 0) _ (by rfl) hbk Tryz.underlying26 (by rfl) (by kernel_rfl)) rfl ?_
   refine ⟨rfl, (((A.out.2.2.2.2.setCell ?_ _).setCell ?_ _).setCell ?_ _).setCell ?_ _⟩ <;> (simp; try omega)
theorem without_any (M N : Nat) (w : World) :
  Calls Tryz.prog 91 #[setV M, setV N] w fun e w' => e = .returned (setV (M &&& notM N)) /\ Below w.heap.size w w' := by
 obtain ⟨R, hR⟩ : ∃ R, M &&& notM N = R := ⟨_, rfl⟩
 rw [hR]
 have l0 := wd_andNot M N 0 (by decide)
 have l1 := wd_andNot M N 1 (by decide)
 have l2 := wd_andNot M N 2 (by decide)
 have l3 := wd_andNot M N 3 (by decide)
 rw [hR] at l0 l1 l2 l3
 clear hR
 unfold setV
 go_enter Tryz.func91, Tryz.ntmps91
 go_wp2_with fail
 have hB0 : Blk (((w.alloc (.cells #[.int .u64 (wd M 0), .int .u64 (wd M 1), .int .u64 (wd M 2), .int .u64 (wd M 3)] 26)).alloc (.cells #[.int .u64 (wd N 0), .int .u64 (wd N 1), .int .u64 (wd N 2), .int .u64 (wd N 3)] 26)).alloc (.cells #[.int .u64 0, .int .u64 0, .int .u64 0, .int .u64 0] 26)) w.heap.size 26 (mix M R 0) := ((Blk.new_ rfl _ _).alloc _).alloc _
 have hB1 : Blk (((w.alloc (.cells #[.int .u64 (wd M 0), .int .u64 (wd M 1), .int .u64 (wd M 2), .int .u64 (wd M 3)] 26)).alloc (.cells #[.int .u64 (wd N 0), .int .u64 (wd N 1), .int .u64 (wd N 2), .int .u64 (wd N 3)] 26)).alloc (.cells #[.int .u64 0, .int .u64 0, .int .u64 0, .int .u64 0] 26)) (w.heap.size + 1) 26 #[.int .u64 (wd N 0), .int .u64 (wd N 1), .int .u64 (wd N 2), .int .u64 (wd N 3)] := (Blk.new_ (by simp) _ _).alloc _
 have hB2 : Blk (((w.alloc (.cells #[.int .u64 (wd M 0), .int .u64 (wd M 1), .int .u64 (wd M 2), .int .u64 (wd M 3)] 26)).alloc (.cells #[.int .u64 (wd N 0), .int .u64 (wd N 1), .int .u64 (wd N 2), .int .u64 (wd N 3)] 26)).alloc (.cells #[.int .u64 0, .int .u64 0, .int .u64 0, .int .u64 0] 26)) (w.heap.size + 2) 26 #[.int .u64 0, .int .u64 0, .int .u64 0, .int .u64 0] := Blk.new_ (by simp) _ _
 have hbl := (((Below.refl w.heap.size w).alloc (Nat.le_refl _) (.cells #[.int .u64 (wd M 0), .int .u64 (wd M 1), .int .u64 (wd M 2), .int .u64 (wd M 3)] 26)).alloc (by simp) (.cells #[.int .u64 (wd N 0), .int .u64 (wd N 1), .int .u64 (wd N 2), .int .u64 (wd N 3)] 26)).alloc (by simp; omega) (.cells #[.int .u64 0, .int .u64 0, .int .u64 0, .int .u64 0] 26)
 generalize (((w.alloc (.cells #[.int .u64 (wd M 0), .int .u64 (wd M 1), .int .u64 (wd M 2), .int .u64 (wd M 3)] 26)).alloc (.cells #[.int .u64 (wd N 0), .int .u64 (wd N 1), .int .u64 (wd N 2), .int .u64 (wd N 3)] 26)).alloc (.cells #[.int .u64 0, .int .u64 0, .int .u64 0, .int .u64 0] 26)) = w2 at hB0 hB1 hB2 hbl ⊢
 go_loopg [6] 4 (fun m v wr => ∃ i : Nat, i <= 4 /\ m = 4 - i /\ v = .int .i64 i /\ Blk wr w.heap.size 26 (mix M R i) /\ Blk wr (w.heap.size + 1) 26 #[.int .u64 (wd N 0), .int .u64 (wd N 1), .int .u64 (wd N 2), .int .u64 (wd N 3)] /\
  Blk wr (w.heap.size + 2) 26 #[.int .u64 0, .int .u64 0, .int .u64 0, .int .u64 0] /\ Below w.heap.size w wr)
 case atStart => exact ⟨0, by omega, rfl, rfl, hB0, hB1, hB2, hbl⟩
 case round =>
  obtain ⟨i, hi, hm, rfl, h0, h1, h2, h3⟩ := hrel
  have A := Hd (An hm (An h0 (An h1 (An h2 h3))))
  obtain ⟨e0, e1, e2, e3, ef⟩ := h0.facts4
  obtain ⟨f0, f1, f2, f3, ff⟩ := h1.facts4
  obtain ⟨g0, g1, g2, g3, gf⟩ := h2.facts4
  clear hB0 hB1 hB2 hbl hm h0 h1 h2 h3
  rcases (show i = 0 ∨ i = 1 ∨ i = 2 ∨ i = 3 ∨ i = 4 by omega) with rfl | rfl | rfl | rfl | rfl
  ·simp only [Nat.lt_irrefl, if_true, Nat.reduceLT, if_false] at e0 e1 e2 e3
   go_wp2_with fail
   apply via
   ·intro K
    go_region
    all_goals (try go_simp)
    all_goals exact K.out
   go_wp2_with fail
   go_roundg 3
   case measure => have := A.out.1; omega
   case rel => exact ⟨1, by omega, rfl, rfl, A.out.2.1.set_ 0 _, A.out.2.2.1.far (p := ⟨w.heap.size, 0, none⟩) (by simp) _, A.out.2.2.2.1.far (p := ⟨w.heap.size, 0, none⟩) (by simp) _, (A.out.2.2.2.2.setCell (p := ⟨w.heap.size, 0, none⟩) (Nat.le_refl _) _).drew⟩
  ·simp only [Nat.lt_irrefl, if_true, Nat.reduceLT, if_false] at e0 e1 e2 e3
   go_wp2_with fail
   apply via
   ·intro K
    go_region
    all_goals (try go_simp)
    all_goals exact K.out
   go_wp2_with fail
   go_roundg 2
   case measure => have := A.out.1; omega
   case rel => exact ⟨2, by omega, rfl, rfl, A.out.2.1.set_ 1 _, A.out.2.2.1.far (p := ⟨w.heap.size, 1, none⟩) (by simp) _, A.out.2.2.2.1.far (p := ⟨w.heap.size, 1, none⟩) (by simp) _, (A.out.2.2.2.2.setCell (p := ⟨w.heap.size, 1, none⟩) (Nat.le_refl _) _).drew⟩
  ·simp only [Nat.lt_irrefl, if_true, Nat.reduceLT, if_false] at e0 e1 e2 e3
   go_wp2_with fail
   apply via
   ·intro K
    go_region
    all_goals (try go_simp)
    all_goals exact K.out
   go_wp2_with fail
   go_roundg 1
   case measure => have := A.out.1; omega
   case rel => exact ⟨3, by omega, rfl, rfl, A.out.2.1.set_ 2 _, A.out.2.2.1.far (p := ⟨w.heap.size, 2, none⟩) (by simp) _, A.out.2.2.2.1.far (p := ⟨w.heap.size, 2, none⟩) (by simp) _, (A.out.2.2.2.2.setCell (p := ⟨w.heap.size, 2, none⟩) (Nat.le_refl _) _).drew⟩
  ·simp only [Nat.lt_irrefl, if_true, Nat.reduceLT, if_false] at e0 e1 e2 e3
   go_wp2_with fail
   apply via
   ·intro K
    go_region
    all_goals (try go_simp)
    all_goals exact K.out
   go_wp2_with fail
   go_roundg 0
   case measure => have := A.out.1; omega
   case rel => exact ⟨4, by omega, rfl, rfl, A.out.2.1.set_ 3 _, A.out.2.2.1.far (p := ⟨w.heap.size, 3, none⟩) (by simp) _, A.out.2.2.2.1.far (p := ⟨w.heap.size, 3, none⟩) (by simp) _, (A.out.2.2.2.2.setCell (p := ⟨w.heap.size, 3, none⟩) (Nat.le_refl _) _).drew⟩
  ·simp only [Nat.lt_irrefl, if_true, Nat.reduceLT, if_false] at e0 e1 e2 e3
   go_wp2_with fail
   have hbk := (((A.out.2.2.2.1.set_ 0 (.int .u64 (wd R 0))).set_ 1 (.int .u64 (wd R 1))).set_ 2 (.int .u64 (wd R 2))).set_ 3 (.int .u64 (wd R 3))
   refine bodyPost_ret (results_cell_row (by rfl) _ _ (w.heap.size + 2) 26 _ (0, 0) _ (by rfl) hbk Tryz.underlying26 (by rfl) (by kernel_rfl)) rfl ?_
   refine ⟨rfl, (((A.out.2.2.2.2.setCell ?_ _).setCell ?_ _).setCell ?_ _).setCell ?_ _⟩ <;> (simp; try omega)
@[local go_sem] theorem eqSet (a b c d e f g h : Int) (w : World) : (Op.equalIn 10000 26 (.agg #[.int .u64 a, .int .u64 b, .int .u64 c, .int .u64 d]) (.agg #[.int .u64 e, .int .u64 f, .int .u64 g, .int .u64 h])).run Tryz.prog w = .ok (decide (a = e /\ b = f /\ c = g /\ d = h)) w := by
 have u24 := Tryz.underlying24
 have a24 := Tryz.isAgg24
 have z24 := Tryz.sizeOf24
 rw [show (10000 : Nat) = 9999 + 1 from rfl, Op.equalIn]
 simp only [Sem.run_bind, run_underlying Tryz.underlying26, Result.andThen_ok]
 simp only [Std.Legacy.Range.forIn_eq_forIn_range', Std.Legacy.Range.size, Nat.sub_zero, Nat.add_sub_cancel, Nat.div_one, List.range'_succ, List.range'_zero, List.forIn_cons, List.forIn_nil]
 go_simp
 by_cases h1 : a = e <;> by_cases h2 : b = f <;> by_cases h3 : c = g <;> by_cases h4 : d = h <;> simp [h1, h2, h3, h4]
@[local go_sem] theorem guardSet : Tryz.prog.eqGuardType Tryz.prog.depth 26 = false := by kernel_rfl
theorem wd_zero_iff (M : Nat) (h : M < 2 ^ 256) : (wd M 0 = 0 /\ wd M 1 = 0 /\ wd M 2 = 0 /\ wd M 3 = 0) ↔ M = 0 := by
 constructor
 ·rintro ⟨h0, h1, h2, h3⟩
  apply Nat.eq_of_testBit_eq
  intro i
  rw [Nat.zero_testBit]
  rcases Nat.lt_or_ge i 256 with hi | hi
  ·have hz : ∀ j, wd M j = 0 -> M / 2 ^ (64 * j) % 18446744073709551616 = 0 := fun j hj => by unfold wd at hj; omega
   have hb : ∀ j, wd M j = 0 -> ∀ t, t < 64 -> M.testBit (64 * j + t) = false := fun j hj t ht => by
    have := wd_bits M j t
    rw [hz j hj, Nat.zero_testBit] at this
    simpa [ht] using this.symm
   rcases (show i < 64 ∨ (64 <= i /\ i < 128) ∨ (128 <= i /\ i < 192) ∨ (192 <= i /\ i < 256) by omega) with hh | hh | hh | hh
   ·have := hb 0 h0 i hh; rwa [Nat.mul_zero, Nat.zero_add] at this
   ·have := hb 1 h1 (i - 64) (by omega); rwa [show 64 * 1 + (i - 64) = i by omega] at this
   ·have := hb 2 h2 (i - 128) (by omega); rwa [show 64 * 2 + (i - 128) = i by omega] at this
   ·have := hb 3 h3 (i - 192) (by omega); rwa [show 64 * 3 + (i - 192) = i by omega] at this
  ·exact Nat.testBit_lt_two_pow (Nat.lt_of_lt_of_le h (Nat.pow_le_pow_right (by decide) hi))
 ·rintro rfl
  simp [wd]
theorem within_any (M N : Nat) (hM : M < 2 ^ 256) (w : World) :
  Calls Tryz.prog 70 #[setV M, setV N] w fun e w' => e = .returned (.bool (decide (M &&& notM N = 0))) /\ Below w.heap.size w w' := by
 have hw := without_any M N
 have hR : M &&& notM N < 2 ^ 256 := Nat.lt_of_le_of_lt Nat.and_le_left hM
 have hz := wd_zero_iff _ hR
 generalize M &&& notM N = R at *
 have HZ := Hd hz
 clear hz
 unfold setV at hw ⊢
 go_enter Tryz.func70, Tryz.ntmps70
 go_wp2_with fail
 refine (hw _).mono ?_
 rintro e w1 ⟨rfl, hb⟩
 have hb1 : Below w.heap.size w w1 := (((Below.refl w.heap.size w).alloc (Nat.le_refl _) _).alloc (by simp) _).trans (hb.mono (by simp; omega))
 have H1 := Hd hb1
 clear hb hb1 hw
 by_cases hr : R = 0
 ·obtain ⟨z0, z1, z2, z3⟩ := HZ.out.2 hr
  subst hr
  go_wp2_with fail
  go_ret
  exact ⟨by simp [z0, z1, z2, z3], H1.out⟩
 ·have hn : decide (wd R 0 = 0 /\ wd R 1 = 0 /\ wd R 2 = 0 /\ wd R 3 = 0) = false := by rw [decide_eq_false_iff_not]; exact fun h => hr (HZ.out.1 h)
  have HR := Hd hr
  clear hr
  go_wp2_with fail
  all_goals (try go_ret)
  all_goals exact ⟨by simp [HR.out, hn], H1.out⟩
def notI (x : Int) : Int := bits .xor .u64 IntKind.u64.max x
def nw (b : Bool) (x : Int) : Value := .int .u64 (if b then notI x else x)
def nrow (a b c d : Int) (i : Nat) : Array Value := #[nw (decide (0 < i)) a, nw (decide (1 < i)) b, nw (decide (2 < i)) c, nw (decide (3 < i)) d]
theorem not_any (a b c d : Int) (ha : 0 <= a /\ a <= 18446744073709551615) (hb : 0 <= b /\ b <= 18446744073709551615) (hc : 0 <= c /\ c <= 18446744073709551615) (hd : 0 <= d /\ d <= 18446744073709551615) (w : World) :
  Calls Tryz.prog 111 #[.agg #[.int .u64 a, .int .u64 b, .int .u64 c, .int .u64 d]] w fun e w' => e = .returned (.agg (nrow a b c d 4)) /\ Below w.heap.size w w' := by
 obtain ⟨a0, a1⟩ := ha
 obtain ⟨b0, b1⟩ := hb
 obtain ⟨c0, c1⟩ := hc
 obtain ⟨d0, d1⟩ := hd
 go_enter Tryz.func111, Tryz.ntmps111
 go_wp2_with fail
 have hB0 : Blk ((w.alloc (.cells #[.int .u64 a, .int .u64 b, .int .u64 c, .int .u64 d] 26)).alloc (.cells #[.int .u64 0, .int .u64 0, .int .u64 0, .int .u64 0] 26)) w.heap.size 26 (nrow a b c d 0) :=
  (Blk.new_ rfl _ _).alloc _
 have hB1 : Blk ((w.alloc (.cells #[.int .u64 a, .int .u64 b, .int .u64 c, .int .u64 d] 26)).alloc (.cells #[.int .u64 0, .int .u64 0, .int .u64 0, .int .u64 0] 26)) (w.heap.size + 1) 26 #[.int .u64 0, .int .u64 0, .int .u64 0, .int .u64 0] :=
  Blk.new_ (by simp) _ _
 have hbl := ((Below.refl w.heap.size w).alloc (Nat.le_refl _) (.cells #[.int .u64 a, .int .u64 b, .int .u64 c, .int .u64 d] 26)).alloc (by simp) (.cells #[.int .u64 0, .int .u64 0, .int .u64 0, .int .u64 0] 26)
 generalize ((w.alloc (.cells #[.int .u64 a, .int .u64 b, .int .u64 c, .int .u64 d] 26)).alloc (.cells #[.int .u64 0, .int .u64 0, .int .u64 0, .int .u64 0] 26)) = w2 at hB0 hB1 hbl ⊢
 go_loopg [4] 4 (fun m v wr => ∃ i : Nat, i <= 4 /\ m = 4 - i /\ v = .int .i64 i /\ Blk wr w.heap.size 26 (nrow a b c d i) /\ Blk wr (w.heap.size + 1) 26 #[.int .u64 0, .int .u64 0, .int .u64 0, .int .u64 0] /\ Below w.heap.size w wr)
 case atStart => exact ⟨0, by omega, rfl, rfl, hB0, hB1, hbl⟩
 case round =>
  obtain ⟨i, hi, hm, rfl, h0, h1, h2⟩ := hrel
  have A := Hd (An hm (An h0 (An h1 h2)))
  obtain ⟨e0, e1, e2, e3, ef⟩ := h0.facts4
  obtain ⟨f0, f1, f2, f3, ff⟩ := h1.facts4
  clear hB0 hB1 hbl hm h0 h1 h2
  rcases (show i = 0 ∨ i = 1 ∨ i = 2 ∨ i = 3 ∨ i = 4 by omega) with rfl | rfl | rfl | rfl | rfl
  ·simp only [nw, Nat.lt_irrefl, decide_false, decide_true, if_true, Nat.reduceLT, Bool.false_eq_true, if_false] at e0 e1 e2 e3
   go_wp2_with fail
   go_roundg 3
   case measure => have := A.out.1; omega
   case rel => exact ⟨1, by omega, rfl, rfl, A.out.2.1.set_ 0 _, A.out.2.2.1.far (p := ⟨w.heap.size, 0, none⟩) (by simp) _, A.out.2.2.2.setCell (p := ⟨w.heap.size, 0, none⟩) (Nat.le_refl _) _⟩
  ·simp only [nw, Nat.lt_irrefl, decide_false, decide_true, if_true, Nat.reduceLT, Bool.false_eq_true, if_false] at e0 e1 e2 e3
   go_wp2_with fail
   go_roundg 2
   case measure => have := A.out.1; omega
   case rel => exact ⟨2, by omega, rfl, rfl, A.out.2.1.set_ 1 _, A.out.2.2.1.far (p := ⟨w.heap.size, 1, none⟩) (by simp) _, A.out.2.2.2.setCell (p := ⟨w.heap.size, 1, none⟩) (Nat.le_refl _) _⟩
  ·simp only [nw, Nat.lt_irrefl, decide_false, decide_true, if_true, Nat.reduceLT, Bool.false_eq_true, if_false] at e0 e1 e2 e3
   go_wp2_with fail
   go_roundg 1
   case measure => have := A.out.1; omega
   case rel => exact ⟨3, by omega, rfl, rfl, A.out.2.1.set_ 2 _, A.out.2.2.1.far (p := ⟨w.heap.size, 2, none⟩) (by simp) _, A.out.2.2.2.setCell (p := ⟨w.heap.size, 2, none⟩) (Nat.le_refl _) _⟩
  ·simp only [nw, Nat.lt_irrefl, decide_false, decide_true, if_true, Nat.reduceLT, Bool.false_eq_true, if_false] at e0 e1 e2 e3
   go_wp2_with fail
   go_roundg 0
   case measure => have := A.out.1; omega
   case rel => exact ⟨4, by omega, rfl, rfl, A.out.2.1.set_ 3 _, A.out.2.2.1.far (p := ⟨w.heap.size, 3, none⟩) (by simp) _, A.out.2.2.2.setCell (p := ⟨w.heap.size, 3, none⟩) (Nat.le_refl _) _⟩
  ·simp only [nw, Nat.lt_irrefl, decide_false, decide_true, if_true, Nat.reduceLT, Bool.false_eq_true, if_false] at e0 e1 e2 e3
   go_wp2_with fail
   have hbk := (((A.out.2.2.1.set_ 0 (.int .u64 (notI a))).set_ 1 (.int .u64 (notI b))).set_ 2 (.int .u64 (notI c))).set_ 3 (.int .u64 (notI d))
   refine bodyPost_ret (results_cell_row (by rfl) _ _ (w.heap.size + 1) 26 _ (0, 0) _ (by rfl) hbk Tryz.underlying26 (by rfl) (by kernel_rfl)) rfl ?_
   refine ⟨rfl, (((A.out.2.2.2.setCell ?_ _).setCell ?_ _).setCell ?_ _).setCell ?_ _⟩ <;> simp
theorem all_any (w : World) : Calls Tryz.prog 89 #[] w fun e w' => e = .returned (setV fullM) /\ Below w.heap.size w w' := by
 have hn := fun W => not_any 0 0 0 0 (by decide) (by decide) (by decide) (by decide) W
 have e : (Value.agg (nrow 0 0 0 0 4)) = setV fullM := by
  show (Value.agg #[.int .u64 (notI 0), .int .u64 (notI 0), .int .u64 (notI 0), .int .u64 (notI 0)]) = setV fullM
  unfold setV
  rw [wd_full 0 (by decide), wd_full 1 (by decide), wd_full 2 (by decide), wd_full 3 (by decide)]
  have h0 : notI 0 = IntKind.u64.max := by decide
  rw [h0]
 rw [e] at hn
 obtain ⟨a, b, c, d, hfm⟩ : ∃ a b c d : Int, setV fullM = .agg #[.int .u64 a, .int .u64 b, .int .u64 c, .int .u64 d] := ⟨_, _, _, _, rfl⟩
 rw [hfm] at hn ⊢
 clear hfm e
 go_enter Tryz.func89, Tryz.ntmps89
 go_wp2_with fail
 refine (hn _).mono ?_
 rintro e w1 ⟨rfl, hb⟩
 have hB := (Blk.new w 26 #[.int .u64 0, .int .u64 0, .int .u64 0, .int .u64 0]).below hb (by simp)
 obtain ⟨c0, c1, c2, c3, cf⟩ := hB.facts4
 have hb1 : Below w.heap.size w w1 := ((Below.refl w.heap.size w).alloc (Nat.le_refl _) _).trans (hb.mono (by simp))
 have H := Hd (An hB hb1)
 clear hb hb1 hB hn
 go_wp2_with fail
 have hbk := (((H.out.1.set_ 0 (.int .u64 a)).set_ 1 (.int .u64 b)).set_ 2 (.int .u64 c)).set_ 3 (.int .u64 d)
 refine bodyPost_ret (results_cell_row (by rfl) _ _ w.heap.size 26 _ (0, 0) _ (by rfl) hbk Tryz.underlying26 (by rfl) (by kernel_rfl)) rfl ?_
 refine ⟨rfl, (((H.out.2.setCell ?_ _).setCell ?_ _).setCell ?_ _).setCell ?_ _⟩ <;> (simp; try omega)
end Go.Proofs.YtknpkndiflodbaaGreatDoor.Tb
namespace Go.Proofs.YtknpkndiflodbaaGreatDoor.Tb
open Go Go.RowKit Go.Proofs Mx
theorem foldl_or_snoc (l : List Nat) (x : Nat) : (l ++ [x]).foldl (· ||| ·) 0 = l.foldl (· ||| ·) 0 ||| x := by simp
theorem union_any (D : Nat -> Prop) (l : List Nat) (v : Value) (w : World) (hv : SliceK D encSet 4 w v l) :
  Calls Tryz.prog 71 #[v] w fun e w' => e = .returned (setV (l.foldl (· ||| ·) 0)) /\ Below w.heap.size w w' := by
 obtain ⟨a, c, rfl, hc1, hc2, hk⟩ := hv
 have hmx : l.length <= 9223372036854775807 := by unfold maxLen at hc2; omega
 have HK := Hd hk
 clear hk
 go_enter Tryz.func71, Tryz.ntmps71
 go_wp2_with fail
 have hB0 : Blk ((w.alloc (.cells #[.int .u64 0, .int .u64 0, .int .u64 0, .int .u64 0] 26)).alloc (.cells #[.int .u64 0, .int .u64 0, .int .u64 0, .int .u64 0] 26)) w.heap.size 26 #[.int .u64 0, .int .u64 0, .int .u64 0, .int .u64 0] := (Blk.new_ rfl _ _).alloc _
 have hz0 : setC ((l.take 0).foldl (· ||| ·) 0) = #[.int .u64 0, .int .u64 0, .int .u64 0, .int .u64 0] := by
  rw [List.take_zero]
  show setC 0 = #[.int .u64 0, .int .u64 0, .int .u64 0, .int .u64 0]
  unfold setC wd
  simp
 have hB1 : Blk ((w.alloc (.cells #[.int .u64 0, .int .u64 0, .int .u64 0, .int .u64 0] 26)).alloc (.cells #[.int .u64 0, .int .u64 0, .int .u64 0, .int .u64 0] 26)) (w.heap.size + 1) 26 (setC ((l.take 0).foldl (· ||| ·) 0)) := by rw [hz0]; exact Blk.new_ (by simp) _ _
 have hbl := ((Below.refl w.heap.size w).alloc (Nat.le_refl _) (.cells #[.int .u64 0, .int .u64 0, .int .u64 0, .int .u64 0] 26)).alloc (by simp) (.cells #[.int .u64 0, .int .u64 0, .int .u64 0, .int .u64 0] 26)
 generalize ((w.alloc (.cells #[.int .u64 0, .int .u64 0, .int .u64 0, .int .u64 0] 26)).alloc (.cells #[.int .u64 0, .int .u64 0, .int .u64 0, .int .u64 0] 26)) = w2 at hB0 hB1 hbl ⊢
 go_loopg [9] l.length (fun m v wr => ∃ i : Nat, i <= l.length /\ m = l.length - i /\ v = .int .i64 i /\ Blk wr w.heap.size 26 #[.int .u64 0, .int .u64 0, .int .u64 0, .int .u64 0] /\ Blk wr (w.heap.size + 1) 26 (setC ((l.take i).foldl (· ||| ·) 0)) /\ Below w.heap.size w wr)
 case atStart => exact ⟨0, by omega, rfl, rfl, hB0, hB1, hbl⟩
 case round =>
  obtain ⟨i, hi, hm, rfl, h0, h1, h2⟩ := hrel
  clear hB0 hB1 hbl hz0
  by_cases hlt : i < l.length
  ·obtain ⟨x, hx⟩ : ∃ x, l[i]? = some x := ⟨_, List.getElem?_eq_getElem hlt⟩
   obtain ⟨kg, ko, rfl, _, hkr⟩ := HK.out (by rintro rfl; simp at hlt)
   have k0 := hkr.cells i _ hx 0 _ rfl
   have k1 := hkr.cells i _ hx 1 _ rfl
   have k2 := hkr.cells i _ hx 2 _ rfl
   have k3 := hkr.cells i _ hx 3 _ rfl
   simp only [Nat.add_zero] at k0
   have k0 := (h2.cell (p := ⟨kg, ko + i * 4, none⟩) (World.block_lt_of_cell? _ _ k0)).trans k0
   have k1 := (h2.cell (p := ⟨kg, ko + i * 4 + 1, none⟩) (World.block_lt_of_cell? _ _ k1)).trans k1
   have k2 := (h2.cell (p := ⟨kg, ko + i * 4 + 2, none⟩) (World.block_lt_of_cell? _ _ k2)).trans k2
   have k3 := (h2.cell (p := ⟨kg, ko + i * 4 + 3, none⟩) (World.block_lt_of_cell? _ _ k3)).trans k3
   have hnext : (l.take (i + 1)).foldl (· ||| ·) 0 = (l.take i).foldl (· ||| ·) 0 ||| x := by
    rw [List.take_add_one, hx]; exact foldl_or_snoc _ _
   obtain ⟨M, hM⟩ : ∃ M, (l.take i).foldl (· ||| ·) 0 = M := ⟨_, rfl⟩
   rw [hM] at h1 hnext
   obtain ⟨R, hR⟩ : ∃ R, M ||| x = R := ⟨_, rfl⟩
   have l0 := wd_or M x 0
   have l1 := wd_or M x 1
   have l2 := wd_or M x 2
   have l3 := wd_or M x 3
   rw [hR] at l0 l1 l2 l3 hnext
   have hi0 : (0 : Int) <= (i : Int) := by omega
   have hi1 : (i : Int) < (l.length : Int) := by omega
   have A := Hd (An hm (An h0 (An h1 (An h2 (An hnext hR)))))

   clear hm h0 h1 h2 hnext hM hR hx hkr
   go_wp2_with fail
   have g0 : Blk (wr.alloc (.cells #[.int .u64 (wd x 0), .int .u64 (wd x 1), .int .u64 (wd x 2), .int .u64 (wd x 3)] 26)) w.heap.size 26 #[.int .u64 0, .int .u64 0, .int .u64 0, .int .u64 0] := A.out.2.1.alloc _
   have g1 : Blk (wr.alloc (.cells #[.int .u64 (wd x 0), .int .u64 (wd x 1), .int .u64 (wd x 2), .int .u64 (wd x 3)] 26)) (w.heap.size + 1) 26 (mix M R 0) := A.out.2.2.1.alloc _
   have g2 : Blk (wr.alloc (.cells #[.int .u64 (wd x 0), .int .u64 (wd x 1), .int .u64 (wd x 2), .int .u64 (wd x 3)] 26)) wr.heap.size 26 #[.int .u64 (wd x 0), .int .u64 (wd x 1), .int .u64 (wd x 2), .int .u64 (wd x 3)] := Blk.new _ _ _
   have g3 : Below w.heap.size w (wr.alloc (.cells #[.int .u64 (wd x 0), .int .u64 (wd x 1), .int .u64 (wd x 2), .int .u64 (wd x 3)] 26)) := A.out.2.2.2.1.alloc A.out.2.2.2.1.size _
   have hz1 : w.heap.size + 1 < wr.heap.size := A.out.2.2.1.lt
   generalize wr.alloc (.cells #[.int .u64 (wd x 0), .int .u64 (wd x 1), .int .u64 (wd x 2), .int .u64 (wd x 3)] 26) = w3 at g0 g1 g2 g3 ⊢
   generalize wr.heap.size = xb at g2 hz1 ⊢
   clear k0 k1 k2 k3
   go_loopg [13] 4 (fun m v wq => ∃ j : Nat, j <= 4 /\ m = 4 - j /\ v = .int .i64 j /\ Blk wq w.heap.size 26 #[.int .u64 0, .int .u64 0, .int .u64 0, .int .u64 0] /\ Blk wq (w.heap.size + 1) 26 (mix M R j) /\ Blk wq xb 26 #[.int .u64 (wd x 0), .int .u64 (wd x 1), .int .u64 (wd x 2), .int .u64 (wd x 3)] /\ Below w.heap.size w wq)
   case atStart => exact ⟨0, by omega, rfl, rfl, g0, g1, g2, g3⟩
   case round =>
    obtain ⟨j, hj, hm, rfl, h0, h1, h2, h3⟩ := hrel
    have Q := Hd (An hm (An h0 (An h1 (An h2 h3))))
    obtain ⟨e0, e1, e2, e3, ef⟩ := h1.facts4
    obtain ⟨f0, f1, f2, f3, ff⟩ := h2.facts4
    clear g0 g1 g2 g3 hm h0 h1 h2 h3
    rcases (show j = 0 ∨ j = 1 ∨ j = 2 ∨ j = 3 ∨ j = 4 by omega) with rfl | rfl | rfl | rfl | rfl
    ·simp only [Nat.lt_irrefl, if_true, Nat.reduceLT, if_false] at e0 e1 e2 e3
     go_wp2_with fail
     apply via
     ·intro K
      go_region
      all_goals (try go_simp)
      all_goals exact K.out
     go_wp2_with fail
     go_roundg 3
     case measure => have := Q.out.1; omega
     case rel => exact ⟨1, by omega, rfl, rfl, Q.out.2.1.far (p := ⟨w.heap.size + 1, 0, none⟩) (by simp) _, Q.out.2.2.1.set_ 0 _, Q.out.2.2.2.1.far (p := ⟨w.heap.size + 1, 0, none⟩) (by simp; omega) _, (Q.out.2.2.2.2.setCell (p := ⟨w.heap.size + 1, 0, none⟩) (by simp) _).drew⟩
    ·simp only [Nat.lt_irrefl, if_true, Nat.reduceLT, if_false] at e0 e1 e2 e3
     go_wp2_with fail
     apply via
     ·intro K
      go_region
      all_goals (try go_simp)
      all_goals exact K.out
     go_wp2_with fail
     go_roundg 2
     case measure => have := Q.out.1; omega
     case rel => exact ⟨2, by omega, rfl, rfl, Q.out.2.1.far (p := ⟨w.heap.size + 1, 1, none⟩) (by simp) _, Q.out.2.2.1.set_ 1 _, Q.out.2.2.2.1.far (p := ⟨w.heap.size + 1, 1, none⟩) (by simp; omega) _, (Q.out.2.2.2.2.setCell (p := ⟨w.heap.size + 1, 1, none⟩) (by simp) _).drew⟩
    ·simp only [Nat.lt_irrefl, if_true, Nat.reduceLT, if_false] at e0 e1 e2 e3
     go_wp2_with fail
     apply via
     ·intro K
      go_region
      all_goals (try go_simp)
      all_goals exact K.out
     go_wp2_with fail
     go_roundg 1
     case measure => have := Q.out.1; omega
     case rel => exact ⟨3, by omega, rfl, rfl, Q.out.2.1.far (p := ⟨w.heap.size + 1, 2, none⟩) (by simp) _, Q.out.2.2.1.set_ 2 _, Q.out.2.2.2.1.far (p := ⟨w.heap.size + 1, 2, none⟩) (by simp; omega) _, (Q.out.2.2.2.2.setCell (p := ⟨w.heap.size + 1, 2, none⟩) (by simp) _).drew⟩
    ·simp only [Nat.lt_irrefl, if_true, Nat.reduceLT, if_false] at e0 e1 e2 e3
     go_wp2_with fail
     apply via
     ·intro K
      go_region
      all_goals (try go_simp)
      all_goals exact K.out
     go_wp2_with fail
     go_roundg 0
     case measure => have := Q.out.1; omega
     case rel => exact ⟨4, by omega, rfl, rfl, Q.out.2.1.far (p := ⟨w.heap.size + 1, 3, none⟩) (by simp) _, Q.out.2.2.1.set_ 3 _, Q.out.2.2.2.1.far (p := ⟨w.heap.size + 1, 3, none⟩) (by simp; omega) _, (Q.out.2.2.2.2.setCell (p := ⟨w.heap.size + 1, 3, none⟩) (by simp) _).drew⟩
    ·go_wp2_with fail
     go_roundg (l.length - (i + 1))
     case measure => have := A.out.1; omega
     case rel => exact ⟨i + 1, by omega, rfl, rfl, Q.out.2.1, by rw [A.out.2.2.2.2.1]; exact Q.out.2.2.1, Q.out.2.2.2.2⟩
  ·obtain rfl : i = l.length := by omega
   rw [List.take_length] at h1
   obtain ⟨R, hR⟩ : ∃ R, l.foldl (· ||| ·) 0 = R := ⟨_, rfl⟩
   rw [hR] at h1
   have HR := Hd hR
   clear hR
   obtain ⟨e0, e1, e2, e3, ef⟩ := Blk.facts4 (v0 := .int .u64 (wd R 0)) (v1 := .int .u64 (wd R 1)) (v2 := .int .u64 (wd R 2)) (v3 := .int .u64 (wd R 3)) h1
   obtain ⟨f0, f1, f2, f3, ff⟩ := h0.facts4
   have A := Hd (An h0 h2)
   clear h0 h1 h2 hm
   go_wp2_with fail
   have hbk := (((A.out.1.set_ 0 (.int .u64 (wd R 0))).set_ 1 (.int .u64 (wd R 1))).set_ 2 (.int .u64 (wd R 2))).set_ 3 (.int .u64 (wd R 3))
   refine bodyPost_ret (results_cell_row (by rfl) _ _ w.heap.size 26 _ (0, 0) _ (by rfl) hbk Tryz.underlying26 (by rfl) (by kernel_rfl)) rfl ?_
   refine ⟨by rw [HR.out]; rfl, (((A.out.2.setCell ?_ _).setCell ?_ _).setCell ?_ _).setCell ?_ _⟩ <;> (simp; try omega)
end Go.Proofs.YtknpkndiflodbaaGreatDoor.Tb
namespace Go.Proofs.YtknpkndiflodbaaGreatDoor.Tb
open Go Go.RowKit Go.Proofs Go.Maps Mx
def encS (s : List UInt8) : List Value := [.string ⟨s.toArray⟩]
theorem encS_len (s : List UInt8) : (encS s).length = 1 := rfl
structure SortsOk (g : Gr) : Prop where
 nodup : g.sorts.Nodup
 each : ∀ s ∈ g.sorts, s ≠ [] /\ s.length <= 1000
 some_ : 1 <= g.sorts.length
 many : g.sorts.length <= 1000
 start : 0 <= g.start /\ g.start < g.sorts.length
theorem sorts_ok (D : Nat -> Prop) (g : Gr) (hg : SortsOk g) (w : World) (sv pv fv lv : Value) (hs : SliceK D encS 1 w sv g.sorts) :
  Calls Tryz.prog 37 #[.agg #[sv, pv, .int .i64 g.start, fv, lv]] w fun e w' => e = .returned (.bool true) /\ Below w.heap.size w w' := by
 obtain ⟨a, c, rfl, hc1, hc2, hk⟩ := hs
 have hmm := @run_makeMap Tryz.prog
 have h1 := hg.some_
 have h2 := hg.many
 have h3 := hg.start.1
 have h4 := hg.start.2
 have HK := Hd (An hk hg)
 clear hk hg
 go_enter Tryz.func37, Tryz.ntmps37
 go_wp2_with fail
 have hB1 : Blk ((w.alloc (.cells #[.slice a g.sorts.length c, pv, .int .i64 g.start, fv, lv] 39)).alloc (.map #[] 0)) w.heap.size 39 #[.slice a g.sorts.length c, pv, .int .i64 g.start, fv, lv] := (Blk.new _ _ _).alloc _
 have hM1 : MapV Tryz.prog 9 ((w.alloc (.cells #[.slice a g.sorts.length c, pv, .int .i64 g.start, fv, lv] 39)).alloc (.map #[] 0)) (w.heap.size + 1) 0 (fun _ => none) := by
  have := MapV.made (w.alloc (.cells #[.slice a g.sorts.length c, pv, .int .i64 g.start, fv, lv] 39)) Tryz.prog 9
  simpa using this
 have hb1 : Below w.heap.size w ((w.alloc (.cells #[.slice a g.sorts.length c, pv, .int .i64 g.start, fv, lv] 39)).alloc (.map #[] 0)) := ((Below.refl _ w).alloc (Nat.le_refl _) _).alloc (by simp) _
 have hz1 : w.heap.size + 2 <= ((w.alloc (.cells #[.slice a g.sorts.length c, pv, .int .i64 g.start, fv, lv] 39)).alloc (.map #[] 0)).heap.size := by simp
 generalize (w.alloc (.cells #[.slice a g.sorts.length c, pv, .int .i64 g.start, fv, lv] 39)).alloc (.map #[] 0) = W1 at hB1 hM1 hb1 hz1 ⊢
 have H1 := Hd (An hB1 (An hM1 (An hb1 hz1)))
 clear hB1 hM1 hb1 hz1
 go_loopg [10] g.sorts.length (fun m v10 wr => ∃ (i : Nat) (f : Lit -> Option Value), i <= g.sorts.length /\ m = g.sorts.length - i /\ v10 = .int .i64 i /\ MapV Tryz.prog 9 wr (w.heap.size + 1) i f /\
  (∀ s, f (.string s) = if s ∈ g.sorts.take i then some (.int .i64 1) else none) /\ Below w.heap.size w wr /\ Blk wr w.heap.size 39 #[.slice a g.sorts.length c, pv, .int .i64 g.start, fv, lv])
 case atStart => exact ⟨0, _, by omega, rfl, rfl, H1.out.2.1, (fun s => by simp), H1.out.2.2.1, H1.out.1⟩
 case round =>
  obtain ⟨i, f, hi, hm, rfl, hM, hf, hb, hB⟩ := hrel
  have q0 := hB.cell 0
  have q2 := hB.cell 2
  simp at q0 q2
  by_cases hlt : i < g.sorts.length
  ·obtain ⟨s, hsi⟩ : ∃ s, g.sorts[i]? = some s := ⟨_, List.getElem?_eq_getElem hlt⟩
   obtain ⟨kg, ko, rfl, hkD, hkr⟩ := HK.out.1 (by rintro h; rw [h] at hlt; simp at hlt)
   have k0 := hkr.cells i _ hsi 0 _ rfl
   simp only [Nat.add_zero, Nat.mul_one] at k0
   have k0 := (World.cell?_of_block (hb.block kg hkr.lt)).trans k0
   have hsm := HK.out.2.each s (List.mem_of_getElem? hsi)
   have hnot : s ∉ g.sorts.take i := fun h => by
    obtain ⟨j, hj, e⟩ := List.getElem_of_mem h
    have hji : j < i := by rw [List.length_take] at hj; omega
    rw [List.getElem_take] at e
    have h1 := List.pairwise_iff_getElem.1 HK.out.2.nodup j i (by omega) hlt hji
    rw [e, (List.getElem?_eq_some_iff.1 hsi).2] at h1
    exact h1 rfl
   have hsl : (s.toArray.size : Int) <= 1000 := by simp; omega
   have hkey : keyOf Tryz.prog 9 (.string ⟨s.toArray⟩) = some (.string s) := by
    have h1 := WideMaps.keyOf_string_mk (P := Tryz.prog) (k := 9) Tryz.underlying9 (s := ⟨s.toArray⟩) (by unfold maxLen; show s.toArray.size <= _; simp; omega)
    simpa using h1
   have hlk : (Instr.lookup 92 (.map (some (w.heap.size + 1))) (.string ⟨s.toArray⟩) false).run Tryz.prog wr = .ok (.int .i64 0) wr := by
    have h1 := hM.lookup (string_keyed Tryz.underlying9) Tryz.underlying92 (Tryz.zeroValue3 wr) hkey
    rw [hf, if_neg hnot] at h1
    exact h1
   have hi0 : (0 : Int) <= (i : Int) := by omega
   have hi1 : (i : Int) < (g.sorts.length : Int) := by omega
   have hmx : i < maxLen := by unfold maxLen; omega
   have HMv := Hd hM
   have HR := Hd (An hm (An hf (An hb (An hB (An hsi hnot)))))
   clear hm hf hb hB hsi hnot hM hkr q0 q2
   go_wp2_with (at_mapUpdate; refine wpList_mapUpdateV _ rfl _ _ _ 92 rfl 9 3 (string_keyed Tryz.underlying9) Tryz.underlying92 (w.heap.size + 1) i f rfl ?_ hmx _ _ _ rfl rfl hkey ?_; exact HMv.out)
   intro w5 hm5 hg5
   have hf5 : ∀ t, putV f (.string s) (.int .i64 1) (.string t) = if t ∈ g.sorts.take (i + 1) then some (.int .i64 1) else none := fun t => by
    rw [putV_string, List.take_add_one, HR.out.2.2.2.2.1]
    by_cases e : t = s
    ·rw [if_pos e, if_pos (by simp [e])]
    ·rw [if_neg e, HR.out.2.1]
     by_cases e2 : t ∈ g.sorts.take i
     ·rw [if_pos e2, if_pos (by simp [e2])]
     ·rw [if_neg e2, if_neg (by simp [e2, e])]
   have hlk5 : (Instr.lookup 92 (.map (some (w.heap.size + 1))) (.string ⟨s.toArray⟩) false).run Tryz.prog w5 = .ok (.int .i64 1) w5 := by
    have h1 := hm5.lookup (string_keyed Tryz.underlying9) Tryz.underlying92 (Tryz.zeroValue3 w5) hkey
    rw [putV_string, if_pos rfl] at h1
    exact h1
   have hb5 : Below w.heap.size w w5 := HR.out.2.2.1.trans (below_of_grown hg5 HR.out.2.2.1.size (Nat.le_succ _))
   have hB5 := HR.out.2.2.2.1.grown hg5 (by simp)
   have HS := Hd (An hm5 (An hf5 (An hb5 hB5)))
   clear hm5 hf5 hb5 hB5 hg5 hlk
   have hse : s.isEmpty = false := by cases s with | nil => exact absurd rfl hsm.1 | cons _ _ => rfl
   have hsd : decide (1000 < (s.length : Int)) = false := decide_eq_false (by have := hsm.2; omega)
   go_wp2_with fail
   go_roundg (g.sorts.length - (i + 1))
   case measure => have := HR.out.1; omega
   case rel => exact ⟨i + 1, _, by omega, rfl, rfl, HS.out.1, HS.out.2.1, HS.out.2.2.1, HS.out.2.2.2⟩
  ·obtain rfl : i = g.sorts.length := by omega
   have HR := Hd (An hb hB)
   clear hb hB hM hf
   go_wp2_with fail
   go_ret
   exact ⟨rfl, HR.out.1⟩
end Go.Proofs.YtknpkndiflodbaaGreatDoor.Tb
namespace Go.Proofs.YtknpkndiflodbaaGreatDoor.Tb
open Go Go.RowKit Go.Proofs Go.Maps Mx
attribute [local go_sem] eqSet
structure PrOk (g : Gr) (p : Pr) : Prop where
 left : 0 <= p.left /\ p.left < g.sorts.length
 right : p.right.length <= 30
 role : 0 <= p.role /\ p.role <= 11
 made : -1 <= p.made
 cons : p.cons.length <= 64
 bare : p.cons = [] ∨ p.role = 0
 one : p.prefer = false ∨ p.avoid = false
 sym : ∀ s ∈ p.right, (s.kind = 0 /\ s.sort = 0 /\ s.set ≠ 0 /\ s.set < 2 ^ 256) ∨ (s.kind = 1 /\ s.set = 0 /\ 0 <= s.sort /\ s.sort < g.sorts.length /\ p.role ≠ 11)
theorem ProdsAt.at_ {D : Nat -> Prop} {w : World} {vp : Value} {ps : List Pr} (h : ProdsAt D w vp ps) {n : Nat} {p : Pr} (hp : ps[n]? = some p) : ∃ cap b o vr, vp = .slice (some ⟨b, o, none⟩) ps.length cap /\ b < w.heap.size /\ SliceK D encSy 6 w vr p.right /\
  (∀ j u, (encPr (vr, p))[j]? = some u -> w.cell? ⟨b, o + n * 7 + j, none⟩ = some u) := by
 obtain ⟨l, hl, e⟩ := h
 have hlen : l.length = ps.length := by rw [<- e]; simp
 have hx : ∃ vr, l[n]? = some (vr, p) := by
  rw [<- e, List.getElem?_map] at hp
  cases hq : l[n]? with
  | none => rw [hq] at hp; simp at hp
  | some q => rw [hq] at hp; simp at hp; exact ⟨q.1, by rw [<- hp]⟩
 obtain ⟨vr, hx⟩ := hx
 obtain ⟨a, cap, rfl, hc1, hc2, hK⟩ := hl.row
 obtain ⟨b, o, rfl, hDb, hr⟩ := hK (by rintro rfl; simp at hx)
 rw [hlen]
 exact ⟨cap, b, o, vr, rfl, hr.lt, hl.right _ (List.mem_of_getElem? hx), fun j u hu => hr.cells n _ hx j u hu⟩
theorem sort_in (w : World) (b : Nat) (sa : Option Addr) (n c : Nat) (h : w.cell? ⟨b, 0, none⟩ = some (.slice sa n c)) (s : Int) (h0 : 0 <= s) (h1 : s < n) :
  Calls Tryz.prog 72 #[.int .i64 s, .pointer (some ⟨b, 0, none⟩)] w fun e w' => e = .returned (.bool true) /\ w' = w := by
 go_enter Tryz.func72, Tryz.ntmps72
 go_wp2_with fail
 go_ret
 exact ⟨rfl, rfl⟩
theorem prods_ok (D : Nat -> Prop) (g : Gr) (hpm : g.prods.length <= 1000) (hg : ∀ p ∈ g.prods, PrOk g p) (w : World) (sa : Option Addr) (sn sc : Nat) (hsn : sn = g.sorts.length) (pv fv lv : Value) (hs : ProdsAt D w pv g.prods) (hpl : ∃ pa pc, pv = .slice pa g.prods.length pc) :
  Calls Tryz.prog 38 #[.agg #[.slice sa sn sc, pv, .int .i64 g.start, fv, lv]] w fun e w' => e = .returned (.bool true) /\ Below w.heap.size w w' := by
 obtain ⟨pa, pc, rfl⟩ := hpl
 have hmf : ∀ (fn : Fn) (first cap : Array Value) (w : World), (Instr.makeFunc fn first cap).run Tryz.prog w = .ok (.func fn first cap) w := fun _ _ _ _ => rfl
 have HK := Hd (An hs (An hg hsn))
 clear hs hg hsn
 go_enter Tryz.func38, Tryz.ntmps38
 go_wp2_with fail
 have hB1 : Blk (w.alloc (.cells #[.slice sa sn sc, .slice pa g.prods.length pc, .int .i64 g.start, fv, lv] 39)) w.heap.size 39 #[.slice sa sn sc, .slice pa g.prods.length pc, .int .i64 g.start, fv, lv] := Blk.new _ _ _
 have hb1 : Below w.heap.size w (w.alloc (.cells #[.slice sa sn sc, .slice pa g.prods.length pc, .int .i64 g.start, fv, lv] 39)) := (Below.refl _ w).alloc (Nat.le_refl _) _
 generalize (w.alloc (.cells #[.slice sa sn sc, .slice pa g.prods.length pc, .int .i64 g.start, fv, lv] 39)) = W1 at hB1 hb1 ⊢
 have H1 := Hd (An hB1 hb1)
 clear hB1 hb1
 go_loopg [12] g.prods.length (fun m v12 wr => ∃ (i : Nat), i <= g.prods.length /\ m = g.prods.length - i /\ v12 = .int .i64 i /\ Below w.heap.size w wr /\ Blk wr w.heap.size 39 #[.slice sa sn sc, .slice pa g.prods.length pc, .int .i64 g.start, fv, lv])
 case atStart => exact ⟨0, by omega, rfl, rfl, H1.out.2, H1.out.1⟩
 case round =>
  obtain ⟨i, hi, hm, rfl, hb, hB⟩ := hrel
  have q0 := hB.cell 0
  have q1 := hB.cell 1
  simp at q0 q1
  by_cases hlt : i < g.prods.length
  ·obtain ⟨p, hp⟩ : ∃ p, g.prods[i]? = some p := ⟨_, List.getElem?_eq_getElem hlt⟩
   obtain ⟨cap, b, o, vr, epv, hbl, hvr, hpc⟩ := HK.out.1.at_ hp
   injection epv with e1 e2 e3
   subst e1
   subst e3
   obtain ⟨ra, rc, rfl, hrc1, hrc2, hrk⟩ := hvr
   have hok := HK.out.2.1 p (List.mem_of_getElem? hp)
   have up : ∀ {i : Nat} {u : Value}, w.cell? ⟨b, i, none⟩ = some u -> wr.cell? ⟨b, i, none⟩ = some u := fun h => (World.cell?_of_block (hb.block b hbl)).trans h
   have f0 := up (hpc 0 _ rfl)
   have f1 := up (hpc 1 _ rfl)
   have f2 := up (hpc 2 _ rfl)
   have f3 := up (hpc 3 _ rfl)
   have f4 := up (hpc 4 _ rfl)
   have f5 := up (hpc 5 _ rfl)
   have f6 := up (hpc 6 _ rfl)
   simp only [Nat.add_zero] at f0
   have hi0 : (0 : Int) <= (i : Int) := by omega
   have hi1 : (i : Int) < (g.prods.length : Int) := by omega
   have HR := Hd (An hm (An hb (An hB (An hrk hok))))
   have hsl := sort_in
   clear hm hb hB hpc up hrk hp
   go_upto_region 5 with fail
   have hP : Blk (wr.alloc (.cells #[.int .i64 p.left, .slice ra p.right.length rc, .string ⟨p.cons.toArray⟩, .int .i64 p.role, .bool p.prefer, .bool p.avoid, .int .i64 p.made] 34)) wr.heap.size 34 #[.int .i64 p.left, .slice ra p.right.length rc, .string ⟨p.cons.toArray⟩, .int .i64 p.role, .bool p.prefer, .bool p.avoid, .int .i64 p.made] := Blk.new _ _ _
   have hb3 : Below wr.heap.size wr (wr.alloc (.cells #[.int .i64 p.left, .slice ra p.right.length rc, .string ⟨p.cons.toArray⟩, .int .i64 p.role, .bool p.prefer, .bool p.avoid, .int .i64 p.made] 34)) := (Below.refl _ wr).alloc (Nat.le_refl _) _
   generalize (wr.alloc (.cells #[.int .i64 p.left, .slice ra p.right.length rc, .string ⟨p.cons.toArray⟩, .int .i64 p.role, .bool p.prefer, .bool p.avoid, .int .i64 p.made] 34)) = w3 at hP hb3 ⊢
   have hG3 := HR.out.2.2.1.below hb3 HR.out.2.2.1.lt
   have g0 := hG3.cell 0
   simp at g0
   have x0 := hP.cell 0
   have x1 := hP.cell 1
   have x2 := hP.cell 2
   have x3 := hP.cell 3
   have x4 := hP.cell 4
   have x5 := hP.cell 5
   have x6 := hP.cell 6
   simp at x0 x1 x2 x3 x4 x5 x6
   have ok := HR.out.2.2.2.2
   have o1 : decide (30 < (p.right.length : Int)) = false := decide_eq_false (by have := ok.right; omega)
   have o2 : decide (p.role < 0) = false := decide_eq_false (by have := ok.role; omega)
   have o3 : decide (11 < p.role) = false := decide_eq_false (by have := ok.role; omega)
   have o4 : decide (p.made < -1) = false := decide_eq_false (by have := ok.made; omega)
   have o5 : decide (64 < (p.cons.length : Int)) = false := decide_eq_false (by have := ok.cons; omega)
   have hl0 := ok.left.1
   have hl1 : p.left < (sn : Int) := by rw [HK.out.2.2]; exact ok.left.2
   have HQ := Hd (An hP (An hb3 hG3))
   have hbare := ok.bare
   have hone := ok.one
   clear hP hb3 hG3 ok f0 f1 f2 f3 f4 f5 f6 q0 q1
   go_cut [65] from 13 to 65 (fun s65 wx => s65 = .bool false /\ wx = w3)
   case first =>
    rcases hbare with hc | hc <;> rcases hone with ho | ho
    all_goals (
    go_wp2_with fail
    refine (sort_in w3 _ sa sn sc g0 p.left hl0 hl1).mono ?_
    rintro e w4 ⟨rfl, rfl⟩
    go_wp2_with fail
    all_goals (go_meet; exact ⟨rfl, rfl⟩))
   case rest =>
    obtain ⟨rfl, rfl⟩ := hcut
    obtain ⟨pb, hpb⟩ : ∃ pb, wr.heap.size = pb := ⟨_, rfl⟩
    have hbw3 := HR.out.2.1.trans (HQ.out.2.1.mono HR.out.2.1.size)
    rw [hpb] at HQ x0 x1 x3 ⊢
    clear hbare hone hl0 hl1 o1 o2 o3 o4 o5 x2 x4 x5 x6 hsl
    go_wp2_with fail
    rename_i K8 hK8
    have HK8 := Hd hK8
    clear hK8
    have hr30 : p.right.length <= 30 := HR.out.2.2.2.2.right
    go_loopg [69] p.right.length (fun m v69 wx => ∃ (k : Nat), k <= p.right.length /\ m = p.right.length - k /\ v69 = .int .i64 k /\ Below w.heap.size w wx /\ Blk wx w.heap.size 39 #[.slice sa sn sc, .slice (some ⟨b, o, none⟩) g.prods.length pc, .int .i64 g.start, fv, lv] /\ ∃ y4 y5 y6 y2, Blk wx pb 34 #[.int .i64 p.left, .slice ra p.right.length rc, y2, .int .i64 p.role, y4, y5, y6])
    case atStart => exact ⟨0, by omega, rfl, rfl, hbw3, HQ.out.2.2, _, _, _, _, HQ.out.1⟩
    case round =>
     obtain ⟨k, hk, hm, rfl, hb, hB, y4, y5, y6, y2, hP⟩ := hrel
     have g0 := hB.cell 0
     have x3 := hP.cell 3
     simp at g0 x3
     by_cases hkl : k < p.right.length
     ·obtain ⟨sy, hsy⟩ : ∃ sy, p.right[k]? = some sy := ⟨_, List.getElem?_eq_getElem hkl⟩
      obtain ⟨kg, ko, rfl, hkD, hkr⟩ := HR.out.2.2.2.1 (by rintro h; rw [h] at hkl; simp at hkl)
      have up : ∀ {i : Nat} {u : Value}, w.cell? ⟨kg, i, none⟩ = some u -> wr.cell? ⟨kg, i, none⟩ = some u := fun h => (World.cell?_of_block (hb.block kg hkr.lt)).trans h
      have c0 := up (hkr.cells k _ hsy 0 _ rfl)
      have c1 := up (hkr.cells k _ hsy 1 _ rfl)
      have c2 := up (hkr.cells k _ hsy 2 _ rfl)
      have c3 := up (hkr.cells k _ hsy 3 _ rfl)
      have c4 := up (hkr.cells k _ hsy 4 _ rfl)
      have c5 := up (hkr.cells k _ hsy 5 _ rfl)
      simp only [Nat.add_zero] at c0
      have hk0 : (0 : Int) <= (k : Int) := by omega
      have hk1 : (k : Int) < (p.right.length : Int) := by omega
      have hss := HR.out.2.2.2.2.sym sy (List.mem_of_getElem? hsy)
      have HS := Hd (An hm (An hb (An hB hP)))
      clear hm hb hB hP up hkr hsy
      rcases hss with ⟨s1, s2, s3, s4⟩ | ⟨s1, s2, s3, s4, s5⟩
      ·have hz : ¬ (wd sy.set 0 = 0 /\ wd sy.set 1 = 0 /\ wd sy.set 2 = 0 /\ wd sy.set 3 = 0) := fun h => s3 ((wd_zero_iff _ s4).1 h)
       rw [s1] at c0
       rw [s2] at c5
       go_wp2_with fail
       have hbW := (Below.refl wr.heap.size wr).alloc (Nat.le_refl _) (.cells #[.int .i64 0, .int .u64 (wd sy.set 0), .int .u64 (wd sy.set 1), .int .u64 (wd sy.set 2), .int .u64 (wd sy.set 3), .int .i64 0] 28)
       have hbb := HS.out.2.1.trans (hbW.mono HS.out.2.1.size)
       go_roundg (p.right.length - (k + 1))
       case measure => have := HS.out.1; omega
       case rel => exact ⟨k + 1, by omega, rfl, rfl, hbb, HS.out.2.2.1.alloc _, _, _, _, _, HS.out.2.2.2.alloc _⟩
      ·rw [s1] at c0
       rw [s2] at c1 c2 c3 c4
       have hw0 : wd 0 0 = 0 /\ wd 0 1 = 0 /\ wd 0 2 = 0 /\ wd 0 3 = 0 := by simp [wd]
       rw [hw0.1] at c1
       rw [hw0.2.1] at c2
       rw [hw0.2.2.1] at c3
       rw [hw0.2.2.2] at c4
       have hrl : ¬ p.role = 11 := s5
       go_wp2_with fail
       have hbW := (Below.refl wr.heap.size wr).alloc (Nat.le_refl _) (.cells #[.int .i64 1, .int .u64 0, .int .u64 0, .int .u64 0, .int .u64 0, .int .i64 sy.sort] 28)
       have hbb := HS.out.2.1.trans (hbW.mono HS.out.2.1.size)
       have x3a := cell_alloc_ x3 (.cells #[.int .i64 1, .int .u64 0, .int .u64 0, .int .u64 0, .int .u64 0, .int .i64 sy.sort] 28)
       refine (sort_in _ _ sa sn sc (cell_alloc_ g0 _) sy.sort s3 (by rw [HK.out.2.2]; exact s4)).mono ?_
       rintro e w5 ⟨rfl, rfl⟩
       go_wp2_with fail
       go_roundg (p.right.length - (k + 1))
       case measure => have := HS.out.1; omega
       case rel => exact ⟨k + 1, by omega, rfl, rfl, hbb, HS.out.2.2.1.alloc _, _, _, _, _, HS.out.2.2.2.alloc _⟩
     ·obtain rfl : k = p.right.length := by omega
      have HS := Hd (An hm (An hb (An hB hP)))
      clear hm hb hB hP
      go_wp2_with fail
      refine HK8.out _ _ ?_
      go_wp2_with fail
      go_roundg (g.prods.length - (i + 1))
      case measure => have := HR.out.1; omega
      case rel => exact ⟨i + 1, by omega, rfl, rfl, HS.out.2.1, HS.out.2.2.1⟩
  ·obtain rfl : i = g.prods.length := by omega
   have HR := Hd (An hb hB)
   clear hb hB
   go_wp2_with fail
   go_ret
   exact ⟨by simp; omega, HR.out.1⟩
end Go.Proofs.YtknpkndiflodbaaGreatDoor.Tb
namespace Go.Proofs.YtknpkndiflodbaaGreatDoor.Tb
open Go Go.RowKit Go.Proofs Go.Maps Mx
theorem forbids_none (w : World) (sv pv lv : Value) (st : Int) (fa : Option Addr) (fc : Nat) :
  Calls Tryz.prog 39 #[.agg #[sv, pv, .int .i64 st, .slice fa 0 fc, lv]] w fun e w' => e = .returned (.bool true) /\ Below w.heap.size w w' := by
 have hmm := @run_makeMap Tryz.prog
 have hmf : ∀ (fn : Fn) (first cap : Array Value) (w : World), (Instr.makeFunc fn first cap).run Tryz.prog w = .ok (.func fn first cap) w := fun _ _ _ _ => rfl
 have hb1 : Below w.heap.size w ((w.alloc (.cells #[sv, pv, .int .i64 st, .slice fa 0 fc, lv] 39)).alloc (.map #[] 0)) := ((Below.refl _ w).alloc (Nat.le_refl _) _).alloc (by simp) _
 have H1 := Hd hb1
 clear hb1
 go_enter Tryz.func39, Tryz.ntmps39
 go_wp2_with fail
 generalize ((w.alloc (.cells #[sv, pv, .int .i64 st, .slice fa 0 fc, lv] 39)).alloc (.map #[] 0)) = W1 at H1 ⊢
 go_loopg [13] 0 (fun m v wr => v = .int .i64 0 /\ wr = W1)
 case atStart => exact ⟨rfl, rfl⟩
 case round =>
  obtain ⟨rfl, rfl⟩ := hrel
  go_wp2_with fail
  go_ret
  exact ⟨rfl, H1.out⟩
theorem follows_none (w : World) (sv pv fv : Value) (st : Int) (la : Option Addr) (lc : Nat) :
  Calls Tryz.prog 40 #[.agg #[sv, pv, .int .i64 st, fv, .slice la 0 lc]] w fun e w' => e = .returned (.bool true) /\ Below w.heap.size w w' := by
 have hmm := @run_makeMap Tryz.prog
 have hmf : ∀ (fn : Fn) (first cap : Array Value) (w : World), (Instr.makeFunc fn first cap).run Tryz.prog w = .ok (.func fn first cap) w := fun _ _ _ _ => rfl
 have hb1 : Below w.heap.size w ((w.alloc (.cells #[sv, pv, .int .i64 st, fv, .slice la 0 lc] 39)).alloc (.map #[] 0)) := ((Below.refl _ w).alloc (Nat.le_refl _) _).alloc (by simp) _
 have H1 := Hd hb1
 clear hb1
 go_enter Tryz.func40, Tryz.ntmps40
 go_wp2_with fail
 generalize ((w.alloc (.cells #[sv, pv, .int .i64 st, fv, .slice la 0 lc] 39)).alloc (.map #[] 0)) = W1 at H1 ⊢
 go_loopg [10] 0 (fun m v wr => v = .int .i64 0 /\ wr = W1)
 case atStart => exact ⟨rfl, rfl⟩
 case round =>
  obtain ⟨rfl, rfl⟩ := hrel
  go_wp2_with fail
  go_ret
  exact ⟨rfl, H1.out⟩
structure GrOk (g : Gr) : Prop where
 sorts : SortsOk g
 few : g.prods.length <= 1000
 prods : ∀ p ∈ g.prods, PrOk g p
theorem check_none (D : Nat -> Prop) (g : Gr) (hg : GrOk g) (w : World) (sv pv : Value) (fa la : Option Addr) (fc lc : Nat) (hs : SliceK D encS 1 w sv g.sorts) (hp : ProdsAt D w pv g.prods) :
  Calls Tryz.prog 14 #[.agg #[sv, pv, .int .i64 g.start, .slice fa 0 fc, .slice la 0 lc]] w fun e w' => e = .returned (.int .i64 0) /\ Below w.heap.size w w' := by
 obtain ⟨sa, sc, rfl, _⟩ := id hs
 obtain ⟨pa, pc, rfl⟩ : ∃ pa pc, pv = .slice pa g.prods.length pc := by
  obtain ⟨l, hl, e⟩ := id hp
  obtain ⟨pa, pc, e1, _⟩ := hl.row
  exact ⟨pa, pc, by rw [e1, <- e, List.length_map]⟩
 have i0 : ∀ w, (Instr.index 100 (.agg #[.func (.func 37) #[] #[], .func (.func 38) #[] #[], .func (.func 39) #[] #[], .func (.func 40) #[] #[]]) (.int .i64 0)).run Tryz.prog w = .ok (.func (.func 37) #[] #[]) w := fun _ => by kernel_rfl
 have i1 : ∀ w, (Instr.index 100 (.agg #[.func (.func 37) #[] #[], .func (.func 38) #[] #[], .func (.func 39) #[] #[], .func (.func 40) #[] #[]]) (.int .i64 1)).run Tryz.prog w = .ok (.func (.func 38) #[] #[]) w := fun _ => by kernel_rfl
 have i2 : ∀ w, (Instr.index 100 (.agg #[.func (.func 37) #[] #[], .func (.func 38) #[] #[], .func (.func 39) #[] #[], .func (.func 40) #[] #[]]) (.int .i64 2)).run Tryz.prog w = .ok (.func (.func 39) #[] #[]) w := fun _ => by kernel_rfl
 have i3 : ∀ w, (Instr.index 100 (.agg #[.func (.func 37) #[] #[], .func (.func 38) #[] #[], .func (.func 39) #[] #[], .func (.func 40) #[] #[]]) (.int .i64 3)).run Tryz.prog w = .ok (.func (.func 40) #[] #[]) w := fun _ => by kernel_rfl
 have H := Hd (An hs (An hp hg))
 clear hs hp hg
 go_enter Tryz.func14, Tryz.ntmps14
 go_wp2_with fail
 have hB1 : Blk (w.alloc (.cells #[.slice sa g.sorts.length sc, .slice pa g.prods.length pc, .int .i64 g.start, .slice fa 0 fc, .slice la 0 lc] 39)) w.heap.size 39 #[.slice sa g.sorts.length sc, .slice pa g.prods.length pc, .int .i64 g.start, .slice fa 0 fc, .slice la 0 lc] := Blk.new _ _ _
 have hb1 : Below w.heap.size w (w.alloc (.cells #[.slice sa g.sorts.length sc, .slice pa g.prods.length pc, .int .i64 g.start, .slice fa 0 fc, .slice la 0 lc] 39)) := (Below.refl _ w).alloc (Nat.le_refl _) _
 generalize (w.alloc (.cells #[.slice sa g.sorts.length sc, .slice pa g.prods.length pc, .int .i64 g.start, .slice fa 0 fc, .slice la 0 lc] 39)) = W1 at hB1 hb1 ⊢
 have H1 := Hd (An hB1 hb1)
 clear hB1 hb1
 go_loopg [6] 4 (fun m v wr => ∃ i : Nat, i <= 4 /\ m = 4 - i /\ v = .int .i64 i /\ Blk wr w.heap.size 39 #[.slice sa g.sorts.length sc, .slice pa g.prods.length pc, .int .i64 g.start, .slice fa 0 fc, .slice la 0 lc] /\ Below w.heap.size w wr)
 case atStart => exact ⟨0, by omega, rfl, rfl, H1.out.1, H1.out.2⟩
 case round =>
  obtain ⟨i, hi, hm, rfl, hB, hb⟩ := hrel
  have f0 := hB.cell 0
  have f1 := hB.cell 1
  have f2 := hB.cell 2
  have f3 := hB.cell 3
  have f4 := hB.cell 4
  simp at f0 f1 f2 f3 f4
  have A := Hd (An hm (An hB hb))
  clear hm hB hb
  rcases (show i = 0 ∨ i = 1 ∨ i = 2 ∨ i = 3 ∨ i = 4 by omega) with rfl | rfl | rfl | rfl | rfl
  ·clear i1 i2 i3
   go_wp2_with fail
   refine (sorts_ok D g H.out.2.2.sorts wr _ _ _ _ (H.out.1.all A.out.2.2)).mono ?_
   rintro e w2 ⟨rfl, hb2⟩
   have A2 := Hd (An (A.out.2.1.below hb2 A.out.2.1.lt) (A.out.2.2.trans (hb2.mono A.out.2.2.size)))
   clear hb2
   go_wp2_with fail
   go_roundg 3
   case measure => have := A.out.1; omega
   case rel => exact ⟨1, by omega, rfl, rfl, A2.out.1, A2.out.2⟩
  ·clear i0 i2 i3
   go_wp2_with fail
   refine (prods_ok D g H.out.2.2.few H.out.2.2.prods wr _ _ _ rfl _ _ _ (H.out.2.1.keep fun q hq hl => ⟨hq, A.out.2.2.block q hl⟩) ⟨_, _, rfl⟩).mono ?_
   rintro e w2 ⟨rfl, hb2⟩
   have A2 := Hd (An (A.out.2.1.below hb2 A.out.2.1.lt) (A.out.2.2.trans (hb2.mono A.out.2.2.size)))
   clear hb2
   go_wp2_with fail
   go_roundg 2
   case measure => have := A.out.1; omega
   case rel => exact ⟨2, by omega, rfl, rfl, A2.out.1, A2.out.2⟩
  ·clear i0 i1 i3
   go_wp2_with fail
   refine (forbids_none _ _ _ _ _ _ _).mono ?_
   rintro e w2 ⟨rfl, hb2⟩
   have A2 := Hd (An (A.out.2.1.below hb2 A.out.2.1.lt) (A.out.2.2.trans (hb2.mono A.out.2.2.size)))
   clear hb2
   go_wp2_with fail
   go_roundg 1
   case measure => have := A.out.1; omega
   case rel => exact ⟨3, by omega, rfl, rfl, A2.out.1, A2.out.2⟩
  ·clear i0 i1 i2
   go_wp2_with fail
   refine (follows_none _ _ _ _ _ _ _).mono ?_
   rintro e w2 ⟨rfl, hb2⟩
   have A2 := Hd (An (A.out.2.1.below hb2 A.out.2.1.lt) (A.out.2.2.trans (hb2.mono A.out.2.2.size)))
   clear hb2
   go_wp2_with fail
   go_roundg 0
   case measure => have := A.out.1; omega
   case rel => exact ⟨4, by omega, rfl, rfl, A2.out.1, A2.out.2⟩
  ·clear i0 i1 i2 i3
   go_wp2_with fail
   go_ret
   exact ⟨rfl, A.out.2.2⟩
end Go.Proofs.YtknpkndiflodbaaGreatDoor.Tb
