/-
  PLAIN LAWS, with no program in sight: bytes and their classes.
  WALKS of the leaves: letter, digit, in, classOf.
-/
import Derived.KernelRfl
import Derived.Lib.Bytealg
import Derived.Test.YtacgnbelcpmjfaaGreatDoorProg
import Derived.Test.YtacgnbelcpmjfaaGreatDoorMemA
import Derived.Test.YtacgnbelcpmjfaaGreatDoorShelfX
import Derived.Outline
set_option linter.unusedVariables false
namespace Go.Proofs.YtacgnbelcpmjfaaGreatDoor.Dx
open Go

/-- Letters (with the underscore), digits, signs: of a byte's number. -/
def letterB (c : Int) : Bool := decide (97 ≤ c) && decide (c ≤ 122) || decide (65 ≤ c) && decide (c ≤ 90) || decide (c = 95)
def digitB (c : Int) : Bool := decide (48 ≤ c) && decide (c ≤ 57)
theorem letterB_true {c : Int} : letterB c = true ↔ (97 ≤ c ∧ c ≤ 122 ∨ 65 ≤ c ∧ c ≤ 90) ∨ c = 95 := by simp [letterB]
theorem letterB_false {c : Int} : letterB c = false ↔ ¬ ((97 ≤ c ∧ c ≤ 122 ∨ 65 ≤ c ∧ c ≤ 90) ∨ c = 95) := by rw [← letterB_true]; simp
theorem digitB_true {c : Int} : digitB c = true ↔ 48 ≤ c ∧ c ≤ 57 := by simp [digitB]
theorem digitB_false {c : Int} : digitB c = false ↔ ¬ (48 ≤ c ∧ c ≤ 57) := by rw [← digitB_true]; simp
def signL : List UInt8 := [59, 46, 61, 44, 40, 41, 123, 125, 62, 63, 42, 43]
def signB (c : Int) : Bool := signL.any fun b => decide (c = (b.toNat : Int))
/-- What a byte may begin: 1 a letter, 2 a digit, 3 a quote, 4 an opened bracket, 5 a sign, 0 none of these. -/
def classI (c : Int) : Int := if letterB c then 1 else if digitB c then 2 else if c = 34 then 3 else if c = 91 then 4 else if signB c then 5 else 0

/-- A byte's number, as an Int in its range, is the byte. -/
theorem byte_of_int {c : Int} (h0 : 0 ≤ c) (h1 : c ≤ 255) : ∃ b : UInt8, c = (b.toNat : Int) := by
  obtain ⟨n, rfl⟩ := Int.eq_ofNat_of_zero_le h0
  exact ⟨UInt8.ofNat n, by simp; omega⟩
theorem all_bytes {p : UInt8 → Prop} [DecidablePred p] (h : (List.range 256).all (fun n => decide (p (UInt8.ofNat n))) = true) (b : UInt8) : p b := by
  have := List.all_eq_true.1 h b.toNat (by simp; exact b.toNat_lt)
  simpa using this
theorem sign_index (b : UInt8) : (0 ≤ Lib.indexByte signL b) ↔ signB (b.toNat : Int) = true :=
  all_bytes (p := fun b => (0 ≤ Lib.indexByte signL b) ↔ signB (b.toNat : Int) = true) (by decide +kernel) b
theorem sign_range {b : UInt8} (h : signB (b.toNat : Int) = true) : letterB (b.toNat : Int) = false ∧ digitB (b.toNat : Int) = false ∧ (b.toNat : Int) ≠ 34 ∧ (b.toNat : Int) ≠ 91 := by
  revert h
  exact all_bytes (p := fun b => signB (b.toNat : Int) = true → letterB (b.toNat : Int) = false ∧ digitB (b.toNat : Int) = false ∧ (b.toNat : Int) ≠ 34 ∧ (b.toNat : Int) ≠ 91) (by decide +kernel) b
/-- Which class, by cases that linear arithmetic reads. -/
theorem classI_cases (c idx : Int) (h : 0 ≤ idx ↔ signB c = true) (hs : signB c = true → letterB c = false ∧ digitB c = false ∧ c ≠ 34 ∧ c ≠ 91) :
    (classI c = 1 ∧ ((97 ≤ c ∧ c ≤ 122 ∨ 65 ≤ c ∧ c ≤ 90) ∨ c = 95)) ∨ (classI c = 2 ∧ 48 ≤ c ∧ c ≤ 57) ∨ (classI c = 3 ∧ c = 34) ∨ (classI c = 4 ∧ c = 91) ∨
    (classI c = 5 ∧ 0 ≤ idx ∧ ¬ ((97 ≤ c ∧ c ≤ 122 ∨ 65 ≤ c ∧ c ≤ 90) ∨ c = 95) ∧ ¬ (48 ≤ c ∧ c ≤ 57) ∧ c ≠ 34 ∧ c ≠ 91) ∨
    (classI c = 0 ∧ idx < 0 ∧ ¬ ((97 ≤ c ∧ c ≤ 122 ∨ 65 ≤ c ∧ c ≤ 90) ∨ c = 95) ∧ ¬ (48 ≤ c ∧ c ≤ 57) ∧ c ≠ 34 ∧ c ≠ 91) := by
  by_cases hl : letterB c = true
  · exact .inl ⟨by simp [classI, hl], letterB_true.1 hl⟩
  have hl' := letterB_false.1 (by simpa using hl)
  by_cases hd : digitB c = true
  · exact .inr (.inl ⟨by simp [classI, hl, hd], digitB_true.1 hd⟩)
  have hd' := digitB_false.1 (by simpa using hd)
  by_cases h3 : c = 34
  · exact .inr (.inr (.inl ⟨by subst h3; decide, h3⟩))
  by_cases h4 : c = 91
  · exact .inr (.inr (.inr (.inl ⟨by subst h4; decide, h4⟩)))
  by_cases h5 : signB c = true
  · exact .inr (.inr (.inr (.inr (.inl ⟨by simp [classI, hl, hd, h3, h4, h5], h.2 h5, hl', hd', h3, h4⟩))))
  · exact .inr (.inr (.inr (.inr (.inr ⟨by simp [classI, hl, hd, h3, h4, h5], by have : ¬ 0 ≤ idx := fun e => h5 (h.1 e); omega, hl', hd', h3, h4⟩))))
end Go.Proofs.YtacgnbelcpmjfaaGreatDoor.Dx
set_option linter.unusedVariables false
namespace Go.Proofs.YtacgnbelcpmjfaaGreatDoor.Dx
open Go.RowKit Go.Proofs Mx

theorem ret_bool {a b : Bool} (h : a = b) : Ending.returned (.bool a) = .returned (.bool b) := by rw [h]
theorem ret_int {k : IntKind} {a b : Int} (h : a = b) : Ending.returned (.int k a) = .returned (.int k b) := by rw [h]
theorem ret_str {a b : ByteArray} (h : a = b) : Ending.returned (.string a) = .returned (.string b) := by rw [h]

theorem letter_any (c : Int) (w : World) :
    Calls Tryz.prog 41 #[.int .u8 c] w fun e w' => e = .returned (.bool (letterB c)) ∧ w = w' := by
  go_enter Tryz.func41, Tryz.ntmps41
  go_wp2
  all_goals
    go_ret
    refine ⟨ret_bool ?_, rfl⟩
    first | (symm; rw [letterB_true]; omega) | (rw [Bool.eq_iff_iff, letterB_true]; simp; omega)
theorem digit_any (c : Int) (w : World) :
    Calls Tryz.prog 42 #[.int .u8 c] w fun e w' => e = .returned (.bool (digitB c)) ∧ w = w' := by
  go_enter Tryz.func42, Tryz.ntmps42
  go_wp2
  all_goals
    go_ret
    refine ⟨ret_bool ?_, rfl⟩
    first | (symm; rw [digitB_true]; omega) | (rw [Bool.eq_iff_iff, digitB_true]; simp; omega)

set_option maxRecDepth 100000 in
theorem classOf_any (b : UInt8) (w : World) :
    Calls Tryz.prog 37 #[.int .u8 (b.toNat : Int)] w fun e w' => e = .returned (.int .i64 (classI (b.toNat : Int))) ∧ w = w' := by
  have hs := sign_index b
  have hsr := @sign_range b
  obtain ⟨c, hc⟩ : ∃ c : Int, (b.toNat : Int) = c := ⟨_, rfl⟩
  have hi := Tryz.strings_IndexByte ⟨#[59, 46, 61, 44, 40, 41, 123, 125, 62, 63, 42, 43]⟩ c
  have hb : c.toNat.toUInt8 = b := by rw [← hc]; simp
  rw [hb] at hi
  rw [hc] at hs hsr ⊢
  have HC := Lib.hid (classI_cases c _ hs hsr)
  have HI := Lib.hid hi
  clear hs hsr hi hc hb
  go_enter Tryz.func37, Tryz.ntmps37
  go_wp2_with (go_at_call 50; refine (HI.out _).mono ?_; rintro e w' ⟨rfl, rfl⟩)
  all_goals
    go_ret
    refine ⟨ret_int ?_, rfl⟩
    have hcs := HC.out
    simp only [signL] at hcs
    simp only [beq_iff_eq, beq_eq_false_iff_ne] at *
    omega
end Go.Proofs.YtacgnbelcpmjfaaGreatDoor.Dx
