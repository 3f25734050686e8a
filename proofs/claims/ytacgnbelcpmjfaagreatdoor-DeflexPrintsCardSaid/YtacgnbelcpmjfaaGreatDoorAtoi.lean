/-
  PLAIN LAWS: a number of a text.
-/
import Derived.Test.YtacgnbelcpmjfaaGreatDoorLaws
import Derived.Lib.AtoiAllCases
set_option linter.unusedVariables false
namespace Go.Proofs.YtacgnbelcpmjfaaGreatDoor.Dx
open Go
def atoiO (l : List UInt8) : Option Int := match Lib.atoiAll l with
  | .ok v => some v
  | _ => none
theorem parse_dec : ∀ (l : List UInt8) (acc k : Nat), l.all digB = true → acc < 10 ^ k → l.length + k ≤ 9 → Lib.parseUint10 acc l = .ok (l.foldl (fun a c => 10 * a + (c.toNat - 48)) acc)
  | [], acc, k, _, _, _ => rfl
  | c :: t, acc, k, h, ha, hl => by
    rw [List.all_cons, Bool.and_eq_true] at h
    have hd := digitB_true.1 h.1
    have hp : 10 ^ k ≤ 10 ^ 9 := Nat.pow_le_pow_right (by decide) (by omega)
    have e9 : (10 : Nat) ^ 9 = 1000000000 := by decide
    rw [Lib.parseUint10, if_pos (by omega), if_neg (by omega), if_neg (by omega)]
    rw [parse_dec t _ (k + 1) h.2 (by rw [Nat.pow_succ]; omega) (by simp at hl; omega)]
    rw [List.foldl_cons, Nat.mul_comm]
theorem parse_bad : ∀ (l : List UInt8) (acc : Nat), l.all digB = false → ∀ v, Lib.parseUint10 acc l ≠ .ok v
  | [], acc, h => by cases h
  | c :: t, acc, h => by
    intro v
    rw [Lib.parseUint10]
    by_cases hd : 48 ≤ c.toNat ∧ c.toNat ≤ 57
    · rw [if_pos hd]
      split
      · exact fun e => by cases e
      · split
        · exact fun e => by cases e
        · refine parse_bad t _ ?_ v
          have : digB c = true := digitB_true.2 (by omega)
          rw [List.all_cons, this] at h
          simpa using h
    · rw [if_neg hd]; exact fun e => by cases e
theorem atoi_digit (c : UInt8) (t : List UInt8) (h : digB c = true) : Lib.atoiAll (c :: t) = Lib.signless (Lib.parseUint10 0 (c :: t)) := by
  have hd := digitB_true.1 h
  rw [Lib.atoiAll_plain c t (by omega) (by omega), Lib.parseMag, if_neg (by simp)]
theorem atoiO_num (c : UInt8) (t : List UInt8) (h : digB c = true) (n : Nat) (hn : numF (c :: t) = some n) : atoiO (c :: t) = some (n : Int) ∧ (c :: t).length ≤ 9 ∧ (c :: t = [48] ∨ c ≠ 48) := by
  unfold numF at hn
  split at hn
  · rename_i hc
    injection hn with hn
    have hp := parse_dec (c :: t) 0 0 hc.1 (by decide) (by omega)
    have hp' : Lib.parseUint10 0 (c :: t) = .ok n := by rw [hp, ← hn]; rfl
    have hlt := decF_lt _ hc.1
    have h10 : 10 ^ (c :: t).length ≤ 10 ^ 9 := Nat.pow_le_pow_right (by decide) hc.2.1
    have e9 : (10 : Nat) ^ 9 = 1000000000 := by decide
    refine ⟨?_, hc.2.1, ?_⟩
    · unfold atoiO
      rw [atoi_digit c t h, hp', Lib.signless, if_neg (by omega)]
    · rcases hc.2.2 with e | e
      · exact .inl e
      · exact .inr (by simpa using e)
  · cases hn
theorem atoiO_none (c : UInt8) (t : List UInt8) (h : digB c = true) (hn : numF (c :: t) = none) : atoiO (c :: t) = none ∨ (∃ v, atoiO (c :: t) = some v ∧ (9 < (c :: t).length ∨ ((c :: t).length ≤ 9 ∧ c :: t ≠ [48] ∧ c = 48))) := by
  cases ha : atoiO (c :: t) with
  | none => exact .inl rfl
  | some v =>
    refine .inr ⟨v, rfl, ?_⟩
    rcases Nat.lt_or_ge 9 (c :: t).length with hl | hl
    · exact .inl hl
    · refine .inr ⟨hl, ?_⟩
      have hall : (c :: t).all digB = true := by
        cases hd : (c :: t).all digB with
        | true => rfl
        | false =>
          have hb := parse_bad (c :: t) 0 hd
          unfold atoiO at ha
          rw [atoi_digit c t h] at ha
          cases hp : Lib.parseUint10 0 (c :: t) with
          | ok u => exact absurd hp (hb u)
          | range => rw [hp] at ha; cases ha
          | _ => rw [hp] at ha; cases ha
      unfold numF at hn
      split at hn
      · cases hn
      · rename_i hc
        constructor
        · intro e; exact hc ⟨hall, hl, .inl e⟩
        · rcases Decidable.em (c = 48) with e | e
          · exact e
          · exact absurd ⟨hall, hl, .inr (by simpa using e)⟩ hc
end Go.Proofs.YtacgnbelcpmjfaaGreatDoor.Dx
