/-
  PLAIN LAWS of DeflexGaps.
-/
import Derived.Test.YtmkidbenndhhjaaDoorLawBack
set_option linter.unusedVariables false
set_option linter.unusedSimpArgs false
namespace Go.Proofs.YtmkidbenndhhjaaDoor.Dx
open Go.RowKit Go.Proofs Mx Bx
def gapOf (j : Nat) : List UInt8 := if j = 0 then [32] else if j = 1 then [10] else if j = 2 then [47, 47, 10] else [9, 13, 32, 47, 47, 32, 97, 34, 91, 47, 42, 10]
theorem gapG_of (j : Nat) : gapG (gapOf j) := by
  unfold gapOf
  split
  · exact ⟨fun l => by simp [skM, blankB, blankL]; try omega, 32, [], rfl, by decide⟩
  split
  · exact ⟨fun l => by simp [skM, blankB, blankL]; try omega, 10, [], rfl, by decide⟩
  split
  · exact ⟨fun l => by simp [skM, blankB, blankL]; try omega, 47, _, rfl, by decide⟩
  · exact ⟨fun l => by simp [skM, blankB, blankL]; try omega, 9, _, rfl, by decide⟩
theorem gapOf_len (j : Nat) : (gapOf j).length ≤ 12 := by
  unfold gapOf
  (repeat' split) <;> simp
theorem gapText_snoc (l : List (List UInt8 × Wd)) (g : List UInt8) (v : Wd) : gapText (l ++ [(g, v)]) = gapText l ++ (g ++ toldF v) := by
  induction l with
  | nil => simp [gapText]
  | cons q t ih => obtain ⟨a, b⟩ := q; rw [List.cons_append, gapText, gapText, ih]; simp
theorem gapPlaces_snoc (l : List (List UInt8 × Wd)) (g : List UInt8) (v : Wd) : ∀ p, gapPlaces p (l ++ [(g, v)]) = gapPlaces p l ++ [(p + (gapText l).length + g.length, v)] := by
  induction l with
  | nil => intro p; simp [gapText, gapPlaces]
  | cons q t ih =>
    intro p
    obtain ⟨a, b⟩ := q
    rw [List.cons_append, gapPlaces, gapPlaces, ih, gapText, List.cons_append]
    simp only [List.length_append]
    rw [show p + a.length + (toldF b).length + (gapText t).length + g.length = p + (a.length + ((toldF b).length + (gapText t).length)) + g.length by omega]
theorem gapPlaces_snd (l : List (List UInt8 × Wd)) : ∀ p, (gapPlaces p l).map (·.2) = l.map (·.2) := by
  induction l with
  | nil => intro p; rfl
  | cons q t ih => intro p; obtain ⟨a, b⟩ := q; rw [gapPlaces, List.map_cons, List.map_cons, ih]
theorem gapPlaces_len (l : List (List UInt8 × Wd)) (p : Nat) : (gapPlaces p l).length = l.length := by
  have := congrArg List.length (gapPlaces_snd l p)
  simpa using this
/-- What Lex reads of such a text with a comment behind it. -/
theorem gaps_end (l : List (List UInt8 × Wd)) (h : ∀ q ∈ l, gapG q.1 ∧ mayW q.2) : lexF 0 (gapText l ++ [10, 32, 47, 47]) = (gapPlaces 0 l, none) := by
  have ht : ∀ p, lexF p [10, 32, 47, 47] = ([], none) := fun p => lexF_end p _ (by decide)
  rw [lexF_gaps l [10, 32, 47, 47] (by intro c hc; cases hc; decide) 0 h, ht]
  simp
/-- .. with what is no word behind it. -/
theorem gaps_bad (l : List (List UInt8 × Wd)) (h : ∀ q ∈ l, gapG q.1 ∧ mayW q.2) : (lexF 0 (gapText l ++ [32, 35])).2 = some ((gapText l).length + 1) := by
  have ht : ∀ p, lexF p [32, 35] = ([], some (p + 1)) := fun p => lexF_bad p _ [35] (by decide) (by simp) (by decide +kernel)
  rw [lexF_gaps l [32, 35] (by intro c hc; cases hc; decide) 0 h, ht]
  simp
theorem and3 (x : Int) : ∃ j : Nat, j < 4 ∧ bits BinOp.and IntKind.i64 x 3 = (j : Int) := by
  refine ⟨(BitVec.ofInt 64 x).toNat % 4, Nat.mod_lt _ (by decide), ?_⟩
  show IntKind.i64.wrap (((BitVec.ofInt 64 x) &&& (BitVec.ofInt 64 3)).toNat : Int) = _
  rw [BitVec.toNat_and, show (BitVec.ofInt 64 3).toNat = 2 ^ 2 - 1 by decide, Nat.and_two_pow_sub_one_eq_mod]
  have h4 : (BitVec.ofInt 64 x).toNat % 2 ^ 2 < 4 := Nat.mod_lt _ (by decide)
  rw [show (4 : Nat) = 2 ^ 2 by decide]
  generalize (BitVec.ofInt 64 x).toNat % 2 ^ 2 = m at h4 ⊢
  match m, h4 with
  | 0, _ => rfl
  | 1, _ => rfl
  | 2, _ => rfl
  | 3, _ => rfl
end Go.Proofs.YtmkidbenndhhjaaDoor.Dx
