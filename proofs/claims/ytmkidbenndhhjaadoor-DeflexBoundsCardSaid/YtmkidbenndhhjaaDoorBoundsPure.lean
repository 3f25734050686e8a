/-
  PLAIN LAWS of DeflexBounds.
-/
import Derived.Test.YtmkidbenndhhjaaDoorLawBack
set_option linter.unusedVariables false
set_option linter.unusedSimpArgs false
namespace Go.Proofs.YtmkidbenndhhjaaDoor.Dx
open Go.RowKit Go.Proofs Mx Bx
/-- The word of a semicolon. -/
def semi : Wd := ⟨5, [59], 0, 0⟩
def semis (p n : Nat) : List (Nat × Wd) := (List.range n).map fun i => (p + i, semi)
theorem semis_succ (p n : Nat) : semis p (n + 1) = (p, semi) :: semis (p + 1) n := by
  unfold semis
  rw [List.range_succ_eq_map, List.map_cons, List.map_map]
  congr 1
  apply List.map_congr_left
  intro i _
  simp only [Function.comp]
  rw [show p + (i + 1) = p + 1 + i by omega]
theorem lexF_semis (n : Nat) : ∀ p, lexF p (List.replicate n 59) = (semis p n, none) := by
  induction n with
  | zero => intro p; exact lexF_end p [] rfl
  | succ n ih =>
    intro p
    have hs : skM false (59 :: List.replicate n 59) = 0 := by
      cases n <;> rfl
    have hw : wordF (59 :: List.replicate n 59) = some (semi, 1) := by
      rw [wordF]
      rw [if_neg (by decide), if_neg (by decide), if_neg (by decide), if_neg (by decide), if_pos (by decide)]
      rfl
    rw [List.replicate_succ, lexF_word p _ (59 :: List.replicate n 59) semi 1 (by rw [hs]; rfl) hw, hs]
    show ((p, semi) :: (lexF (p + 1) (List.replicate n 59)).1, (lexF (p + 1) (List.replicate n 59)).2) = _
    rw [ih, semis_succ]
theorem semis_snd (p n : Nat) : (semis p n).map (·.2) = List.replicate n semi := by
  induction n generalizing p with
  | zero => rfl
  | succ n ih => rw [semis_succ, List.map_cons, ih]; rfl
theorem semis_len (p n : Nat) : (semis p n).length = n := by simp [semis]
theorem tell_semis (n : Nat) : (tellL (List.replicate (n + 1) semi)).length = 2 * n + 1 := by
  induction n with
  | zero => rfl
  | succ n ih =>
    rw [List.replicate_succ, tellL_cons _ _ (by simp)]
    rw [List.length_append, List.length_cons, ih]
    show 1 + _ = _
    omega
theorem may_semis (n : Nat) : (List.replicate n semi).all mayF = true := by
  rw [List.all_eq_true]
  intro x hx
  rw [List.eq_of_mem_replicate hx]
  decide
end Go.Proofs.YtmkidbenndhhjaaDoor.Dx
