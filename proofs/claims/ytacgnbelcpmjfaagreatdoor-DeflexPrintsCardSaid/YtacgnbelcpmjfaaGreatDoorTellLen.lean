/-
  PLAIN LAWS: how long words are, told.
-/
import Derived.Test.YtacgnbelcpmjfaaGreatDoorPrintA
import Derived.Test.YtacgnbelcpmjfaaGreatDoorLaws
set_option linter.unusedVariables false
namespace Go.Proofs.YtacgnbelcpmjfaaGreatDoor.Dx
open Go
theorem setText_all (M : Nat) : (setText M).length ≤ 2400 := by
  have hit : ∀ N, (itemsT N).length ≤ 9 * 256 := by
    intro N
    have h1 : (rgL (bytesOf N)).length ≤ 256 := Nat.le_trans (rgL_len_le _) (bytesOf_len N)
    have h2 := items_len (rgL (bytesOf N))
    show ((rgL (bytesOf N)).flatMap itemT).length ≤ _
    omega
  have h1 := hit M
  have h2 := hit (notM M)
  unfold setText
  split <;> simp <;> omega
theorem told_all (v : Wd) (h : mayF v = true) : (toldF v).length ≤ 4 * v.text.length + 2500 := by
  rcases mayF_cases h with ⟨c, t, rfl, _⟩ | ⟨s, rfl⟩ | ⟨M, rfl⟩ | ⟨u, rfl, hu⟩ | ⟨c, rfl, _⟩
  · show (c :: t).length ≤ 4 * (c :: t).length + 2500; omega
  · have := quotes_len s
    show (34 :: (s.flatMap quoteB ++ [34])).length ≤ 4 * s.length + 2500
    rw [List.length_cons, List.length_append, List.length_singleton]
    omega
  · have := setText_all M
    show (setText M).length ≤ _
    omega
  · have h1 := dec_len u hu
    show (Lib.itoa (u : Int)).length ≤ _
    rw [itoa_nat]
    omega
  · show 1 ≤ _; omega
theorem tell_all (l : List Wd) (N : Nat) (h : l.all mayF = true) (hN : ∀ v ∈ l, v.text.length ≤ N) : (tellL l).length ≤ l.length * (4 * N + 2501) := by
  induction l with
  | nil => simp [tellL]
  | cons v t ih =>
    simp only [List.all_cons, Bool.and_eq_true] at h
    have h1 := told_all v h.1
    have h2 := hN v (by simp)
    have h3 := ih h.2 (fun x hx => hN x (by simp [hx]))
    have h4 := tellL_len v t
    rw [List.length_cons, Nat.add_mul]
    omega
end Go.Proofs.YtacgnbelcpmjfaaGreatDoor.Dx
