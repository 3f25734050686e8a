/-
  PLAIN LAWS: the document's byte of a set's text; its number.
  PLAIN LAWS: the document's numbers.
-/
import Derived.Test.YtacgnbelcpmjfaaGreatDoorLaws
import Derived.Deep.RegionWith
set_option linter.unusedVariables false
namespace Go.Proofs.YtacgnbelcpmjfaaGreatDoor.Dx
open Go
/-- Where a byte's own text stands. -/
theorem take_pre (l : List UInt8) (b : UInt8) (h : oneF b <+: l) : takeF l = some (b, (oneF b).length) := by
  obtain ⟨t, rfl⟩ := h
  exact takeF_one b t
/-- Where no byte's own text stands. -/
def restH : List UInt8 → Option (UInt8 × Nat)
  | 32 :: _ => some (32, 1)
  | 92 :: 120 :: u => takeH u
  | _ => none
theorem restH_32 (t : List UInt8) : restH (32 :: t) = some (32, 1) := rfl
theorem restH_x (u : List UInt8) : restH (92 :: 120 :: u) = takeH u := rfl
theorem restH_1 (c : UInt8) (t : List UInt8) (h1 : c ≠ 32) (h2 : c ≠ 92) : restH (c :: t) = none := by
  unfold restH
  split
  · rename_i h; injection h with h _; exact absurd h h1
  · rename_i h; injection h with h _; exact absurd h h2
  · rfl
theorem restH_2 (d : UInt8) (t : List UInt8) (h1 : d ≠ 120) : restH (92 :: d :: t) = none := by
  unfold restH
  split
  · rename_i h; injection h with h _; exact absurd h (by decide)
  · rename_i h; injection h with _ h; injection h with h _; exact absurd h h1
  · rfl
theorem take_rest (l : List UInt8) (h : ∀ b : UInt8, ¬ oneF b <+: l) : takeF l = restH l := by
  cases l with
  | nil => rfl
  | cons c t =>
    rw [takeF]
    by_cases h92 : c = 92
    · subst h92
      rw [if_pos rfl]
      cases t with
      | nil => rfl
      | cons d u =>
        rw [takeB]
        by_cases hm : marksL.contains d = true
        · exfalso
          have h1 : oneF (unmark d) = [92, d] := by
            rcases marks_some d hm with rfl | rfl | rfl | rfl | rfl | rfl | rfl | rfl <;> rfl
          exact h (unmark d) ⟨u, by rw [h1]; rfl⟩
        · rw [if_neg hm]
          by_cases hx : d = 120
          · subst hx; rw [if_pos rfl, restH_x]
          · rw [if_neg hx, restH_2 d u hx]
    · rw [if_neg h92]
      by_cases h32 : c = 32
      · subst h32; rfl
      · rw [restH_1 c t h32 h92, if_neg]
        rintro ⟨h1, h2, h3⟩
        have hc : oneF c = [c] := by
          have h4 : c.toNat ≠ 32 := fun e => h32 (UInt8.toNat_inj.1 e)
          simp [markedL] at h3
          obtain ⟨n1, n2, n3, n4, n5, n6, n7, n8⟩ := h3
          unfold oneF
          rw [if_neg n1, if_neg n2, if_neg n3, if_neg (by rintro (e | e | e | e | e) <;> contradiction), if_pos ⟨by omega, h2⟩]
        exact h c ⟨t, by rw [hc]; rfl⟩
/-- Hexadecimal digits. -/
theorem takeH_two (a b : UInt8) (u : List UInt8) : takeH (a :: b :: u) = if 0 ≤ hexI a ∧ 0 ≤ hexI b then some (UInt8.ofNat (16 * hexI a + hexI b).toNat, 4) else none := rfl
theorem takeH_short (l : List UInt8) (h : l.length < 2) : takeH l = none := by
  match l, h with
  | [], _ => rfl
  | [_], _ => rfl
end Go.Proofs.YtacgnbelcpmjfaaGreatDoor.Dx
namespace Go.Proofs.YtacgnbelcpmjfaaGreatDoor.Dx
open Go
/-- The digits ahead, and the letters and digits ahead. -/
theorem tw_split (l : List UInt8) : l.takeWhile wordB = l.takeWhile digB ++ (l.drop (l.takeWhile digB).length).takeWhile wordB := by
  induction l with
  | nil => rfl
  | cons c t ih =>
    by_cases hd : digB c = true
    · have hw : wordB c = true := by rw [wordB]; show (_ || digB c) = true; rw [hd]; simp
      rw [List.takeWhile_cons, if_pos hw, List.takeWhile_cons, if_pos hd, ih]
      simp
    · rw [List.takeWhile_cons (p := digB), if_neg hd]; rfl
theorem dig_after (l : List UInt8) (d : UInt8) (h : (l.drop (l.takeWhile digB).length).head? = some d) : digB d = false := by
  induction l with
  | nil => simp at h
  | cons c t ih =>
    by_cases hd : digB c = true
    · rw [List.takeWhile_cons, if_pos hd] at h
      exact ih (by simpa using h)
    · rw [List.takeWhile_cons, if_neg hd] at h
      simp at h
      subst h
      simpa using hd
/-- A number, the document's way. -/
theorem num_doc (l : List UInt8) (D E : List UInt8) (hD : l.takeWhile digB = D) (hE : l.drop D.length = E) :
    (∀ d, E.head? = some d → letterB (d.toNat : Int) = true → numF (l.takeWhile wordB) = none) ∧
    ((∀ d, E.head? = some d → letterB (d.toNat : Int) = false) → l.takeWhile wordB = D ∧
      numF (l.takeWhile wordB) = if D.length ≤ 9 ∧ (D = [48] ∨ D.head? ≠ some 48) then some (decF D) else none) := by
  have hs := tw_split l
  have ha := dig_after l
  rw [hD] at hs ha
  rw [hE] at hs ha
  have hall : D.all digB = true := by
    rw [← hD]
    exact List.all_takeWhile
  constructor
  · intro d hd hl
    cases E with
    | nil => cases hd
    | cons x u =>
      simp at hd
      subst hd
      have hw : wordB x = true := by rw [wordB, hl]; rfl
      rw [hs, List.takeWhile_cons, if_pos hw, numF, if_neg]
      rintro ⟨h1, _⟩
      rw [List.all_append, List.all_cons, ha x rfl] at h1
      simp at h1
  · intro h
    have he : E.takeWhile wordB = [] := by
      cases E with
      | nil => rfl
      | cons x u =>
        have hw : wordB x = false := by
          rw [wordB, h x rfl]
          exact ha x rfl
        rw [List.takeWhile_cons, hw]; rfl
    rw [he, List.append_nil] at hs
    refine ⟨hs, ?_⟩
    rw [hs, numF]
    simp only [hall, true_and]
end Go.Proofs.YtacgnbelcpmjfaaGreatDoor.Dx
set_option linter.unusedVariables false
set_option linter.unusedSimpArgs false
namespace Go.Proofs.YtacgnbelcpmjfaaGreatDoor.Dx
open Go.RowKit Go.Proofs Mx
theorem class2 (c : UInt8) (h : classI (c.toNat : Int) = 2) : letterB (c.toNat : Int) = false ∧ digitB (c.toNat : Int) = true ∧ c ≠ 34 ∧ c ≠ 91 := by
  revert h
  exact all_bytes (p := fun c => classI (c.toNat : Int) = 2 → letterB (c.toNat : Int) = false ∧ digitB (c.toNat : Int) = true ∧ c ≠ 34 ∧ c ≠ 91) (by decide +kernel) c
theorem digit_range (c : UInt8) (h : digitB (c.toNat : Int) = true) : 48 ≤ c.toNat ∧ c.toNat ≤ 57 := by
  revert h
  exact all_bytes (p := fun c => digitB (c.toNat : Int) = true → 48 ≤ c.toNat ∧ c.toNat ≤ 57) (by decide +kernel) c
/-- The number so far, at most 10000000000. -/
def capF (l : List UInt8) : Nat := l.foldl (fun a c => min (10 * a + (c.toNat - 48)) 10000000000) 0
theorem cap_snoc (l : List UInt8) (c : UInt8) : capF (l ++ [c]) = min (10 * capF l + (c.toNat - 48)) 10000000000 := by simp [capF, List.foldl_append]
theorem cap_dec_from (l : List UInt8) : ∀ (a n : Nat), a < 10 ^ n → n + l.length ≤ 9 → l.all digB = true →
    l.foldl (fun a c => min (10 * a + (c.toNat - 48)) 10000000000) a = l.foldl (fun a c => 10 * a + (c.toNat - 48)) a := by
  induction l with
  | nil => intro a n _ _ _; rfl
  | cons c t ih =>
    intro a n ha hn hd
    rw [List.all_cons, Bool.and_eq_true] at hd
    have hc := digit_range c hd.1
    rw [List.length_cons] at hn
    have hp : 10 * a + (c.toNat - 48) < 10 ^ (n + 1) := by rw [Nat.pow_succ]; omega
    have hq : 10 ^ (n + 1) ≤ 10 ^ 9 := Nat.pow_le_pow_right (by decide) (by omega)
    rw [List.foldl_cons, List.foldl_cons, Nat.min_eq_left (by omega)]
    exact ih _ (n + 1) hp (by omega) hd.2
theorem cap_dec (l : List UInt8) (h : l.length ≤ 9) (hd : l.all digB = true) : capF l = decF l := cap_dec_from l 0 0 (by decide) (by omega) hd
theorem wn_add (k : Nat) (h : k ≤ 500000000) : IntKind.i64.wrap ((k : Int) + 1) = (k : Int) + 1 := by rw [IntKind.wrap_i64]; omega
theorem wn_sub (i k : Nat) (h : i ≤ 500000000) (h2 : k ≤ i) : IntKind.i64.wrap ((i : Int) - (k : Int)) = (i : Int) - (k : Int) := by rw [IntKind.wrap_i64]; omega
def dw (s : ByteArray) (i : Nat) : Nat := ((s.data.toList.drop i).takeWhile digB).length
theorem dw_lt (s : ByteArray) (i : Nat) (h : i < s.size) : dw s i = if digB s[i] then dw s (i + 1) + 1 else 0 := by
  unfold dw
  rw [drop_cons s i h, List.takeWhile_cons]
  split <;> simp
theorem dw_end (s : ByteArray) : dw s s.size = 0 := by
  unfold dw
  rw [drop_all s _ (Nat.le_refl _)]; rfl
theorem take_snoc (s : ByteArray) (k i : Nat) (hk : k ≤ i) (h : i < s.size) : (s.data.toList.drop k).take (i + 1 - k) = (s.data.toList.drop k).take (i - k) ++ [s[i]] := by
  have h1 : (s.data.toList.drop k)[i - k]? = some s[i] := by
    rw [List.getElem?_drop, show k + (i - k) = i by omega]
    have := drop_cons s i h
    have h2 : s.data.toList[i]? = (s.data.toList.drop i)[0]? := by rw [List.getElem?_drop, Nat.add_zero]
    rw [h2, this]; rfl
  rw [show i + 1 - k = i - k + 1 by omega, List.take_add_one, h1]
  rfl
/-- What the walk over the digits has shown, at its end. -/
theorem num_end (s : ByteArray) (k i : Nat) (c : UInt8) (hk : k < s.size) (hc : s[k] = c) (hcl : classI (c.toNat : Int) = 2) (hki : k < i) (hi : i ≤ s.size) (hd : dw s k = i - k) (n : Nat) (hn : n = capF ((s.data.toList.drop k).take (i - k))) :
    (∀ h : i < s.size, letterB (s[i].toNat : Int) = true → wordF (s.data.toList.drop k) = none) ∧
    ((∀ h : i < s.size, letterB (s[i].toNat : Int) = false) →
      wordF (s.data.toList.drop k) = if i - k ≤ 9 ∧ (c ≠ 48 ∨ i = k + 1) then some (⟨4, [], 0, (n : Int)⟩, i - k) else none) := by
  have hD : (s.data.toList.drop k).takeWhile digB = (s.data.toList.drop k).take (i - k) := by
    have := List.prefix_iff_eq_take.1 (List.takeWhile_prefix (l := s.data.toList.drop k) digB)
    rw [this]
    show List.take (dw s k) _ = _
    rw [hd]
  have hall : ((s.data.toList.drop k).take (i - k)).all digB = true := by rw [← hD]; exact List.all_takeWhile
  have hlen : ((s.data.toList.drop k).take (i - k)).length = i - k := by rw [← hD]; exact hd
  obtain ⟨D, hDD⟩ : ∃ D, (s.data.toList.drop k).take (i - k) = D := ⟨_, rfl⟩
  rw [hDD] at hD hall hlen hn
  have hE : (s.data.toList.drop k).drop D.length = s.data.toList.drop i := by rw [hlen, List.drop_drop]; congr 1; omega
  obtain ⟨N1, N2⟩ := num_doc (s.data.toList.drop k) D (s.data.toList.drop i) hD hE
  have hw : wordF (s.data.toList.drop k) = (numF ((s.data.toList.drop k).takeWhile wordB)).map fun (n : Nat) => (⟨4, [], 0, (n : Int)⟩, ((s.data.toList.drop k).takeWhile wordB).length) := by
    rw [drop_cons s k hk, hc, wordF, hcl]
    rw [if_neg (by decide), if_pos (by decide)]
  have hhead : D.head? = some c := by
    rw [← hDD, drop_cons s k hk, hc, show i - k = (i - k - 1) + 1 by omega, List.take_succ_cons]; rfl
  refine ⟨fun h hl => ?_, fun hl => ?_⟩
  · rw [hw, N1 s[i] (by rw [drop_cons s i h]; rfl) hl]; rfl
  · obtain ⟨h1, h2⟩ := N2 (by
      intro e he
      rcases Nat.lt_or_ge i s.size with h | h
      · rw [drop_cons s i h] at he
        simp at he
        subst he
        exact hl h
      · rw [drop_all s i h] at he; cases he)
    rw [hw, h2, h1, hlen]
    have hiff : (D = [48] ∨ D.head? ≠ some 48) ↔ (c ≠ 48 ∨ i = k + 1) := by
      rw [hhead]
      constructor
      · rintro (h | h)
        · right
          rw [h] at hlen
          simp at hlen
          omega
        · left
          intro e; exact h (by rw [e])
      · rintro (h | h)
        · right
          intro e; injection e with e; exact h e
        · cases D with
          | nil => simp at hhead
          | cons x t =>
            simp at hhead hlen
            have ht : t = [] := List.eq_nil_of_length_eq_zero (by omega)
            subst ht; subst hhead
            by_cases h48 : x = 48
            · left; rw [h48]
            · right; intro e; simp at e; exact h48 e
    by_cases h9 : i - k ≤ 9
    · by_cases hz : c ≠ 48 ∨ i = k + 1
      · rw [if_pos ⟨h9, hiff.2 hz⟩, if_pos ⟨h9, hz⟩, hn, cap_dec D (by omega) hall]
        simp
      · rw [if_neg (fun h => hz (hiff.1 h.2)), if_neg (fun h => hz h.2)]; rfl
    · rw [if_neg (fun h => h9 h.1), if_neg (fun h => h9 h.1)]; rfl
end Go.Proofs.YtacgnbelcpmjfaaGreatDoor.Dx
