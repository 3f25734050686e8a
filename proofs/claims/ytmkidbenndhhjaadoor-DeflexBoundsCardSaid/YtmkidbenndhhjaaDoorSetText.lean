/-
  PLAIN LAWS: what stands in quotes, a byte of a set.
  PLAIN LAWS: a set and its text.
-/
import Derived.Test.YtmkidbenndhhjaaDoorWords
set_option linter.unusedVariables false
namespace Go.Proofs.YtmkidbenndhhjaaDoor.Dx
open Go
def hexd (n : Nat) : UInt8 := if n < 10 then UInt8.ofNat (48 + n) else UInt8.ofNat (87 + n)
/-- A byte within quotes. -/
def quoteB (c : UInt8) : List UInt8 :=
  if c = 10 then [92, 110] else if c = 9 then [92, 116] else if c = 13 then [92, 114] else if c = 34 then [92, 34] else if c = 92 then [92, 92]
  else if c.toNat < 32 ∨ 126 < c.toNat then [92, 120, hexd (c.toNat / 16), hexd (c.toNat % 16)] else [c]
def quoteF (s : List UInt8) : List UInt8 := 34 :: (s.flatMap quoteB ++ [34])
theorem hexI_hexd (n : Nat) (h : n < 16) : hexI (hexd n) = n := by
  have : (List.range 16).all (fun n => decide (hexI (hexd n) = n)) = true := by decide +kernel
  simpa using List.all_eq_true.1 this n (by simp; omega)
theorem byte_of_hex (c : UInt8) : UInt8.ofNat (16 * hexI (hexd (c.toNat / 16)) + hexI (hexd (c.toNat % 16))).toNat = c := by
  have := c.toNat_lt
  rw [hexI_hexd _ (by omega), hexI_hexd _ (by omega)]
  apply UInt8.toNat_inj.1
  simp
  omega
theorem escF_hex (c : UInt8) (t : List UInt8) : escF (120 :: hexd (c.toNat / 16) :: hexd (c.toNat % 16) :: t) = some (c, 3) := by
  have := c.toNat_lt
  rw [escF, if_neg (by decide), if_pos rfl, escH, if_pos (by rw [hexI_hexd _ (by omega), hexI_hexd _ (by omega)]; omega), byte_of_hex]
theorem escF_plain (d : UInt8) (t : List UInt8) (h : plainL.contains d = true) : escF (d :: t) = some (meansB d, 1) := by
  rw [escF, if_pos h]
theorem txt_quoteB (c : UInt8) (t : List UInt8) : txt (quoteB c ++ t) = (txt t).map fun p => (c :: p.1, p.2 + (quoteB c).length) := by
  unfold quoteB
  by_cases h1 : c = 10
  · subst h1; rw [if_pos rfl]; show txt (92 :: 110 :: t) = _; rw [txt_esc, escF_plain _ _ (by decide)]; rfl
  rw [if_neg h1]
  by_cases h2 : c = 9
  · subst h2; rw [if_pos rfl]; show txt (92 :: 116 :: t) = _; rw [txt_esc, escF_plain _ _ (by decide)]; rfl
  rw [if_neg h2]
  by_cases h3 : c = 13
  · subst h3; rw [if_pos rfl]; show txt (92 :: 114 :: t) = _; rw [txt_esc, escF_plain _ _ (by decide)]; rfl
  rw [if_neg h3]
  by_cases h4 : c = 34
  · subst h4; rw [if_pos rfl]; show txt (92 :: 34 :: t) = _; rw [txt_esc, escF_plain _ _ (by decide)]; rfl
  rw [if_neg h4]
  by_cases h5 : c = 92
  · subst h5; rw [if_pos rfl]; show txt (92 :: 92 :: t) = _; rw [txt_esc, escF_plain _ _ (by decide)]; rfl
  rw [if_neg h5]
  by_cases h6 : c.toNat < 32 ∨ 126 < c.toNat
  · rw [if_pos h6]; show txt (92 :: 120 :: hexd _ :: hexd _ :: t) = _; rw [txt_esc, escF_hex]; rfl
  · rw [if_neg h6]; show txt (c :: t) = _; rw [txt_plain c t h4 h6 h5]; rfl
theorem txt_quotes (s t : List UInt8) : txt (s.flatMap quoteB ++ 34 :: t) = some (s, (s.flatMap quoteB).length + 1) := by
  induction s with
  | nil => rfl
  | cons c s ih =>
    rw [List.flatMap_cons, List.append_assoc, txt_quoteB, ih]
    simp; omega
/-- A byte of a set's text. -/
def oneF (c : UInt8) : List UInt8 :=
  if c = 9 then [92, 116] else if c = 10 then [92, 110] else if c = 13 then [92, 114]
  else if c = 92 ∨ c = 91 ∨ c = 93 ∨ c = 45 ∨ c = 94 then [92, c]
  else if 32 < c.toNat ∧ c.toNat < 127 then [c] else [92, 120, hexd (c.toNat / 16), hexd (c.toNat % 16)]
theorem oneF_cases (c : UInt8) : (∃ d, oneF c = [92, d] ∧ marksL.contains d = true ∧ unmark d = c) ∨ (oneF c = [c] ∧ 32 < c.toNat ∧ c.toNat < 127 ∧ markedL.contains c = false) ∨
    (oneF c = [92, 120, hexd (c.toNat / 16), hexd (c.toNat % 16)]) := by
  unfold oneF
  by_cases h1 : c = 9
  · subst h1; exact .inl ⟨116, rfl, rfl, rfl⟩
  rw [if_neg h1]
  by_cases h2 : c = 10
  · subst h2; exact .inl ⟨110, rfl, rfl, rfl⟩
  rw [if_neg h2]
  by_cases h3 : c = 13
  · subst h3; exact .inl ⟨114, rfl, rfl, rfl⟩
  rw [if_neg h3]
  by_cases h4 : c = 92 ∨ c = 91 ∨ c = 93 ∨ c = 45 ∨ c = 94
  · rw [if_pos h4]
    refine .inl ⟨c, rfl, ?_⟩
    rcases h4 with rfl | rfl | rfl | rfl | rfl <;> exact ⟨rfl, rfl⟩
  rw [if_neg h4]
  by_cases h5 : 32 < c.toNat ∧ c.toNat < 127
  · rw [if_pos h5]
    refine .inr (.inl ⟨rfl, h5.1, h5.2, ?_⟩)
    simp [markedL] at h1 h2 h3 h4 ⊢
    exact ⟨h1, h2, h3, h4⟩
  · rw [if_neg h5]; exact .inr (.inr rfl)
theorem takeF_one (c : UInt8) (t : List UInt8) : takeF (oneF c ++ t) = some (c, (oneF c).length) := by
  rcases oneF_cases c with ⟨d, h, hd, hu⟩ | ⟨h, h1, h2, h3⟩ | h
  · rw [h]; show takeF (92 :: d :: t) = _
    rw [takeF, if_pos rfl, takeB, if_pos hd, hu]; rfl
  · rw [h]; show takeF (c :: t) = _
    rw [takeF, if_neg (by rintro rfl; revert h3; decide), if_pos ⟨by omega, h2, h3⟩]; rfl
  · have := c.toNat_lt
    rw [h]; show takeF (92 :: 120 :: hexd _ :: hexd _ :: t) = _
    rw [takeF, if_pos rfl, takeB, if_neg (by decide), if_pos rfl, takeH, if_pos (by rw [hexI_hexd _ (by omega), hexI_hexd _ (by omega)]; omega), byte_of_hex]; rfl
theorem hexd_ne (n : Nat) (h : n < 16) : hexd n ≠ 92 ∧ hexd n ≠ 93 := by
  have : (List.range 16).all (fun n => decide (hexd n ≠ 92 ∧ hexd n ≠ 93)) = true := by decide +kernel
  simpa using List.all_eq_true.1 this n (by simp; omega)
theorem scanB_one (c : UInt8) (t : List UInt8) : scanB (oneF c ++ t) = (scanB t).map (· + (oneF c).length) := by
  rcases oneF_cases c with ⟨d, h, hd, hu⟩ | ⟨h, h1, h2, h3⟩ | h
  · rw [h]; show scanB (92 :: d :: t) = _
    rw [scanB_esc]; rfl
  · rw [h]; show scanB (c :: t) = _
    rw [scanB_other c t (by rintro rfl; revert h3; decide) (by rintro rfl; revert h3; decide)]; rfl
  · have := c.toNat_lt
    have h1 := hexd_ne (c.toNat / 16) (by omega)
    have h2 := hexd_ne (c.toNat % 16) (by omega)
    rw [h]; show scanB (92 :: 120 :: hexd _ :: hexd _ :: t) = _
    rw [scanB_esc]
    show (scanB (hexd _ :: hexd _ :: t)).map _ = _
    rw [scanB_other _ _ h1.1 h1.2, scanB_other _ _ h2.1 h2.2]
    cases scanB t <;> simp
theorem oneF_head (c : UInt8) (t : List UInt8) : (oneF c ++ t).head? ≠ some 45 ∧ oneF c ++ t ≠ [93] ∧ (oneF c ++ t).head? ≠ some 94 := by
  rcases oneF_cases c with ⟨d, h, hd, hu⟩ | ⟨h, h1, h2, h3⟩ | h
  · rw [h]; simp
  · rw [h]
    simp only [List.cons_append, List.nil_append, List.head?_cons, ne_eq, Option.some.injEq]
    refine ⟨by rintro rfl; revert h3; decide, ?_, by rintro rfl; revert h3; decide⟩
    intro e; injection e with e _; subst e; revert h3; decide
  · rw [h]; simp
/-- A range's text. -/
def itemT (p : UInt8 × UInt8) : List UInt8 :=
  oneF p.1 ++ ((if p.2.toNat - p.1.toNat > 1 then [45] else []) ++ (if p.2 ≠ p.1 then oneF p.2 else []))
/-- A range as it is read again: two bytes are two ranges. -/
def again (p : UInt8 × UInt8) : List (UInt8 × UInt8) :=
  if p.2 = p.1 then [(p.1, p.1)] else if p.2.toNat - p.1.toNat > 1 then [p] else [(p.1, p.1), (p.2, p.2)]
def noDash (t : List UInt8) : Prop := t.head? ≠ some 45
theorem itemT_head (p : UInt8 × UInt8) (t : List UInt8) : noDash (itemT p ++ t) ∧ itemT p ++ t ≠ [93] ∧ (itemT p ++ t).head? ≠ some 94 := by
  unfold itemT noDash
  rw [List.append_assoc]
  exact oneF_head _ _
theorem drop_app (a b : List UInt8) : (a ++ b).drop a.length = b := by simp
theorem itemsF_item (p : UInt8 × UInt8) (t : List UInt8) (hle : p.1.toNat ≤ p.2.toNat) (ht : noDash t) : itemsF (itemT p ++ t) = (itemsF t).map (again p ++ ·) := by
  obtain ⟨a, b⟩ := p
  have hne := itemT_head (a, b) t
  have hne' := hne.2.1
  unfold itemT again at *
  simp only at *
  by_cases hba : b = a
  · subst hba
    simp only [ne_eq, not_true, if_false, Nat.sub_self, gt_iff_lt, Nat.not_lt_zero, List.append_nil, if_true] at hne' ⊢
    rw [itemsF_one _ hne' b _ (takeF_one b t) (by rw [drop_app]; exact ht), drop_app]
    rfl
  · have hlt : a.toNat < b.toNat := by
      rcases Nat.lt_or_ge a.toNat b.toNat with h | h
      · exact h
      · exact absurd (UInt8.toNat_inj.1 (by omega)) hba
    by_cases hd : b.toNat - a.toNat > 1
    · simp only [if_pos hd, ne_eq, hba, not_false_eq_true, if_true, if_false, List.append_assoc] at hne' ⊢
      rw [itemsF_two _ hne' a _ (takeF_one a _) (by rw [drop_app]; rfl)]
      have e1 : (oneF a ++ ([45] ++ (oneF b ++ t))).drop ((oneF a).length + 1) = oneF b ++ t := by
        rw [← List.drop_drop, drop_app]; rfl
      rw [e1, takeF_one b t]
      simp only
      have e2 : (oneF a ++ ([45] ++ (oneF b ++ t))).drop ((oneF a).length + 1 + (oneF b).length) = t := by
        rw [← List.drop_drop, e1, drop_app]
      rw [e2]
      rfl
    · simp only [if_neg hd, ne_eq, hba, not_false_eq_true, if_true, if_false, List.append_assoc, List.nil_append] at hne' ⊢
      have hb := oneF_head b t
      rw [itemsF_one _ hne' a _ (takeF_one a _) (by rw [drop_app]; exact hb.1), drop_app,
        itemsF_one _ hb.2.1 b _ (takeF_one b t) (by rw [drop_app]; exact ht), drop_app]
      cases itemsF t <;> rfl
theorem itemsF_items (l : List (UInt8 × UInt8)) (h : ∀ p ∈ l, p.1.toNat ≤ p.2.toNat) : itemsF (l.flatMap itemT ++ [93]) = some (l.flatMap again) := by
  induction l with
  | nil => exact itemsF_end
  | cons p t ih =>
    rw [List.flatMap_cons, List.append_assoc, itemsF_item p _ (h p (by simp)), ih (fun q hq => h q (by simp [hq]))]
    · simp
    · cases t with
      | nil => simp [noDash]
      | cons q t => rw [List.flatMap_cons, List.append_assoc]; exact (itemT_head q _).1
theorem scanB_item (p : UInt8 × UInt8) (t : List UInt8) : scanB (itemT p ++ t) = (scanB t).map (· + (itemT p).length) := by
  obtain ⟨a, b⟩ := p
  unfold itemT
  simp only [List.append_assoc]
  rw [scanB_one]
  have h2 : ∀ t, scanB ((if b ≠ a then oneF b else []) ++ t) = (scanB t).map (· + (if b ≠ a then oneF b else []).length) := by
    intro t
    by_cases h : b ≠ a
    · simp only [if_pos h]; exact scanB_one b t
    · simp only [if_neg h]; cases hs : scanB t <;> simp [hs]
  have h1 : ∀ t, scanB ((if b.toNat - a.toNat > 1 then [45] else []) ++ t) = (scanB t).map (· + (if b.toNat - a.toNat > 1 then [(45 : UInt8)] else []).length) := by
    intro t
    by_cases h : b.toNat - a.toNat > 1
    · simp only [if_pos h]; exact scanB_other 45 t (by decide) (by decide)
    · simp only [if_neg h]; cases hs : scanB t <;> simp [hs]
  rw [h1, h2]
  cases scanB t <;> simp
  omega
theorem scanB_items (l : List (UInt8 × UInt8)) (t : List UInt8) : scanB (l.flatMap itemT ++ t) = (scanB t).map (· + (l.flatMap itemT).length) := by
  induction l with
  | nil => cases hs : scanB t <;> simp [hs]
  | cons p l ih =>
    rw [List.flatMap_cons, List.append_assoc, scanB_item, ih]
    cases scanB t <;> simp
    omega
end Go.Proofs.YtmkidbenndhhjaaDoor.Dx
set_option linter.unusedVariables false
namespace Go.Proofs.YtmkidbenndhhjaaDoor.Dx
open Go
def inR (i : Nat) (p : UInt8 × UInt8) : Bool := decide (p.1.toNat ≤ i) && decide (i ≤ p.2.toNat)
theorem inR_iff {i : Nat} {p : UInt8 × UInt8} : inR i p = true ↔ p.1.toNat ≤ i ∧ i ≤ p.2.toNat := by simp [inR]
theorem fillM_bit (n : Nat) : ∀ (M a i : Nat), (fillM M a n).testBit i = (M.testBit i || (decide (a ≤ i) && decide (i < a + n))) := by
  induction n with
  | zero => intro M a i; rw [fillM]; by_cases h : a ≤ i <;> simp [h]; omega
  | succ n ih =>
    intro M a i
    rw [fillM, ih, Nat.testBit_or, Nat.testBit_two_pow]
    cases M.testBit i with
    | true => simp
    | false =>
      rw [Bool.eq_iff_iff]
      simp only [Bool.false_or, Bool.or_eq_true, Bool.and_eq_true, decide_eq_true_eq]
      omega
theorem makeF_bit (l : List (UInt8 × UInt8)) : ∀ (M : Nat), (∀ p ∈ l, p.1.toNat ≤ p.2.toNat) → ∃ N, makeF M l = some N ∧ ∀ i, N.testBit i = (M.testBit i || l.any (inR i)) := by
  induction l with
  | nil => intro M h; exact ⟨M, rfl, by simp⟩
  | cons p t ih =>
    intro M h
    obtain ⟨a, b⟩ := p
    have hab : a.toNat ≤ b.toNat := h (a, b) (by simp)
    obtain ⟨N, hN, hb⟩ := ih (fillM M a.toNat (b.toNat - a.toNat + 1)) (fun q hq => h q (by simp [hq]))
    refine ⟨N, by rw [makeF, if_neg (by omega), hN], ?_⟩
    intro i
    rw [hb, fillM_bit, List.any_cons, Bool.or_assoc]
    congr 2
    (rw [Bool.eq_iff_iff]; simp only [Bool.and_eq_true, decide_eq_true_eq, inR_iff])
    omega
theorem makeF_none (l : List (UInt8 × UInt8)) : ∀ (M : Nat), (∃ p ∈ l, p.2.toNat < p.1.toNat) → makeF M l = none := by
  induction l with
  | nil => rintro M ⟨p, h, _⟩; cases h
  | cons p t ih =>
    rintro M ⟨q, hq, hlt⟩
    obtain ⟨a, b⟩ := p
    rw [makeF]
    split
    · rfl
    · refine ih _ ⟨q, ?_, hlt⟩
      rcases List.mem_cons.1 hq with rfl | h
      · simp only at hlt; omega
      · exact h
theorem makeF_some_le (l : List (UInt8 × UInt8)) (M N : Nat) (h : makeF M l = some N) : ∀ p ∈ l, p.1.toNat ≤ p.2.toNat := by
  intro p hp
  rcases Nat.lt_or_ge p.2.toNat p.1.toNat with hl | hg
  · rw [makeF_none l M ⟨p, hp, hl⟩] at h; cases h
  · exact hg
theorem notM_bit (M i : Nat) : (notM M).testBit i = (decide (i < 256) ^^ M.testBit i) := by
  rw [notM, Nat.testBit_xor, fullM, Nat.testBit_two_pow_sub_one]
theorem eq_of_bits {M N : Nat} (hM : M < 2 ^ 256) (hN : N < 2 ^ 256) (h : ∀ i, i < 256 → M.testBit i = N.testBit i) : M = N := by
  apply Nat.eq_of_testBit_eq
  intro i
  rcases Nat.lt_or_ge i 256 with hi | hi
  · exact h i hi
  · have : 2 ^ 256 ≤ 2 ^ i := Nat.pow_le_pow_right (by omega) hi
    rw [Nat.testBit_lt_two_pow (by omega), Nat.testBit_lt_two_pow (by omega)]
theorem lt_of_bits {M : Nat} (h : ∀ i, 256 ≤ i → M.testBit i = false) : M < 2 ^ 256 := Nat.lt_pow_two_of_testBit M h
theorem notM_lt (M : Nat) (hM : M < 2 ^ 256) : notM M < 2 ^ 256 := by
  apply lt_of_bits
  intro i hi
  have : 2 ^ 256 ≤ 2 ^ i := Nat.pow_le_pow_right (by omega) hi
  rw [notM_bit, Nat.testBit_lt_two_pow (by omega)]
  simp; omega
theorem notM_notM (M : Nat) (hM : M < 2 ^ 256) : notM (notM M) = M := by
  refine eq_of_bits (notM_lt _ (notM_lt _ hM)) hM ?_
  intro i hi
  rw [notM_bit, notM_bit]
  simp [hi]
theorem u8_le (b : UInt8) : b.toNat ≤ 255 := by have := b.toNat_lt; omega
theorem makeF_lt (l : List (UInt8 × UInt8)) (N : Nat) (h : makeF 0 l = some N) : N < 2 ^ 256 := by
  obtain ⟨N', h1, h2⟩ := makeF_bit l 0 (makeF_some_le l 0 N h)
  rw [h] at h1
  injection h1 with h1
  subst h1
  apply lt_of_bits
  intro i hi
  rw [h2]
  simp only [Nat.zero_testBit, Bool.false_or]
  rw [List.any_eq_false]
  intro p hp
  have := u8_le p.2
  rw [inR_iff]; omega

/-- The ranges of rising bytes. -/
def pushR (l : List (UInt8 × UInt8)) (b : UInt8) : List (UInt8 × UInt8) :=
  match l.getLast? with
  | some (a, c) => if c.toNat + 1 = b.toNat then l.dropLast ++ [(a, b)] else l ++ [(b, b)]
  | none => [(b, b)]
def rgL (bs : List UInt8) : List (UInt8 × UInt8) := bs.foldl pushR []
def bytesTo (M n : Nat) : List UInt8 := ((List.range n).filter (fun i => M.testBit i)).map UInt8.ofNat
def bytesOf (M : Nat) : List UInt8 := bytesTo M 256
theorem rgL_snoc (l : List UInt8) (b : UInt8) : rgL (l ++ [b]) = pushR (rgL l) b := by simp [rgL]
theorem pushR_nil (b : UInt8) : pushR [] b = [(b, b)] := rfl
theorem pushR_snoc (l : List (UInt8 × UInt8)) (a c b : UInt8) : pushR (l ++ [(a, c)]) b = if c.toNat + 1 = b.toNat then l ++ [(a, b)] else l ++ [(a, c)] ++ [(b, b)] := by
  simp [pushR]
theorem bytesTo_succ (M n : Nat) : bytesTo M (n + 1) = if M.testBit n then bytesTo M n ++ [UInt8.ofNat n] else bytesTo M n := by
  unfold bytesTo
  rw [List.range_succ, List.filter_append]
  cases h : M.testBit n <;> simp [h]
theorem snoc_cases {α : Type} (l : List α) : l = [] ∨ ∃ m x, l = m ++ [x] := by
  rcases List.eq_nil_or_concat l with h | ⟨m, x, h⟩
  · exact .inl h
  · exact .inr ⟨m, x, by simpa using h⟩
theorem pushR_any (l : List (UInt8 × UInt8)) (b : UInt8) (i : Nat) (hl : ∀ p ∈ l, p.1.toNat ≤ p.2.toNat) : (pushR l b).any (inR i) = (l.any (inR i) || decide (i = b.toNat)) := by
  rcases snoc_cases l with rfl | ⟨m, ⟨a, c⟩, rfl⟩
  · (rw [Bool.eq_iff_iff]; simp only [pushR_nil, List.any_cons, List.any_nil, Bool.or_false, Bool.false_or, inR_iff, decide_eq_true_eq]); omega
  · have := hl (a, c) (by simp)
    rw [pushR_snoc]
    split
    · simp only [List.any_append, List.any_cons, List.any_nil, Bool.or_false, Bool.or_assoc]
      congr 1
      (rw [Bool.eq_iff_iff]; simp only [inR_iff, Bool.or_eq_true, decide_eq_true_eq])
      simp only at this
      omega
    · simp only [List.any_append, List.any_cons, List.any_nil, Bool.or_false, Bool.or_assoc]
      congr 2
      (rw [Bool.eq_iff_iff]; simp only [inR_iff, decide_eq_true_eq]); omega
theorem pushR_le (l : List (UInt8 × UInt8)) (b : UInt8) (hl : ∀ p ∈ l, p.1.toNat ≤ p.2.toNat) : ∀ p ∈ pushR l b, p.1.toNat ≤ p.2.toNat := by
  rcases snoc_cases l with rfl | ⟨m, ⟨a, c⟩, rfl⟩
  · intro p hp; rw [pushR_nil] at hp; simp at hp; subst hp; exact Nat.le_refl _
  · have hac := hl (a, c) (by simp)
    intro p hp
    rw [pushR_snoc] at hp
    split at hp
    · rcases List.mem_append.1 hp with h | h
      · exact hl p (by simp [h])
      · simp at h; subst h; simp only at hac ⊢; omega
    · rcases List.mem_append.1 hp with h | h
      · exact hl p h
      · simp at h; subst h; exact Nat.le_refl _
theorem rgL_to (M : Nat) : ∀ n, n ≤ 256 → (∀ p ∈ rgL (bytesTo M n), p.1.toNat ≤ p.2.toNat) ∧ ∀ i, (rgL (bytesTo M n)).any (inR i) = (decide (i < n) && M.testBit i) := by
  intro n
  induction n with
  | zero => intro _; exact ⟨fun p hp => by simp [bytesTo, rgL] at hp, fun i => by simp [bytesTo, rgL]⟩
  | succ n ih =>
    intro hn
    obtain ⟨h1, h2⟩ := ih (by omega)
    rw [bytesTo_succ]
    by_cases h : M.testBit n = true
    · rw [if_pos h, rgL_snoc]
      refine ⟨pushR_le _ _ h1, ?_⟩
      intro i
      have hb : (UInt8.ofNat n).toNat = n := by simp; omega
      rw [pushR_any _ _ _ h1, h2, hb]
      by_cases hi : i = n
      · subst hi; simp [h]
      · have : decide (i < n + 1) = decide (i < n) := by simp only [decide_eq_decide]; omega
        rw [this]; simp [hi]
    · rw [if_neg h]
      refine ⟨h1, ?_⟩
      intro i
      rw [h2]
      by_cases hi : i = n
      · subst hi; simp at h; simp [h]
      · have : decide (i < n + 1) = decide (i < n) := by simp only [decide_eq_decide]; omega
        rw [this]
theorem again_any (p : UInt8 × UInt8) (i : Nat) (hp : p.1.toNat ≤ p.2.toNat) : (again p).any (inR i) = inR i p := by
  unfold again
  split
  · rename_i h
    obtain ⟨a, b⟩ := p
    simp only at h
    subst h
    simp
  · split
    · simp
    · rename_i h1 h2
      have : p.1.toNat ≠ p.2.toNat := fun e => h1 (UInt8.toNat_inj.1 e.symm)
      (rw [Bool.eq_iff_iff]; simp only [List.any_cons, List.any_nil, Bool.or_false, Bool.or_eq_true, inR_iff])
      omega
theorem again_le (p : UInt8 × UInt8) (hp : p.1.toNat ≤ p.2.toNat) : ∀ q ∈ again p, q.1.toNat ≤ q.2.toNat := by
  intro q hq
  unfold again at hq
  split at hq
  · simp at hq; subst hq; exact Nat.le_refl _
  · split at hq
    · simp at hq; subst hq; exact hp
    · simp at hq; rcases hq with rfl | rfl <;> exact Nat.le_refl _
theorem agains_any (l : List (UInt8 × UInt8)) (i : Nat) (h : ∀ p ∈ l, p.1.toNat ≤ p.2.toNat) : (l.flatMap again).any (inR i) = l.any (inR i) := by
  induction l with
  | nil => rfl
  | cons p t ih => rw [List.flatMap_cons, List.any_append, again_any p i (h p (by simp)), ih (fun q hq => h q (by simp [hq])), List.any_cons]
/-- A set's text. -/
def itemsT (M : Nat) : List UInt8 := (rgL (bytesOf M)).flatMap itemT
def setText (M : Nat) : List UInt8 := if 128 < (bytesOf M).length then 91 :: 94 :: (itemsT (notM M) ++ [93]) else 91 :: (itemsT M ++ [93])
theorem read_items (M : Nat) (hM : M < 2 ^ 256) : (itemsF (itemsT M ++ [93])).bind (makeF 0) = some M := by
  obtain ⟨h1, h2⟩ := rgL_to M 256 (Nat.le_refl _)
  rw [itemsT, show rgL (bytesOf M) = rgL (bytesTo M 256) from rfl, itemsF_items _ h1]
  have hle : ∀ p ∈ (rgL (bytesTo M 256)).flatMap again, p.1.toNat ≤ p.2.toNat := by
    intro p hp
    obtain ⟨q, hq, hqp⟩ := List.mem_flatMap.1 hp
    exact again_le q (h1 q hq) p hqp
  obtain ⟨N, hN, hb⟩ := makeF_bit _ 0 hle
  show makeF 0 _ = _
  rw [hN]
  congr 1
  refine eq_of_bits (makeF_lt _ _ hN) hM ?_
  intro i hi
  rw [hb, agains_any _ _ h1, h2]
  simp [hi]
theorem itemsT_head (M : Nat) (t : List UInt8) : (itemsT M ++ 93 :: t).head? ≠ some 94 := by
  unfold itemsT
  cases rgL (bytesOf M) with
  | nil => simp
  | cons p l => rw [List.flatMap_cons, List.append_assoc]; exact (itemT_head p _).2.2
theorem readF_setText (M : Nat) (hM : M < 2 ^ 256) : readF (setText M) = some M := by
  unfold setText
  split
  · have h := read_items (notM M) (notM_lt M hM)
    rw [readF, List.head?_cons, if_pos rfl, List.drop_succ_cons, List.drop_zero, h, Option.map_some, notM_notM M hM]
  · have h := read_items M hM
    rw [readF, if_neg (itemsT_head M []), h]
theorem scanB_items' (M : Nat) (t : List UInt8) : scanB (itemsT M ++ 93 :: t) = some (itemsT M).length := by
  rw [itemsT, scanB_items, scanB_end]; simp
theorem setF_setText (M : Nat) (hM : M < 2 ^ 256) (t : List UInt8) : setF (setText M ++ t) = some (M, (setText M).length) := by
  have hs : scanB (setText M ++ t) = some ((setText M).length - 1) := by
    unfold setText
    split
    · show scanB (91 :: 94 :: (itemsT (notM M) ++ [93] ++ t)) = _
      rw [scanB_other _ _ (by decide) (by decide), scanB_other _ _ (by decide) (by decide), List.append_assoc, List.singleton_append, scanB_items']
      simp
    · show scanB (91 :: (itemsT M ++ [93] ++ t)) = _
      rw [scanB_other _ _ (by decide) (by decide), List.append_assoc, List.singleton_append, scanB_items']
      simp
  have hp : 1 ≤ (setText M).length := by unfold setText; split <;> simp
  rw [setF, hs]
  show (readF ((setText M ++ t).take ((setText M).length - 1 + 1))).map _ = _
  rw [show (setText M).length - 1 + 1 = (setText M).length by omega, List.take_left, readF_setText M hM]
  rfl
end Go.Proofs.YtmkidbenndhhjaaDoor.Dx
