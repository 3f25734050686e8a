/-
  PLAIN LAWS: words and their texts.
-/
import Derived.Test.YtmkidbenndhhjaaDoorSetText
import Derived.Lib.ItoaNum
set_option linter.unusedVariables false
namespace Go.Proofs.YtmkidbenndhhjaaDoor.Dx
open Go
def nameB (s : List UInt8) : Bool := (match s with | [] => false | c :: _ => letterB (c.toNat : Int)) && s.all wordB && decide (s.length ≤ 64)
/-- May a word be? -/
def mayF (w : Wd) : Bool :=
  if w.kind = 1 then decide (w.num = 0) && decide (w.set = 0) && nameB w.text
  else if w.kind = 2 then decide (w.num = 0) && decide (w.set = 0)
  else if w.kind = 3 then decide (w.num = 0) && decide (w.text = [])
  else if w.kind = 4 then decide (w.text = []) && decide (w.set = 0) && decide (0 ≤ w.num) && decide (w.num ≤ 999999999)
  else if w.kind = 5 then decide (w.num = 0) && decide (w.set = 0) && (match w.text with | [c] => signB (c.toNat : Int) | _ => false)
  else false
/-- A word's text. -/
def toldF (w : Wd) : List UInt8 :=
  if w.kind = 2 then quoteF w.text else if w.kind = 3 then setText w.set else if w.kind = 4 then Lib.itoa w.num else w.text
/-- Words' texts, a blank between. -/
def tellL : List Wd → List UInt8
  | [] => []
  | w :: t => match t with
    | [] => toldF w
    | _ :: _ => toldF w ++ 32 :: tellL t
theorem tellL_one (w : Wd) : tellL [w] = toldF w := rfl
theorem tellL_cons (w : Wd) (t : List Wd) (h : t ≠ []) : tellL (w :: t) = toldF w ++ 32 :: tellL t := by
  cases t with
  | nil => exact absurd rfl h
  | cons v t => rfl
theorem tellL_snoc (l : List Wd) (w : Wd) : tellL (l ++ [w]) = tellL l ++ ((if l = [] then [] else [32]) ++ toldF w) := by
  induction l with
  | nil => rfl
  | cons v t ih =>
    rw [List.cons_append, tellL_cons v _ (by simp), ih, if_neg (by simp : v :: t ≠ [])]
    cases t with
    | nil => rfl
    | cons u t => rw [if_neg (by simp), tellL_cons v _ (by simp)]; simp
/-- What stands behind a word does not go on with it. -/
def sepB (t : List UInt8) : Prop := ∀ c, t.head? = some c → wordB c = false
theorem takeWhile_sep (s t : List UInt8) (hs : s.all wordB = true) (ht : sepB t) : (s ++ t).takeWhile wordB = s := by
  induction s with
  | nil =>
    cases t with
    | nil => rfl
    | cons c t => rw [List.nil_append, List.takeWhile_cons, ht c rfl]; rfl
  | cons c s ih =>
    rw [List.all_cons, Bool.and_eq_true] at hs
    rw [List.cons_append, List.takeWhile_cons, if_pos hs.1, ih hs.2]
theorem dig_facts (n : Nat) (h : n < 10) : (UInt8.ofNat (48 + n)).toNat = 48 + n ∧ digB (UInt8.ofNat (48 + n)) = true ∧ wordB (UInt8.ofNat (48 + n)) = true := by
  have : (List.range 10).all (fun n => decide ((UInt8.ofNat (48 + n)).toNat = 48 + n ∧ digB (UInt8.ofNat (48 + n)) = true ∧ wordB (UInt8.ofNat (48 + n)) = true)) = true := by decide +kernel
  simpa using List.all_eq_true.1 this n (by simp; omega)
theorem dec_small {u : Nat} (h : u < 10) : Lib.decDigits u = [UInt8.ofNat (48 + u)] := by rw [Lib.decDigits, dif_pos h]
theorem dec_big {u : Nat} (h : ¬ u < 10) : Lib.decDigits u = Lib.decDigits (u / 10) ++ [UInt8.ofNat (48 + u % 10)] := by rw [Lib.decDigits, dif_neg h]
theorem dec_facts (u : Nat) : (Lib.decDigits u).all digB = true ∧ (Lib.decDigits u).all wordB = true ∧ decF (Lib.decDigits u) = u ∧ Lib.decDigits u ≠ [] ∧ (Lib.decDigits u = [48] ∨ (Lib.decDigits u).head? ≠ some 48) := by
  induction u using Nat.strongRecOn with
  | _ u ih =>
    by_cases h : u < 10
    · obtain ⟨h1, h2, h3⟩ := dig_facts u h
      rw [dec_small h]
      generalize UInt8.ofNat (48 + u) = b at h1 h2 h3 ⊢
      refine ⟨by simp [h2], by simp [h3], by simp [decF, h1], by simp, ?_⟩
      by_cases h0 : u = 0
      · subst h0; exact .inl (by rw [show b = 48 from UInt8.toNat_inj.1 h1])
      · refine .inr ?_
        simp only [List.head?_cons, ne_eq, Option.some.injEq]
        intro e
        have : b.toNat = 48 := by rw [e]; rfl
        omega
    · obtain ⟨i1, i2, i3, i4, i5⟩ := ih (u / 10) (by omega)
      obtain ⟨h1, h2, h3⟩ := dig_facts (u % 10) (by omega)
      rw [dec_big h]
      generalize UInt8.ofNat (48 + u % 10) = b at h1 h2 h3 ⊢
      refine ⟨by simp [i1, h2, List.all_append], by simp [i2, h3, List.all_append], ?_, by simp, ?_⟩
      · rw [decF, List.foldl_append]
        show 10 * decF (Lib.decDigits (u / 10)) + _ = u
        rw [i3, h1]; omega
      · refine .inr ?_
        rcases i5 with e | e
        · rw [e] at i3
          have : decF [48] = 0 := rfl
          omega
        · cases hd : Lib.decDigits (u / 10) with
          | nil => exact absurd hd i4
          | cons c t => rw [hd] at e; simpa using e
theorem dec_len (u : Nat) (h : u ≤ 999999999) : (Lib.decDigits u).length ≤ 9 := by
  rw [Lib.decDigits_length]
  rcases Nat.lt_or_ge 9 (Lib.nDigits u) with hl | hl
  · have h1 : ∀ k u, k < Lib.nDigits u → 10 ^ k ≤ u ∨ k = 0 := by
      intro k
      induction k with
      | zero => intro u _; exact .inr rfl
      | succ k ih =>
        intro u hk
        refine .inl ?_
        by_cases hu : u < 10
        · rw [Lib.nDigits_small hu] at hk; omega
        · rw [Lib.nDigits_big hu] at hk
          rcases ih (u / 10) (by omega) with h2 | h2
          · rw [Nat.pow_succ]; omega
          · subst h2; simpa using Nat.le_of_not_lt hu
    rcases h1 9 u hl with h2 | h2
    · have : (10 : Nat) ^ 9 = 1000000000 := by decide
      omega
    · omega
  · exact hl
theorem numF_dec (u : Nat) (h : u ≤ 999999999) : numF (Lib.decDigits u) = some u := by
  obtain ⟨i1, i2, i3, i4, i5⟩ := dec_facts u
  rw [numF, if_pos ⟨i1, dec_len u h, i5⟩, i3]
theorem cls_letter {c : UInt8} (h : letterB (c.toNat : Int) = true) : classI (c.toNat : Int) = 1 := by simp [classI, h]
theorem cls_digit {c : UInt8} (h : digB c = true) : classI (c.toNat : Int) = 2 := by
  have := classI_cases (c.toNat : Int) _ (sign_index c) sign_range
  have h2 := digitB_true.1 h
  omega
theorem cls_sign {c : UInt8} (h : signB (c.toNat : Int) = true) : classI (c.toNat : Int) = 5 := by
  obtain ⟨h1, h2, h3, h4⟩ := sign_range h
  simp [classI, h, h1, h2, h3, h4]
theorem mayF_cases {w : Wd} (h : mayF w = true) :
    (∃ c t, w = ⟨1, c :: t, 0, 0⟩ ∧ letterB (c.toNat : Int) = true ∧ (c :: t).all wordB = true ∧ (c :: t).length ≤ 64) ∨ (∃ s, w = ⟨2, s, 0, 0⟩) ∨ (∃ M, w = ⟨3, [], M, 0⟩) ∨
    (∃ n : Nat, w = ⟨4, [], 0, n⟩ ∧ n ≤ 999999999) ∨ (∃ c, w = ⟨5, [c], 0, 0⟩ ∧ signB (c.toNat : Int) = true) := by
  obtain ⟨k, s, M, n⟩ := w
  unfold mayF at h
  simp only at h
  split at h
  · rename_i hk; subst hk
    simp only [Bool.and_eq_true, decide_eq_true_eq, nameB] at h
    obtain ⟨⟨h1, h2⟩, ⟨h3, h4⟩, h5⟩ := h
    subst h1; subst h2
    cases s with
    | nil => cases h3
    | cons c t => exact .inl ⟨c, t, rfl, h3, h4, h5⟩
  split at h
  · rename_i hk; subst hk
    simp only [Bool.and_eq_true, decide_eq_true_eq] at h
    obtain ⟨h1, h2⟩ := h
    subst h1; subst h2
    exact .inr (.inl ⟨s, rfl⟩)
  split at h
  · rename_i hk; subst hk
    simp only [Bool.and_eq_true, decide_eq_true_eq] at h
    obtain ⟨h1, h2⟩ := h
    subst h1; subst h2
    exact .inr (.inr (.inl ⟨M, rfl⟩))
  split at h
  · rename_i hk; subst hk
    simp only [Bool.and_eq_true, decide_eq_true_eq] at h
    obtain ⟨⟨⟨h1, h2⟩, h3⟩, h4⟩ := h
    subst h1; subst h2
    obtain ⟨m, rfl⟩ := Int.eq_ofNat_of_zero_le h3
    exact .inr (.inr (.inr (.inl ⟨m, rfl, by omega⟩)))
  split at h
  · rename_i hk; subst hk
    simp only [Bool.and_eq_true, decide_eq_true_eq] at h
    obtain ⟨⟨h1, h2⟩, h3⟩ := h
    subst h1; subst h2
    match s, h3 with
    | [c], h3 => exact .inr (.inr (.inr (.inr ⟨c, rfl, h3⟩)))
  · cases h
theorem itoa_nat (n : Nat) : Lib.itoa (n : Int) = Lib.decDigits n := by
  rw [Lib.itoa, if_neg (by omega)]; rfl
/-- A word's text is read as the word. -/
theorem wordF_told (w : Wd) (h : mayF w = true) (hM : w.set < 2 ^ 256) (t : List UInt8) (ht : sepB t) : wordF (toldF w ++ t) = some (w, (toldF w).length) := by
  rcases mayF_cases h with ⟨c, s, rfl, h1, h2, h3⟩ | ⟨s, rfl⟩ | ⟨M, rfl⟩ | ⟨n, rfl, hn⟩ | ⟨c, rfl, hc⟩
  · show wordF (c :: s ++ t) = some (_, (c :: s).length)
    have e := takeWhile_sep (c :: s) t h2 ht
    rw [List.cons_append] at e ⊢
    rw [wordF, if_pos (cls_letter h1), e, if_pos h3]
  · show wordF (34 :: (s.flatMap quoteB ++ [34]) ++ t) = some (_, (quoteF s).length)
    rw [List.cons_append, wordF, if_neg (by decide), if_neg (by decide), if_pos (by decide), List.append_assoc, List.singleton_append, txt_quotes]
    simp [quoteF]
  · show wordF (setText M ++ t) = some (_, (setText M).length)
    obtain ⟨u, hu⟩ : ∃ u, setText M = 91 :: u := by unfold setText; split <;> exact ⟨_, rfl⟩
    have hs := setF_setText M hM t
    rw [hu] at hs ⊢
    rw [List.cons_append] at hs ⊢
    rw [wordF, if_neg (by decide), if_neg (by decide), if_neg (by decide), if_pos (by decide), hs]
    rfl
  · show wordF (Lib.itoa (n : Int) ++ t) = some (_, (Lib.itoa (n : Int)).length)
    obtain ⟨i1, i2, i3, i4, i5⟩ := dec_facts n
    rw [itoa_nat]
    have hnum := numF_dec n hn
    have e := takeWhile_sep _ t i2 ht
    cases hd : Lib.decDigits n with
    | nil => exact absurd hd i4
    | cons c s =>
      rw [hd] at e i1 hnum
      rw [List.cons_append] at e ⊢
      rw [List.all_cons, Bool.and_eq_true] at i1
      have hc := cls_digit i1.1
      rw [wordF, if_neg (by omega), if_pos hc, e, hnum]
      rfl
  · show wordF (c :: t) = some (_, 1)
    have := cls_sign hc
    rw [wordF, if_neg (by omega), if_neg (by omega), if_neg (by omega), if_neg (by omega), if_pos this]
/-- A word's text begins at once. -/
theorem skM_cls (c : UInt8) (t : List UInt8) (h : classI (c.toNat : Int) ≠ 0) : skM false (c :: t) = 0 := by
  have hb : blankB c = false ∧ c ≠ 47 := by
    revert h
    exact all_bytes (p := fun c => classI (c.toNat : Int) ≠ 0 → blankB c = false ∧ c ≠ 47) (by decide +kernel) c
  rw [skM, if_neg (by simp [hb.1]), if_neg (by simp [hb.2])]
theorem wordF_cls {c : UInt8} {t : List UInt8} {p : Wd × Nat} (h : wordF (c :: t) = some p) : classI (c.toNat : Int) ≠ 0 := by
  intro e
  rw [wordF, if_neg (by omega), if_neg (by omega), if_neg (by omega), if_neg (by omega), if_neg (by omega)] at h
  cases h
theorem told_ne (w : Wd) (h : mayF w = true) (hM : w.set < 2 ^ 256) : toldF w ≠ [] := by
  intro e
  have := wordF_told w h hM [] (by intro c hc; cases hc)
  rw [e] at this
  cases this
theorem lexF_told (p : Nat) (g : List UInt8) (w : Wd) (h : mayF w = true) (hM : w.set < 2 ^ 256) (t : List UInt8) (ht : sepB t) (hg : ∀ l, skM false (g ++ l) = g.length + skM false l) :
    lexF p (g ++ (toldF w ++ t)) = ((p + g.length, w) :: (lexF (p + g.length + (toldF w).length) t).1, (lexF (p + g.length + (toldF w).length) t).2) := by
  have hw := wordF_told w h hM t ht
  have hne := told_ne w h hM
  have h0 : skM false (toldF w ++ t) = 0 := by
    cases hd : toldF w with
    | nil => exact absurd hd hne
    | cons c s =>
      rw [hd, List.cons_append] at hw
      rw [List.cons_append]
      exact skM_cls c _ (wordF_cls hw)
  have hs : skM false (g ++ (toldF w ++ t)) = g.length := by rw [hg, h0]; rfl
  rw [lexF_word p _ (toldF w ++ t) w _ (by rw [hs, List.drop_left]) hw, hs, List.drop_left]
def mayW (w : Wd) : Prop := mayF w = true ∧ w.set < 2 ^ 256
def AllW (l : List Wd) : Prop := ∀ w ∈ l, mayW w
theorem sep_nil : sepB [] := by intro c h; cases h
theorem sep_blank (t : List UInt8) : sepB (32 :: t) := by intro c h; injection h with h; subst h; decide
theorem lexF_tell (l : List Wd) (h : AllW l) : ∀ (p : Nat) (g : List UInt8), (∀ l, skM false (g ++ l) = g.length + skM false l) → (lexF p (g ++ tellL l)).2 = none ∧ (lexF p (g ++ tellL l)).1.map (·.2) = l := by
  induction l with
  | nil =>
    intro p g hg
    have : skM false (g ++ []) = g.length := by rw [hg]; rfl
    rw [tellL, lexF_end p _ (by rw [this]; simp)]
    exact ⟨rfl, rfl⟩
  | cons w t ih =>
    intro p g hg
    obtain ⟨hw, hM⟩ := h w (by simp)
    have ih := ih (fun v hv => h v (by simp [hv]))
    cases t with
    | nil =>
      have := lexF_told p g w hw hM [] sep_nil hg
      rw [List.append_nil] at this
      rw [tellL_one, this, lexF_end _ [] rfl]
      exact ⟨rfl, rfl⟩
    | cons v t =>
      rw [tellL_cons w _ (by simp), lexF_told p g w hw hM _ (sep_blank _) hg]
      have hb : ∀ l, skM false ([32] ++ l) = [32].length + skM false l := by
        intro l; show skM false (32 :: l) = _; rw [skM, if_pos (by decide), Nat.add_comm]; rfl
      obtain ⟨i1, i2⟩ := ih (p + g.length + (toldF w).length) [32] hb
      rw [List.singleton_append] at i1 i2
      exact ⟨i1, by simpa using i2⟩
end Go.Proofs.YtmkidbenndhhjaaDoor.Dx
