/-
  PLAIN LAWS: where a set's text ends.
  PLAIN LAWS: the words of a text.
  PLAIN LAWS: what stands in quotes, a byte of a set.
  PLAIN LAWS: a set and its text.
  PLAIN LAWS: words and their texts.
  PLAIN LAWS: two texts, a line end between.
  PLAIN LAWS: words are read as they were told; gaps.
-/
import Derived.Test.YtacgnbelcpmjfaaGreatDoorReadWalk
import Derived.Test.YtacgnbelcpmjfaaGreatDoorText
import Derived.Lib.ItoaNum
set_option linter.unusedVariables false
namespace Go.Proofs.YtacgnbelcpmjfaaGreatDoor.Dx
open Go

/-- How far ahead the closing bracket stands. -/
def scanB : List UInt8 → Option Nat
  | [] => none
  | [c] => if c = 93 then some 0 else none
  | c :: d :: t => if c = 92 then (scanB t).map (· + 2) else if c = 93 then some 0 else (scanB (d :: t)).map (· + 1)
/-- A set that begins here: which, and how many bytes tell it. -/
def setF (l : List UInt8) : Option (Nat × Nat) := (scanB l).bind fun n => (readF (l.take (n + 1))).map fun M => (M, n + 1)
theorem scanB_nil : scanB [] = none := rfl
theorem scanB_end (t : List UInt8) : scanB (93 :: t) = some 0 := by cases t <;> simp [scanB]
theorem scanB_esc (t : List UInt8) : scanB (92 :: t) = (scanB (t.drop 1)).map (· + 2) := by
  cases t with
  | nil => rfl
  | cons d t => simp [scanB]
theorem scanB_other (c : UInt8) (t : List UInt8) (h1 : c ≠ 92) (h2 : c ≠ 93) : scanB (c :: t) = (scanB t).map (· + 1) := by
  cases t with
  | nil => simp [scanB, h2]
  | cons d t => rw [scanB, if_neg h1, if_neg h2]
end Go.Proofs.YtacgnbelcpmjfaaGreatDoor.Dx
set_option linter.unusedVariables false
namespace Go.Proofs.YtacgnbelcpmjfaaGreatDoor.Dx
open Go
/-- A word: its kind, text, set, number. -/
structure Wd where
  kind : Int
  text : List UInt8
  set : Nat
  num : Int
theorem Wd.ext_ {a b : Wd} (h1 : a.kind = b.kind) (h2 : a.text = b.text) (h3 : a.set = b.set) (h4 : a.num = b.num) : a = b := by
  cases a; cases b; cases h1; cases h2; cases h3; cases h4; rfl
def decF (r : List UInt8) : Nat := r.foldl (fun a c => 10 * a + (c.toNat - 48)) 0
def digB (c : UInt8) : Bool := digitB (c.toNat : Int)
/-- A number's digits, if it is one. -/
def numF (r : List UInt8) : Option Nat :=
  if r.all digB = true ∧ r.length ≤ 9 ∧ (r = [48] ∨ r.head? ≠ some 48) then some (decF r) else none
def wordF : List UInt8 → Option (Wd × Nat)
  | [] => none
  | c :: t =>
    if classI (c.toNat : Int) = 1 then
      (if ((c :: t).takeWhile wordB).length ≤ 64 then some (⟨1, (c :: t).takeWhile wordB, 0, 0⟩, ((c :: t).takeWhile wordB).length) else none)
    else if classI (c.toNat : Int) = 2 then (numF ((c :: t).takeWhile wordB)).map fun (n : Nat) => (⟨4, [], 0, (n : Int)⟩, ((c :: t).takeWhile wordB).length)
    else if classI (c.toNat : Int) = 3 then (txt t).map fun p => (⟨2, p.1, 0, 0⟩, p.2 + 1)
    else if classI (c.toNat : Int) = 4 then (setF (c :: t)).map fun p => (⟨3, [], p.1, 0⟩, p.2)
    else if classI (c.toNat : Int) = 5 then some (⟨5, [c], 0, 0⟩, 1)
    else none
/-- All words up to the first that can't be read; its place. -/
def lexG : Nat → Nat → List UInt8 → List (Nat × Wd) × Option Nat
  | 0, _, _ => ([], none)
  | f + 1, p, l =>
    match l.drop (skM false l) with
    | [] => ([], none)
    | c :: t =>
      match wordF (c :: t) with
      | none => ([], some (p + skM false l))
      | some (w, n) =>
        (((p + skM false l, w) :: (lexG f (p + skM false l + n) ((c :: t).drop n)).1), (lexG f (p + skM false l + n) ((c :: t).drop n)).2)
def lexF (p : Nat) (l : List UInt8) : List (Nat × Wd) × Option Nat := lexG (l.length + 1) p l

theorem skM_le (b : Bool) (l : List UInt8) : skM b l ≤ l.length := by
  induction l generalizing b with
  | nil => cases b <;> exact Nat.le_refl _
  | cons c t ih =>
    have h1 := ih true
    have h2 := ih false
    cases b <;> simp only [skM, List.length_cons] <;> repeat' split
    all_goals omega
theorem txt_pos (l : List UInt8) (o : List UInt8) (n : Nat) (h : txt l = some (o, n)) : 1 ≤ n ∧ n ≤ l.length := by
  obtain ⟨k, hk⟩ : ∃ k, l.length = k := ⟨_, rfl⟩
  induction k using Nat.strongRecOn generalizing l o n with
  | _ k ih =>
    cases l with
    | nil => cases h
    | cons c t =>
      by_cases h34 : c = 34
      · subst h34
        rw [txt_quote] at h
        simp at h
        simp; omega
      · by_cases hb : c.toNat < 32 ∨ 126 < c.toNat
        · rw [txt_bad c t hb] at h; cases h
        · by_cases h92 : c = 92
          · subst h92
            rw [txt_esc] at h
            cases he : escF t with
            | none => rw [he] at h; cases h
            | some p =>
              obtain ⟨b, m⟩ := p
              rw [he] at h
              simp only [Option.map_eq_some_iff] at h
              obtain ⟨q, hq, he2⟩ := h
              obtain ⟨q1, q2⟩ := q
              have := ih (t.drop m).length (by rw [List.length_drop]; simp at hk; omega) _ _ _ hq rfl
              rw [List.length_drop] at this
              injection he2 with e1 e2
              simp at e2
              simp; omega
          · rw [txt_plain c t h34 hb h92] at h
            simp only [Option.map_eq_some_iff] at h
            obtain ⟨q, hq, he2⟩ := h
            obtain ⟨q1, q2⟩ := q
            have := ih t.length (by simp at hk; omega) _ _ _ hq rfl
            injection he2 with e1 e2
            simp at e2
            simp; omega
theorem scanB_lt (l : List UInt8) (n : Nat) (h : scanB l = some n) : n < l.length := by
  obtain ⟨k, hk⟩ : ∃ k, l.length = k := ⟨_, rfl⟩
  induction k using Nat.strongRecOn generalizing l n with
  | _ k ih =>
    cases l with
    | nil => cases h
    | cons c t =>
      by_cases h92 : c = 92
      · subst h92
        rw [scanB_esc] at h
        simp only [Option.map_eq_some_iff] at h
        obtain ⟨m, hm, rfl⟩ := h
        have := ih (t.drop 1).length (by rw [List.length_drop]; simp at hk; omega) _ _ hm rfl
        rw [List.length_drop] at this
        simp; omega
      · by_cases h93 : c = 93
        · subst h93
          rw [scanB_end] at h
          simp at h
          simp; omega
        · rw [scanB_other c t h92 h93] at h
          simp only [Option.map_eq_some_iff] at h
          obtain ⟨m, hm, rfl⟩ := h
          have := ih t.length (by simp at hk; omega) _ _ hm rfl
          simp; omega
theorem tw_pos (c : UInt8) (t : List UInt8) (h : wordB c = true) : 1 ≤ ((c :: t).takeWhile wordB).length := by
  rw [List.takeWhile_cons, if_pos h]; simp
theorem tw_len (l : List UInt8) : (l.takeWhile wordB).length ≤ l.length := (List.takeWhile_prefix wordB).length_le
theorem word_cls (b : UInt8) : wordB b = true ↔ (classI (b.toNat : Int) = 1 ∨ classI (b.toNat : Int) = 2) := by
  have := classI_cases (b.toNat : Int) _ (sign_index b) sign_range
  rw [wordB, Bool.or_eq_true, letterB_true, digitB_true]
  omega
theorem wordF_pos (l : List UInt8) (w : Wd) (n : Nat) (h : wordF l = some (w, n)) : 1 ≤ n ∧ n ≤ l.length := by
  cases l with
  | nil => cases h
  | cons c t =>
    rw [wordF] at h
    split at h
    · rename_i h1
      split at h
      · injection h with h; injection h with h2 h3
        have := tw_pos c t ((word_cls c).2 (.inl h1)); have := tw_len (c :: t); omega
      · cases h
    split at h
    · rename_i h1
      simp only [Option.map_eq_some_iff] at h
      obtain ⟨m, hm, he⟩ := h
      injection he with h2 h3
      have := tw_pos c t ((word_cls c).2 (.inr h1)); have := tw_len (c :: t); omega
    split at h
    · simp only [Option.map_eq_some_iff] at h
      obtain ⟨⟨o, m⟩, hm, he⟩ := h
      injection he with h2 h3
      have := txt_pos _ _ _ hm
      simp at h3 ⊢; omega
    split at h
    · simp only [Option.map_eq_some_iff] at h
      obtain ⟨⟨o, m⟩, hm, he⟩ := h
      injection he with h2 h3
      unfold setF at hm
      rw [Option.bind_eq_some_iff] at hm
      obtain ⟨k, hk, hm⟩ := hm
      have := scanB_lt _ _ hk
      simp only [Option.map_eq_some_iff] at hm
      obtain ⟨M, _, hm⟩ := hm
      injection hm with h4 h5
      simp at h3
      omega
    split at h
    · injection h with h; injection h with h2 h3
      simp; omega
    · cases h
theorem lexG_more : ∀ (f p : Nat) (l : List UInt8), l.length < f → lexG f p l = lexG (f + 1) p l := by
  intro f
  induction f with
  | zero => intro p l h; omega
  | succ f ih =>
    intro p l h
    rw [lexG, lexG]
    have hs := skM_le false l
    cases hd : l.drop (skM false l) with
    | nil => rfl
    | cons c t =>
      have hl : (c :: t).length = l.length - skM false l := by rw [← hd, List.length_drop]
      simp only
      cases hw : wordF (c :: t) with
      | none => rfl
      | some q =>
        obtain ⟨w, n⟩ := q
        have := wordF_pos _ _ _ hw
        simp only
        rw [ih _ _ (by rw [List.length_drop]; omega)]
theorem lexG_any (f p : Nat) (l : List UInt8) (h : l.length < f) : lexG f p l = lexF p l := by
  obtain ⟨d, rfl⟩ : ∃ d, f = l.length + 1 + d := ⟨f - (l.length + 1), by omega⟩
  induction d with
  | zero => rfl
  | succ d ih =>
    have := lexG_more (l.length + 1 + d) p l (by omega)
    rw [show l.length + 1 + (d + 1) = l.length + 1 + d + 1 by omega, ← this]
    exact ih (by omega)
theorem lexF_end (p : Nat) (l : List UInt8) (h : l.drop (skM false l) = []) : lexF p l = ([], none) := by
  rw [lexF, lexG, h]
theorem lexF_bad (p : Nat) (l l' : List UInt8) (h : l.drop (skM false l) = l') (hn : l' ≠ []) (hw : wordF l' = none) : lexF p l = ([], some (p + skM false l)) := by
  cases l' with
  | nil => exact absurd rfl hn
  | cons c t => rw [lexF, lexG, h]; simp only; rw [hw]
theorem lexF_word (p : Nat) (l l' : List UInt8) (w : Wd) (n : Nat) (h : l.drop (skM false l) = l') (hw : wordF l' = some (w, n)) :
    lexF p l = (((p + skM false l, w) :: (lexF (p + skM false l + n) (l'.drop n)).1), (lexF (p + skM false l + n) (l'.drop n)).2) := by
  cases l' with
  | nil => cases hw
  | cons c t =>
    have hp := wordF_pos _ _ _ hw
    have hs := skM_le false l
    have hl : (c :: t).length = l.length - skM false l := by rw [← h, List.length_drop]
    rw [lexF, lexG, h]; simp only; rw [hw]; simp only
    rw [lexG_any _ _ _ (by rw [List.length_drop]; omega)]
/-- The place ahead only moves the places. -/
def shift (d : Nat) (r : List (Nat × Wd) × Option Nat) : List (Nat × Wd) × Option Nat := (r.1.map (fun p => (p.1 + d, p.2)), r.2.map (· + d))
theorem lexG_shift : ∀ (f d p : Nat) (l : List UInt8), lexG f (p + d) l = shift d (lexG f p l) := by
  intro f
  induction f with
  | zero => intro d p l; rfl
  | succ f ih =>
    intro d p l
    rw [lexG, lexG]
    cases hd : l.drop (skM false l) with
    | nil => rfl
    | cons c t =>
      simp only
      cases hw : wordF (c :: t) with
      | none => simp [shift]; omega
      | some q =>
        obtain ⟨w, n⟩ := q
        simp only
        rw [show p + d + skM false l + n = p + skM false l + n + d by omega, ih]
        simp [shift]
        omega
theorem lexF_shift (d p : Nat) (l : List UInt8) : lexF (p + d) l = shift d (lexF p l) := lexG_shift _ _ _ _
end Go.Proofs.YtacgnbelcpmjfaaGreatDoor.Dx
set_option linter.unusedVariables false
namespace Go.Proofs.YtacgnbelcpmjfaaGreatDoor.Dx
open Go
def hexd (n : Nat) : UInt8 := if n < 10 then UInt8.ofNat (48 + n) else UInt8.ofNat (87 + n)
/-- A byte within quotes. -/
def quoteB (c : UInt8) : List UInt8 :=
  if c = 10 then [92, 110] else if c = 9 then [92, 116] else if c = 13 then [92, 114] else if c = 34 then [92, 34] else if c = 92 then [92, 92]
  else if c.toNat < 32 ∨ 126 < c.toNat then [92, 120, hexd (c.toNat / 16), hexd (c.toNat % 16)] else [c]
def quoteF (s : List UInt8) : List UInt8 := 34 :: (s.flatMap quoteB ++ [34])
theorem hexI_hexd (n : Nat) (h : n < 16) : hexI (hexd n) = n := by
  have : (List.range 16).all (fun n => decide (hexI (hexd n) = n)) = true := by decide +kernel
  simpa using List.all_eq_true.1 this n (by simp; omega)
theorem byte_of_hex (c : UInt8) : UInt8.ofNat (16 * hexI (hexd (c.toNat / 16)) + hexI (hexd (c.toNat % 16))).toNat = c := by
  have := c.toNat_lt
  rw [hexI_hexd _ (by omega), hexI_hexd _ (by omega)]
  apply UInt8.toNat_inj.1
  simp
  omega
theorem escF_hex (c : UInt8) (t : List UInt8) : escF (120 :: hexd (c.toNat / 16) :: hexd (c.toNat % 16) :: t) = some (c, 3) := by
  have := c.toNat_lt
  rw [escF, if_neg (by decide), if_pos rfl, escH, if_pos (by rw [hexI_hexd _ (by omega), hexI_hexd _ (by omega)]; omega), byte_of_hex]
theorem escF_plain (d : UInt8) (t : List UInt8) (h : plainL.contains d = true) : escF (d :: t) = some (meansB d, 1) := by
  rw [escF, if_pos h]
theorem txt_quoteB (c : UInt8) (t : List UInt8) : txt (quoteB c ++ t) = (txt t).map fun p => (c :: p.1, p.2 + (quoteB c).length) := by
  unfold quoteB
  by_cases h1 : c = 10
  · subst h1; rw [if_pos rfl]; show txt (92 :: 110 :: t) = _; rw [txt_esc, escF_plain _ _ (by decide)]; rfl
  rw [if_neg h1]
  by_cases h2 : c = 9
  · subst h2; rw [if_pos rfl]; show txt (92 :: 116 :: t) = _; rw [txt_esc, escF_plain _ _ (by decide)]; rfl
  rw [if_neg h2]
  by_cases h3 : c = 13
  · subst h3; rw [if_pos rfl]; show txt (92 :: 114 :: t) = _; rw [txt_esc, escF_plain _ _ (by decide)]; rfl
  rw [if_neg h3]
  by_cases h4 : c = 34
  · subst h4; rw [if_pos rfl]; show txt (92 :: 34 :: t) = _; rw [txt_esc, escF_plain _ _ (by decide)]; rfl
  rw [if_neg h4]
  by_cases h5 : c = 92
  · subst h5; rw [if_pos rfl]; show txt (92 :: 92 :: t) = _; rw [txt_esc, escF_plain _ _ (by decide)]; rfl
  rw [if_neg h5]
  by_cases h6 : c.toNat < 32 ∨ 126 < c.toNat
  · rw [if_pos h6]; show txt (92 :: 120 :: hexd _ :: hexd _ :: t) = _; rw [txt_esc, escF_hex]; rfl
  · rw [if_neg h6]; show txt (c :: t) = _; rw [txt_plain c t h4 h6 h5]; rfl
theorem txt_quotes (s t : List UInt8) : txt (s.flatMap quoteB ++ 34 :: t) = some (s, (s.flatMap quoteB).length + 1) := by
  induction s with
  | nil => rfl
  | cons c s ih =>
    rw [List.flatMap_cons, List.append_assoc, txt_quoteB, ih]
    simp; omega
/-- A byte of a set's text. -/
def oneF (c : UInt8) : List UInt8 :=
  if c = 9 then [92, 116] else if c = 10 then [92, 110] else if c = 13 then [92, 114]
  else if c = 92 ∨ c = 91 ∨ c = 93 ∨ c = 45 ∨ c = 94 then [92, c]
  else if 32 < c.toNat ∧ c.toNat < 127 then [c] else [92, 120, hexd (c.toNat / 16), hexd (c.toNat % 16)]
theorem oneF_cases (c : UInt8) : (∃ d, oneF c = [92, d] ∧ marksL.contains d = true ∧ unmark d = c) ∨ (oneF c = [c] ∧ 32 < c.toNat ∧ c.toNat < 127 ∧ markedL.contains c = false) ∨
    (oneF c = [92, 120, hexd (c.toNat / 16), hexd (c.toNat % 16)]) := by
  unfold oneF
  by_cases h1 : c = 9
  · subst h1; exact .inl ⟨116, rfl, rfl, rfl⟩
  rw [if_neg h1]
  by_cases h2 : c = 10
  · subst h2; exact .inl ⟨110, rfl, rfl, rfl⟩
  rw [if_neg h2]
  by_cases h3 : c = 13
  · subst h3; exact .inl ⟨114, rfl, rfl, rfl⟩
  rw [if_neg h3]
  by_cases h4 : c = 92 ∨ c = 91 ∨ c = 93 ∨ c = 45 ∨ c = 94
  · rw [if_pos h4]
    refine .inl ⟨c, rfl, ?_⟩
    rcases h4 with rfl | rfl | rfl | rfl | rfl <;> exact ⟨rfl, rfl⟩
  rw [if_neg h4]
  by_cases h5 : 32 < c.toNat ∧ c.toNat < 127
  · rw [if_pos h5]
    refine .inr (.inl ⟨rfl, h5.1, h5.2, ?_⟩)
    simp [markedL] at h1 h2 h3 h4 ⊢
    exact ⟨h1, h2, h3, h4⟩
  · rw [if_neg h5]; exact .inr (.inr rfl)
theorem takeF_one (c : UInt8) (t : List UInt8) : takeF (oneF c ++ t) = some (c, (oneF c).length) := by
  rcases oneF_cases c with ⟨d, h, hd, hu⟩ | ⟨h, h1, h2, h3⟩ | h
  · rw [h]; show takeF (92 :: d :: t) = _
    rw [takeF, if_pos rfl, takeB, if_pos hd, hu]; rfl
  · rw [h]; show takeF (c :: t) = _
    rw [takeF, if_neg (by rintro rfl; revert h3; decide), if_pos ⟨by omega, h2, h3⟩]; rfl
  · have := c.toNat_lt
    rw [h]; show takeF (92 :: 120 :: hexd _ :: hexd _ :: t) = _
    rw [takeF, if_pos rfl, takeB, if_neg (by decide), if_pos rfl, takeH, if_pos (by rw [hexI_hexd _ (by omega), hexI_hexd _ (by omega)]; omega), byte_of_hex]; rfl
theorem hexd_ne (n : Nat) (h : n < 16) : hexd n ≠ 92 ∧ hexd n ≠ 93 := by
  have : (List.range 16).all (fun n => decide (hexd n ≠ 92 ∧ hexd n ≠ 93)) = true := by decide +kernel
  simpa using List.all_eq_true.1 this n (by simp; omega)
theorem scanB_one (c : UInt8) (t : List UInt8) : scanB (oneF c ++ t) = (scanB t).map (· + (oneF c).length) := by
  rcases oneF_cases c with ⟨d, h, hd, hu⟩ | ⟨h, h1, h2, h3⟩ | h
  · rw [h]; show scanB (92 :: d :: t) = _
    rw [scanB_esc]; rfl
  · rw [h]; show scanB (c :: t) = _
    rw [scanB_other c t (by rintro rfl; revert h3; decide) (by rintro rfl; revert h3; decide)]; rfl
  · have := c.toNat_lt
    have h1 := hexd_ne (c.toNat / 16) (by omega)
    have h2 := hexd_ne (c.toNat % 16) (by omega)
    rw [h]; show scanB (92 :: 120 :: hexd _ :: hexd _ :: t) = _
    rw [scanB_esc]
    show (scanB (hexd _ :: hexd _ :: t)).map _ = _
    rw [scanB_other _ _ h1.1 h1.2, scanB_other _ _ h2.1 h2.2]
    cases scanB t <;> simp
theorem oneF_head (c : UInt8) (t : List UInt8) : (oneF c ++ t).head? ≠ some 45 ∧ oneF c ++ t ≠ [93] ∧ (oneF c ++ t).head? ≠ some 94 := by
  rcases oneF_cases c with ⟨d, h, hd, hu⟩ | ⟨h, h1, h2, h3⟩ | h
  · rw [h]; simp
  · rw [h]
    simp only [List.cons_append, List.nil_append, List.head?_cons, ne_eq, Option.some.injEq]
    refine ⟨by rintro rfl; revert h3; decide, ?_, by rintro rfl; revert h3; decide⟩
    intro e; injection e with e _; subst e; revert h3; decide
  · rw [h]; simp
/-- A range's text. -/
def itemT (p : UInt8 × UInt8) : List UInt8 :=
  oneF p.1 ++ ((if p.2.toNat - p.1.toNat > 1 then [45] else []) ++ (if p.2 ≠ p.1 then oneF p.2 else []))
/-- A range as it is read again: two bytes are two ranges. -/
def again (p : UInt8 × UInt8) : List (UInt8 × UInt8) :=
  if p.2 = p.1 then [(p.1, p.1)] else if p.2.toNat - p.1.toNat > 1 then [p] else [(p.1, p.1), (p.2, p.2)]
def noDash (t : List UInt8) : Prop := t.head? ≠ some 45
theorem itemT_head (p : UInt8 × UInt8) (t : List UInt8) : noDash (itemT p ++ t) ∧ itemT p ++ t ≠ [93] ∧ (itemT p ++ t).head? ≠ some 94 := by
  unfold itemT noDash
  rw [List.append_assoc]
  exact oneF_head _ _
theorem drop_app (a b : List UInt8) : (a ++ b).drop a.length = b := by simp
theorem itemsF_item (p : UInt8 × UInt8) (t : List UInt8) (hle : p.1.toNat ≤ p.2.toNat) (ht : noDash t) : itemsF (itemT p ++ t) = (itemsF t).map (again p ++ ·) := by
  obtain ⟨a, b⟩ := p
  have hne := itemT_head (a, b) t
  have hne' := hne.2.1
  unfold itemT again at *
  simp only at *
  by_cases hba : b = a
  · subst hba
    simp only [ne_eq, not_true, if_false, Nat.sub_self, gt_iff_lt, Nat.not_lt_zero, List.append_nil, if_true] at hne' ⊢
    rw [itemsF_one _ hne' b _ (takeF_one b t) (by rw [drop_app]; exact ht), drop_app]
    rfl
  · have hlt : a.toNat < b.toNat := by
      rcases Nat.lt_or_ge a.toNat b.toNat with h | h
      · exact h
      · exact absurd (UInt8.toNat_inj.1 (by omega)) hba
    by_cases hd : b.toNat - a.toNat > 1
    · simp only [if_pos hd, ne_eq, hba, not_false_eq_true, if_true, if_false, List.append_assoc] at hne' ⊢
      rw [itemsF_two _ hne' a _ (takeF_one a _) (by rw [drop_app]; rfl)]
      have e1 : (oneF a ++ ([45] ++ (oneF b ++ t))).drop ((oneF a).length + 1) = oneF b ++ t := by
        rw [← List.drop_drop, drop_app]; rfl
      rw [e1, takeF_one b t]
      simp only
      have e2 : (oneF a ++ ([45] ++ (oneF b ++ t))).drop ((oneF a).length + 1 + (oneF b).length) = t := by
        rw [← List.drop_drop, e1, drop_app]
      rw [e2]
      rfl
    · simp only [if_neg hd, ne_eq, hba, not_false_eq_true, if_true, if_false, List.append_assoc, List.nil_append] at hne' ⊢
      have hb := oneF_head b t
      rw [itemsF_one _ hne' a _ (takeF_one a _) (by rw [drop_app]; exact hb.1), drop_app,
        itemsF_one _ hb.2.1 b _ (takeF_one b t) (by rw [drop_app]; exact ht), drop_app]
      cases itemsF t <;> rfl
theorem itemsF_items (l : List (UInt8 × UInt8)) (h : ∀ p ∈ l, p.1.toNat ≤ p.2.toNat) : itemsF (l.flatMap itemT ++ [93]) = some (l.flatMap again) := by
  induction l with
  | nil => exact itemsF_end
  | cons p t ih =>
    rw [List.flatMap_cons, List.append_assoc, itemsF_item p _ (h p (by simp)), ih (fun q hq => h q (by simp [hq]))]
    · simp
    · cases t with
      | nil => simp [noDash]
      | cons q t => rw [List.flatMap_cons, List.append_assoc]; exact (itemT_head q _).1
theorem scanB_item (p : UInt8 × UInt8) (t : List UInt8) : scanB (itemT p ++ t) = (scanB t).map (· + (itemT p).length) := by
  obtain ⟨a, b⟩ := p
  unfold itemT
  simp only [List.append_assoc]
  rw [scanB_one]
  have h2 : ∀ t, scanB ((if b ≠ a then oneF b else []) ++ t) = (scanB t).map (· + (if b ≠ a then oneF b else []).length) := by
    intro t
    by_cases h : b ≠ a
    · simp only [if_pos h]; exact scanB_one b t
    · simp only [if_neg h]; cases hs : scanB t <;> simp [hs]
  have h1 : ∀ t, scanB ((if b.toNat - a.toNat > 1 then [45] else []) ++ t) = (scanB t).map (· + (if b.toNat - a.toNat > 1 then [(45 : UInt8)] else []).length) := by
    intro t
    by_cases h : b.toNat - a.toNat > 1
    · simp only [if_pos h]; exact scanB_other 45 t (by decide) (by decide)
    · simp only [if_neg h]; cases hs : scanB t <;> simp [hs]
  rw [h1, h2]
  cases scanB t <;> simp
  omega
theorem scanB_items (l : List (UInt8 × UInt8)) (t : List UInt8) : scanB (l.flatMap itemT ++ t) = (scanB t).map (· + (l.flatMap itemT).length) := by
  induction l with
  | nil => cases hs : scanB t <;> simp [hs]
  | cons p l ih =>
    rw [List.flatMap_cons, List.append_assoc, scanB_item, ih]
    cases scanB t <;> simp
    omega
end Go.Proofs.YtacgnbelcpmjfaaGreatDoor.Dx
set_option linter.unusedVariables false
namespace Go.Proofs.YtacgnbelcpmjfaaGreatDoor.Dx
open Go
def inR (i : Nat) (p : UInt8 × UInt8) : Bool := decide (p.1.toNat ≤ i) && decide (i ≤ p.2.toNat)
theorem inR_iff {i : Nat} {p : UInt8 × UInt8} : inR i p = true ↔ p.1.toNat ≤ i ∧ i ≤ p.2.toNat := by simp [inR]
theorem fillM_bit (n : Nat) : ∀ (M a i : Nat), (fillM M a n).testBit i = (M.testBit i || (decide (a ≤ i) && decide (i < a + n))) := by
  induction n with
  | zero => intro M a i; rw [fillM]; by_cases h : a ≤ i <;> simp [h]; omega
  | succ n ih =>
    intro M a i
    rw [fillM, ih, Nat.testBit_or, Nat.testBit_two_pow]
    cases M.testBit i with
    | true => simp
    | false =>
      rw [Bool.eq_iff_iff]
      simp only [Bool.false_or, Bool.or_eq_true, Bool.and_eq_true, decide_eq_true_eq]
      omega
theorem makeF_bit (l : List (UInt8 × UInt8)) : ∀ (M : Nat), (∀ p ∈ l, p.1.toNat ≤ p.2.toNat) → ∃ N, makeF M l = some N ∧ ∀ i, N.testBit i = (M.testBit i || l.any (inR i)) := by
  induction l with
  | nil => intro M h; exact ⟨M, rfl, by simp⟩
  | cons p t ih =>
    intro M h
    obtain ⟨a, b⟩ := p
    have hab : a.toNat ≤ b.toNat := h (a, b) (by simp)
    obtain ⟨N, hN, hb⟩ := ih (fillM M a.toNat (b.toNat - a.toNat + 1)) (fun q hq => h q (by simp [hq]))
    refine ⟨N, by rw [makeF, if_neg (by omega), hN], ?_⟩
    intro i
    rw [hb, fillM_bit, List.any_cons, Bool.or_assoc]
    congr 2
    (rw [Bool.eq_iff_iff]; simp only [Bool.and_eq_true, decide_eq_true_eq, inR_iff])
    omega
theorem makeF_none (l : List (UInt8 × UInt8)) : ∀ (M : Nat), (∃ p ∈ l, p.2.toNat < p.1.toNat) → makeF M l = none := by
  induction l with
  | nil => rintro M ⟨p, h, _⟩; cases h
  | cons p t ih =>
    rintro M ⟨q, hq, hlt⟩
    obtain ⟨a, b⟩ := p
    rw [makeF]
    split
    · rfl
    · refine ih _ ⟨q, ?_, hlt⟩
      rcases List.mem_cons.1 hq with rfl | h
      · simp only at hlt; omega
      · exact h
theorem makeF_some_le (l : List (UInt8 × UInt8)) (M N : Nat) (h : makeF M l = some N) : ∀ p ∈ l, p.1.toNat ≤ p.2.toNat := by
  intro p hp
  rcases Nat.lt_or_ge p.2.toNat p.1.toNat with hl | hg
  · rw [makeF_none l M ⟨p, hp, hl⟩] at h; cases h
  · exact hg
theorem notM_bit (M i : Nat) : (notM M).testBit i = (decide (i < 256) ^^ M.testBit i) := by
  rw [notM, Nat.testBit_xor, fullM, Nat.testBit_two_pow_sub_one]
theorem eq_of_bits {M N : Nat} (hM : M < 2 ^ 256) (hN : N < 2 ^ 256) (h : ∀ i, i < 256 → M.testBit i = N.testBit i) : M = N := by
  apply Nat.eq_of_testBit_eq
  intro i
  rcases Nat.lt_or_ge i 256 with hi | hi
  · exact h i hi
  · have : 2 ^ 256 ≤ 2 ^ i := Nat.pow_le_pow_right (by omega) hi
    rw [Nat.testBit_lt_two_pow (by omega), Nat.testBit_lt_two_pow (by omega)]
theorem lt_of_bits {M : Nat} (h : ∀ i, 256 ≤ i → M.testBit i = false) : M < 2 ^ 256 := Nat.lt_pow_two_of_testBit M h
theorem notM_lt (M : Nat) (hM : M < 2 ^ 256) : notM M < 2 ^ 256 := by
  apply lt_of_bits
  intro i hi
  have : 2 ^ 256 ≤ 2 ^ i := Nat.pow_le_pow_right (by omega) hi
  rw [notM_bit, Nat.testBit_lt_two_pow (by omega)]
  simp; omega
theorem notM_notM (M : Nat) (hM : M < 2 ^ 256) : notM (notM M) = M := by
  refine eq_of_bits (notM_lt _ (notM_lt _ hM)) hM ?_
  intro i hi
  rw [notM_bit, notM_bit]
  simp [hi]
theorem u8_le (b : UInt8) : b.toNat ≤ 255 := by have := b.toNat_lt; omega
theorem makeF_lt (l : List (UInt8 × UInt8)) (N : Nat) (h : makeF 0 l = some N) : N < 2 ^ 256 := by
  obtain ⟨N', h1, h2⟩ := makeF_bit l 0 (makeF_some_le l 0 N h)
  rw [h] at h1
  injection h1 with h1
  subst h1
  apply lt_of_bits
  intro i hi
  rw [h2]
  simp only [Nat.zero_testBit, Bool.false_or]
  rw [List.any_eq_false]
  intro p hp
  have := u8_le p.2
  rw [inR_iff]; omega

/-- The ranges of rising bytes. -/
def pushR (l : List (UInt8 × UInt8)) (b : UInt8) : List (UInt8 × UInt8) :=
  match l.getLast? with
  | some (a, c) => if c.toNat + 1 = b.toNat then l.dropLast ++ [(a, b)] else l ++ [(b, b)]
  | none => [(b, b)]
def rgL (bs : List UInt8) : List (UInt8 × UInt8) := bs.foldl pushR []
def bytesTo (M n : Nat) : List UInt8 := ((List.range n).filter (fun i => M.testBit i)).map UInt8.ofNat
def bytesOf (M : Nat) : List UInt8 := bytesTo M 256
theorem rgL_snoc (l : List UInt8) (b : UInt8) : rgL (l ++ [b]) = pushR (rgL l) b := by simp [rgL]
theorem pushR_nil (b : UInt8) : pushR [] b = [(b, b)] := rfl
theorem pushR_snoc (l : List (UInt8 × UInt8)) (a c b : UInt8) : pushR (l ++ [(a, c)]) b = if c.toNat + 1 = b.toNat then l ++ [(a, b)] else l ++ [(a, c)] ++ [(b, b)] := by
  simp [pushR]
theorem bytesTo_succ (M n : Nat) : bytesTo M (n + 1) = if M.testBit n then bytesTo M n ++ [UInt8.ofNat n] else bytesTo M n := by
  unfold bytesTo
  rw [List.range_succ, List.filter_append]
  cases h : M.testBit n <;> simp [h]
theorem snoc_cases {α : Type} (l : List α) : l = [] ∨ ∃ m x, l = m ++ [x] := by
  rcases List.eq_nil_or_concat l with h | ⟨m, x, h⟩
  · exact .inl h
  · exact .inr ⟨m, x, by simpa using h⟩
theorem pushR_any (l : List (UInt8 × UInt8)) (b : UInt8) (i : Nat) (hl : ∀ p ∈ l, p.1.toNat ≤ p.2.toNat) : (pushR l b).any (inR i) = (l.any (inR i) || decide (i = b.toNat)) := by
  rcases snoc_cases l with rfl | ⟨m, ⟨a, c⟩, rfl⟩
  · (rw [Bool.eq_iff_iff]; simp only [pushR_nil, List.any_cons, List.any_nil, Bool.or_false, Bool.false_or, inR_iff, decide_eq_true_eq]); omega
  · have := hl (a, c) (by simp)
    rw [pushR_snoc]
    split
    · simp only [List.any_append, List.any_cons, List.any_nil, Bool.or_false, Bool.or_assoc]
      congr 1
      (rw [Bool.eq_iff_iff]; simp only [inR_iff, Bool.or_eq_true, decide_eq_true_eq])
      simp only at this
      omega
    · simp only [List.any_append, List.any_cons, List.any_nil, Bool.or_false, Bool.or_assoc]
      congr 2
      (rw [Bool.eq_iff_iff]; simp only [inR_iff, decide_eq_true_eq]); omega
theorem pushR_le (l : List (UInt8 × UInt8)) (b : UInt8) (hl : ∀ p ∈ l, p.1.toNat ≤ p.2.toNat) : ∀ p ∈ pushR l b, p.1.toNat ≤ p.2.toNat := by
  rcases snoc_cases l with rfl | ⟨m, ⟨a, c⟩, rfl⟩
  · intro p hp; rw [pushR_nil] at hp; simp at hp; subst hp; exact Nat.le_refl _
  · have hac := hl (a, c) (by simp)
    intro p hp
    rw [pushR_snoc] at hp
    split at hp
    · rcases List.mem_append.1 hp with h | h
      · exact hl p (by simp [h])
      · simp at h; subst h; simp only at hac ⊢; omega
    · rcases List.mem_append.1 hp with h | h
      · exact hl p h
      · simp at h; subst h; exact Nat.le_refl _
theorem rgL_to (M : Nat) : ∀ n, n ≤ 256 → (∀ p ∈ rgL (bytesTo M n), p.1.toNat ≤ p.2.toNat) ∧ ∀ i, (rgL (bytesTo M n)).any (inR i) = (decide (i < n) && M.testBit i) := by
  intro n
  induction n with
  | zero => intro _; exact ⟨fun p hp => by simp [bytesTo, rgL] at hp, fun i => by simp [bytesTo, rgL]⟩
  | succ n ih =>
    intro hn
    obtain ⟨h1, h2⟩ := ih (by omega)
    rw [bytesTo_succ]
    by_cases h : M.testBit n = true
    · rw [if_pos h, rgL_snoc]
      refine ⟨pushR_le _ _ h1, ?_⟩
      intro i
      have hb : (UInt8.ofNat n).toNat = n := by simp; omega
      rw [pushR_any _ _ _ h1, h2, hb]
      by_cases hi : i = n
      · subst hi; simp [h]
      · have : decide (i < n + 1) = decide (i < n) := by simp only [decide_eq_decide]; omega
        rw [this]; simp [hi]
    · rw [if_neg h]
      refine ⟨h1, ?_⟩
      intro i
      rw [h2]
      by_cases hi : i = n
      · subst hi; simp at h; simp [h]
      · have : decide (i < n + 1) = decide (i < n) := by simp only [decide_eq_decide]; omega
        rw [this]
theorem again_any (p : UInt8 × UInt8) (i : Nat) (hp : p.1.toNat ≤ p.2.toNat) : (again p).any (inR i) = inR i p := by
  unfold again
  split
  · rename_i h
    obtain ⟨a, b⟩ := p
    simp only at h
    subst h
    simp
  · split
    · simp
    · rename_i h1 h2
      have : p.1.toNat ≠ p.2.toNat := fun e => h1 (UInt8.toNat_inj.1 e.symm)
      (rw [Bool.eq_iff_iff]; simp only [List.any_cons, List.any_nil, Bool.or_false, Bool.or_eq_true, inR_iff])
      omega
theorem again_le (p : UInt8 × UInt8) (hp : p.1.toNat ≤ p.2.toNat) : ∀ q ∈ again p, q.1.toNat ≤ q.2.toNat := by
  intro q hq
  unfold again at hq
  split at hq
  · simp at hq; subst hq; exact Nat.le_refl _
  · split at hq
    · simp at hq; subst hq; exact hp
    · simp at hq; rcases hq with rfl | rfl <;> exact Nat.le_refl _
theorem agains_any (l : List (UInt8 × UInt8)) (i : Nat) (h : ∀ p ∈ l, p.1.toNat ≤ p.2.toNat) : (l.flatMap again).any (inR i) = l.any (inR i) := by
  induction l with
  | nil => rfl
  | cons p t ih => rw [List.flatMap_cons, List.any_append, again_any p i (h p (by simp)), ih (fun q hq => h q (by simp [hq])), List.any_cons]
/-- A set's text. -/
def itemsT (M : Nat) : List UInt8 := (rgL (bytesOf M)).flatMap itemT
def setText (M : Nat) : List UInt8 := if 128 < (bytesOf M).length then 91 :: 94 :: (itemsT (notM M) ++ [93]) else 91 :: (itemsT M ++ [93])
theorem read_items (M : Nat) (hM : M < 2 ^ 256) : (itemsF (itemsT M ++ [93])).bind (makeF 0) = some M := by
  obtain ⟨h1, h2⟩ := rgL_to M 256 (Nat.le_refl _)
  rw [itemsT, show rgL (bytesOf M) = rgL (bytesTo M 256) from rfl, itemsF_items _ h1]
  have hle : ∀ p ∈ (rgL (bytesTo M 256)).flatMap again, p.1.toNat ≤ p.2.toNat := by
    intro p hp
    obtain ⟨q, hq, hqp⟩ := List.mem_flatMap.1 hp
    exact again_le q (h1 q hq) p hqp
  obtain ⟨N, hN, hb⟩ := makeF_bit _ 0 hle
  show makeF 0 _ = _
  rw [hN]
  congr 1
  refine eq_of_bits (makeF_lt _ _ hN) hM ?_
  intro i hi
  rw [hb, agains_any _ _ h1, h2]
  simp [hi]
theorem itemsT_head (M : Nat) (t : List UInt8) : (itemsT M ++ 93 :: t).head? ≠ some 94 := by
  unfold itemsT
  cases rgL (bytesOf M) with
  | nil => simp
  | cons p l => rw [List.flatMap_cons, List.append_assoc]; exact (itemT_head p _).2.2
theorem readF_setText (M : Nat) (hM : M < 2 ^ 256) : readF (setText M) = some M := by
  unfold setText
  split
  · have h := read_items (notM M) (notM_lt M hM)
    rw [readF, List.head?_cons, if_pos rfl, List.drop_succ_cons, List.drop_zero, h, Option.map_some, notM_notM M hM]
  · have h := read_items M hM
    rw [readF, if_neg (itemsT_head M []), h]
theorem scanB_items' (M : Nat) (t : List UInt8) : scanB (itemsT M ++ 93 :: t) = some (itemsT M).length := by
  rw [itemsT, scanB_items, scanB_end]; simp
theorem setF_setText (M : Nat) (hM : M < 2 ^ 256) (t : List UInt8) : setF (setText M ++ t) = some (M, (setText M).length) := by
  have hs : scanB (setText M ++ t) = some ((setText M).length - 1) := by
    unfold setText
    split
    · show scanB (91 :: 94 :: (itemsT (notM M) ++ [93] ++ t)) = _
      rw [scanB_other _ _ (by decide) (by decide), scanB_other _ _ (by decide) (by decide), List.append_assoc, List.singleton_append, scanB_items']
      simp
    · show scanB (91 :: (itemsT M ++ [93] ++ t)) = _
      rw [scanB_other _ _ (by decide) (by decide), List.append_assoc, List.singleton_append, scanB_items']
      simp
  have hp : 1 ≤ (setText M).length := by unfold setText; split <;> simp
  rw [setF, hs]
  show (readF ((setText M ++ t).take ((setText M).length - 1 + 1))).map _ = _
  rw [show (setText M).length - 1 + 1 = (setText M).length by omega, List.take_left, readF_setText M hM]
  rfl
end Go.Proofs.YtacgnbelcpmjfaaGreatDoor.Dx
set_option linter.unusedVariables false
namespace Go.Proofs.YtacgnbelcpmjfaaGreatDoor.Dx
open Go
def nameB (s : List UInt8) : Bool := (match s with | [] => false | c :: _ => letterB (c.toNat : Int)) && s.all wordB && decide (s.length ≤ 64)
/-- May a word be? -/
def mayF (w : Wd) : Bool :=
  if w.kind = 1 then decide (w.num = 0) && decide (w.set = 0) && nameB w.text
  else if w.kind = 2 then decide (w.num = 0) && decide (w.set = 0)
  else if w.kind = 3 then decide (w.num = 0) && decide (w.text = [])
  else if w.kind = 4 then decide (w.text = []) && decide (w.set = 0) && decide (0 ≤ w.num) && decide (w.num ≤ 999999999)
  else if w.kind = 5 then decide (w.num = 0) && decide (w.set = 0) && (match w.text with | [c] => signB (c.toNat : Int) | _ => false)
  else false
/-- A word's text. -/
def toldF (w : Wd) : List UInt8 :=
  if w.kind = 2 then quoteF w.text else if w.kind = 3 then setText w.set else if w.kind = 4 then Lib.itoa w.num else w.text
/-- Words' texts, a blank between. -/
def tellL : List Wd → List UInt8
  | [] => []
  | w :: t => match t with
    | [] => toldF w
    | _ :: _ => toldF w ++ 32 :: tellL t
theorem tellL_one (w : Wd) : tellL [w] = toldF w := rfl
theorem tellL_cons (w : Wd) (t : List Wd) (h : t ≠ []) : tellL (w :: t) = toldF w ++ 32 :: tellL t := by
  cases t with
  | nil => exact absurd rfl h
  | cons v t => rfl
theorem tellL_snoc (l : List Wd) (w : Wd) : tellL (l ++ [w]) = tellL l ++ ((if l = [] then [] else [32]) ++ toldF w) := by
  induction l with
  | nil => rfl
  | cons v t ih =>
    rw [List.cons_append, tellL_cons v _ (by simp), ih, if_neg (by simp : v :: t ≠ [])]
    cases t with
    | nil => rfl
    | cons u t => rw [if_neg (by simp), tellL_cons v _ (by simp)]; simp
/-- What stands behind a word does not go on with it. -/
def sepB (t : List UInt8) : Prop := ∀ c, t.head? = some c → wordB c = false
theorem takeWhile_sep (s t : List UInt8) (hs : s.all wordB = true) (ht : sepB t) : (s ++ t).takeWhile wordB = s := by
  induction s with
  | nil =>
    cases t with
    | nil => rfl
    | cons c t => rw [List.nil_append, List.takeWhile_cons, ht c rfl]; rfl
  | cons c s ih =>
    rw [List.all_cons, Bool.and_eq_true] at hs
    rw [List.cons_append, List.takeWhile_cons, if_pos hs.1, ih hs.2]
theorem dig_facts (n : Nat) (h : n < 10) : (UInt8.ofNat (48 + n)).toNat = 48 + n ∧ digB (UInt8.ofNat (48 + n)) = true ∧ wordB (UInt8.ofNat (48 + n)) = true := by
  have : (List.range 10).all (fun n => decide ((UInt8.ofNat (48 + n)).toNat = 48 + n ∧ digB (UInt8.ofNat (48 + n)) = true ∧ wordB (UInt8.ofNat (48 + n)) = true)) = true := by decide +kernel
  simpa using List.all_eq_true.1 this n (by simp; omega)
theorem dec_small {u : Nat} (h : u < 10) : Lib.decDigits u = [UInt8.ofNat (48 + u)] := by rw [Lib.decDigits, dif_pos h]
theorem dec_big {u : Nat} (h : ¬ u < 10) : Lib.decDigits u = Lib.decDigits (u / 10) ++ [UInt8.ofNat (48 + u % 10)] := by rw [Lib.decDigits, dif_neg h]
theorem dec_facts (u : Nat) : (Lib.decDigits u).all digB = true ∧ (Lib.decDigits u).all wordB = true ∧ decF (Lib.decDigits u) = u ∧ Lib.decDigits u ≠ [] ∧ (Lib.decDigits u = [48] ∨ (Lib.decDigits u).head? ≠ some 48) := by
  induction u using Nat.strongRecOn with
  | _ u ih =>
    by_cases h : u < 10
    · obtain ⟨h1, h2, h3⟩ := dig_facts u h
      rw [dec_small h]
      generalize UInt8.ofNat (48 + u) = b at h1 h2 h3 ⊢
      refine ⟨by simp [h2], by simp [h3], by simp [decF, h1], by simp, ?_⟩
      by_cases h0 : u = 0
      · subst h0; exact .inl (by rw [show b = 48 from UInt8.toNat_inj.1 h1])
      · refine .inr ?_
        simp only [List.head?_cons, ne_eq, Option.some.injEq]
        intro e
        have : b.toNat = 48 := by rw [e]; rfl
        omega
    · obtain ⟨i1, i2, i3, i4, i5⟩ := ih (u / 10) (by omega)
      obtain ⟨h1, h2, h3⟩ := dig_facts (u % 10) (by omega)
      rw [dec_big h]
      generalize UInt8.ofNat (48 + u % 10) = b at h1 h2 h3 ⊢
      refine ⟨by simp [i1, h2, List.all_append], by simp [i2, h3, List.all_append], ?_, by simp, ?_⟩
      · rw [decF, List.foldl_append]
        show 10 * decF (Lib.decDigits (u / 10)) + _ = u
        rw [i3, h1]; omega
      · refine .inr ?_
        rcases i5 with e | e
        · rw [e] at i3
          have : decF [48] = 0 := rfl
          omega
        · cases hd : Lib.decDigits (u / 10) with
          | nil => exact absurd hd i4
          | cons c t => rw [hd] at e; simpa using e
theorem dec_len (u : Nat) (h : u ≤ 999999999) : (Lib.decDigits u).length ≤ 9 := by
  rw [Lib.decDigits_length]
  rcases Nat.lt_or_ge 9 (Lib.nDigits u) with hl | hl
  · have h1 : ∀ k u, k < Lib.nDigits u → 10 ^ k ≤ u ∨ k = 0 := by
      intro k
      induction k with
      | zero => intro u _; exact .inr rfl
      | succ k ih =>
        intro u hk
        refine .inl ?_
        by_cases hu : u < 10
        · rw [Lib.nDigits_small hu] at hk; omega
        · rw [Lib.nDigits_big hu] at hk
          rcases ih (u / 10) (by omega) with h2 | h2
          · rw [Nat.pow_succ]; omega
          · subst h2; simpa using Nat.le_of_not_lt hu
    rcases h1 9 u hl with h2 | h2
    · have : (10 : Nat) ^ 9 = 1000000000 := by decide
      omega
    · omega
  · exact hl
theorem numF_dec (u : Nat) (h : u ≤ 999999999) : numF (Lib.decDigits u) = some u := by
  obtain ⟨i1, i2, i3, i4, i5⟩ := dec_facts u
  rw [numF, if_pos ⟨i1, dec_len u h, i5⟩, i3]
theorem cls_letter {c : UInt8} (h : letterB (c.toNat : Int) = true) : classI (c.toNat : Int) = 1 := by simp [classI, h]
theorem cls_digit {c : UInt8} (h : digB c = true) : classI (c.toNat : Int) = 2 := by
  have := classI_cases (c.toNat : Int) _ (sign_index c) sign_range
  have h2 := digitB_true.1 h
  omega
theorem cls_sign {c : UInt8} (h : signB (c.toNat : Int) = true) : classI (c.toNat : Int) = 5 := by
  obtain ⟨h1, h2, h3, h4⟩ := sign_range h
  simp [classI, h, h1, h2, h3, h4]
theorem mayF_cases {w : Wd} (h : mayF w = true) :
    (∃ c t, w = ⟨1, c :: t, 0, 0⟩ ∧ letterB (c.toNat : Int) = true ∧ (c :: t).all wordB = true ∧ (c :: t).length ≤ 64) ∨ (∃ s, w = ⟨2, s, 0, 0⟩) ∨ (∃ M, w = ⟨3, [], M, 0⟩) ∨
    (∃ n : Nat, w = ⟨4, [], 0, n⟩ ∧ n ≤ 999999999) ∨ (∃ c, w = ⟨5, [c], 0, 0⟩ ∧ signB (c.toNat : Int) = true) := by
  obtain ⟨k, s, M, n⟩ := w
  unfold mayF at h
  simp only at h
  split at h
  · rename_i hk; subst hk
    simp only [Bool.and_eq_true, decide_eq_true_eq, nameB] at h
    obtain ⟨⟨h1, h2⟩, ⟨h3, h4⟩, h5⟩ := h
    subst h1; subst h2
    cases s with
    | nil => cases h3
    | cons c t => exact .inl ⟨c, t, rfl, h3, h4, h5⟩
  split at h
  · rename_i hk; subst hk
    simp only [Bool.and_eq_true, decide_eq_true_eq] at h
    obtain ⟨h1, h2⟩ := h
    subst h1; subst h2
    exact .inr (.inl ⟨s, rfl⟩)
  split at h
  · rename_i hk; subst hk
    simp only [Bool.and_eq_true, decide_eq_true_eq] at h
    obtain ⟨h1, h2⟩ := h
    subst h1; subst h2
    exact .inr (.inr (.inl ⟨M, rfl⟩))
  split at h
  · rename_i hk; subst hk
    simp only [Bool.and_eq_true, decide_eq_true_eq] at h
    obtain ⟨⟨⟨h1, h2⟩, h3⟩, h4⟩ := h
    subst h1; subst h2
    obtain ⟨m, rfl⟩ := Int.eq_ofNat_of_zero_le h3
    exact .inr (.inr (.inr (.inl ⟨m, rfl, by omega⟩)))
  split at h
  · rename_i hk; subst hk
    simp only [Bool.and_eq_true, decide_eq_true_eq] at h
    obtain ⟨⟨h1, h2⟩, h3⟩ := h
    subst h1; subst h2
    match s, h3 with
    | [c], h3 => exact .inr (.inr (.inr (.inr ⟨c, rfl, h3⟩)))
  · cases h
theorem itoa_nat (n : Nat) : Lib.itoa (n : Int) = Lib.decDigits n := by
  rw [Lib.itoa, if_neg (by omega)]; rfl
/-- A word's text is read as the word. -/
theorem wordF_told (w : Wd) (h : mayF w = true) (hM : w.set < 2 ^ 256) (t : List UInt8) (ht : sepB t) : wordF (toldF w ++ t) = some (w, (toldF w).length) := by
  rcases mayF_cases h with ⟨c, s, rfl, h1, h2, h3⟩ | ⟨s, rfl⟩ | ⟨M, rfl⟩ | ⟨n, rfl, hn⟩ | ⟨c, rfl, hc⟩
  · show wordF (c :: s ++ t) = some (_, (c :: s).length)
    have e := takeWhile_sep (c :: s) t h2 ht
    rw [List.cons_append] at e ⊢
    rw [wordF, if_pos (cls_letter h1), e, if_pos h3]
  · show wordF (34 :: (s.flatMap quoteB ++ [34]) ++ t) = some (_, (quoteF s).length)
    rw [List.cons_append, wordF, if_neg (by decide), if_neg (by decide), if_pos (by decide), List.append_assoc, List.singleton_append, txt_quotes]
    simp [quoteF]
  · show wordF (setText M ++ t) = some (_, (setText M).length)
    obtain ⟨u, hu⟩ : ∃ u, setText M = 91 :: u := by unfold setText; split <;> exact ⟨_, rfl⟩
    have hs := setF_setText M hM t
    rw [hu] at hs ⊢
    rw [List.cons_append] at hs ⊢
    rw [wordF, if_neg (by decide), if_neg (by decide), if_neg (by decide), if_pos (by decide), hs]
    rfl
  · show wordF (Lib.itoa (n : Int) ++ t) = some (_, (Lib.itoa (n : Int)).length)
    obtain ⟨i1, i2, i3, i4, i5⟩ := dec_facts n
    rw [itoa_nat]
    have hnum := numF_dec n hn
    have e := takeWhile_sep _ t i2 ht
    cases hd : Lib.decDigits n with
    | nil => exact absurd hd i4
    | cons c s =>
      rw [hd] at e i1 hnum
      rw [List.cons_append] at e ⊢
      rw [List.all_cons, Bool.and_eq_true] at i1
      have hc := cls_digit i1.1
      rw [wordF, if_neg (by omega), if_pos hc, e, hnum]
      rfl
  · show wordF (c :: t) = some (_, 1)
    have := cls_sign hc
    rw [wordF, if_neg (by omega), if_neg (by omega), if_neg (by omega), if_neg (by omega), if_pos this]
/-- A word's text begins at once. -/
theorem skM_cls (c : UInt8) (t : List UInt8) (h : classI (c.toNat : Int) ≠ 0) : skM false (c :: t) = 0 := by
  have hb : blankB c = false ∧ c ≠ 47 := by
    revert h
    exact all_bytes (p := fun c => classI (c.toNat : Int) ≠ 0 → blankB c = false ∧ c ≠ 47) (by decide +kernel) c
  rw [skM, if_neg (by simp [hb.1]), if_neg (by simp [hb.2])]
theorem wordF_cls {c : UInt8} {t : List UInt8} {p : Wd × Nat} (h : wordF (c :: t) = some p) : classI (c.toNat : Int) ≠ 0 := by
  intro e
  rw [wordF, if_neg (by omega), if_neg (by omega), if_neg (by omega), if_neg (by omega), if_neg (by omega)] at h
  cases h
theorem told_ne (w : Wd) (h : mayF w = true) (hM : w.set < 2 ^ 256) : toldF w ≠ [] := by
  intro e
  have := wordF_told w h hM [] (by intro c hc; cases hc)
  rw [e] at this
  cases this
theorem lexF_told (p : Nat) (g : List UInt8) (w : Wd) (h : mayF w = true) (hM : w.set < 2 ^ 256) (t : List UInt8) (ht : sepB t) (hg : ∀ l, skM false (g ++ l) = g.length + skM false l) :
    lexF p (g ++ (toldF w ++ t)) = ((p + g.length, w) :: (lexF (p + g.length + (toldF w).length) t).1, (lexF (p + g.length + (toldF w).length) t).2) := by
  have hw := wordF_told w h hM t ht
  have hne := told_ne w h hM
  have h0 : skM false (toldF w ++ t) = 0 := by
    cases hd : toldF w with
    | nil => exact absurd hd hne
    | cons c s =>
      rw [hd, List.cons_append] at hw
      rw [List.cons_append]
      exact skM_cls c _ (wordF_cls hw)
  have hs : skM false (g ++ (toldF w ++ t)) = g.length := by rw [hg, h0]; rfl
  rw [lexF_word p _ (toldF w ++ t) w _ (by rw [hs, List.drop_left]) hw, hs, List.drop_left]
def mayW (w : Wd) : Prop := mayF w = true ∧ w.set < 2 ^ 256
def AllW (l : List Wd) : Prop := ∀ w ∈ l, mayW w
theorem sep_nil : sepB [] := by intro c h; cases h
theorem sep_blank (t : List UInt8) : sepB (32 :: t) := by intro c h; injection h with h; subst h; decide
theorem lexF_tell (l : List Wd) (h : AllW l) : ∀ (p : Nat) (g : List UInt8), (∀ l, skM false (g ++ l) = g.length + skM false l) → (lexF p (g ++ tellL l)).2 = none ∧ (lexF p (g ++ tellL l)).1.map (·.2) = l := by
  induction l with
  | nil =>
    intro p g hg
    have : skM false (g ++ []) = g.length := by rw [hg]; rfl
    rw [tellL, lexF_end p _ (by rw [this]; simp)]
    exact ⟨rfl, rfl⟩
  | cons w t ih =>
    intro p g hg
    obtain ⟨hw, hM⟩ := h w (by simp)
    have ih := ih (fun v hv => h v (by simp [hv]))
    cases t with
    | nil =>
      have := lexF_told p g w hw hM [] sep_nil hg
      rw [List.append_nil] at this
      rw [tellL_one, this, lexF_end _ [] rfl]
      exact ⟨rfl, rfl⟩
    | cons v t =>
      rw [tellL_cons w _ (by simp), lexF_told p g w hw hM _ (sep_blank _) hg]
      have hb : ∀ l, skM false ([32] ++ l) = [32].length + skM false l := by
        intro l; show skM false (32 :: l) = _; rw [skM, if_pos (by decide), Nat.add_comm]; rfl
      obtain ⟨i1, i2⟩ := ih (p + g.length + (toldF w).length) [32] hb
      rw [List.singleton_append] at i1 i2
      exact ⟨i1, by simpa using i2⟩
end Go.Proofs.YtacgnbelcpmjfaaGreatDoor.Dx
set_option linter.unusedVariables false
namespace Go.Proofs.YtacgnbelcpmjfaaGreatDoor.Dx
open Go
theorem takeWhile_nl (s t : List UInt8) : (s ++ 10 :: t).takeWhile wordB = s.takeWhile wordB := by
  induction s with
  | nil => rfl
  | cons c s ih =>
    rw [List.cons_append, List.takeWhile_cons, List.takeWhile_cons, ih]
theorem escF_nl (s t : List UInt8) : escF (s ++ 10 :: t) = escF s := by
  match s with
  | [] => rfl
  | [c] =>
    show escF (c :: 10 :: t) = escF [c]
    rw [escF, escF]
    split
    · rfl
    · split
      · cases t with
        | nil => rfl
        | cons d t => rw [escH, if_neg]; · rfl
                      rintro ⟨h, _⟩; revert h; decide
      · rfl
  | [c, d] =>
    show escF (c :: d :: 10 :: t) = escF [c, d]
    rw [escF, escF]
    split
    · rfl
    · split
      · rw [escH, if_neg]; · rfl
        rintro ⟨_, h⟩; revert h; decide
      · rfl
  | c :: d :: e :: u =>
    show escF (c :: d :: e :: (u ++ 10 :: t)) = escF (c :: d :: e :: u)
    rw [escF, escF]; rfl
theorem escF_len (l : List UInt8) (b : UInt8) (n : Nat) (h : escF l = some (b, n)) : n ≤ l.length := by
  match l, h with
  | c :: t, h =>
    rw [escF] at h
    split at h
    · injection h with h; injection h with _ h; simp; omega
    · split at h
      · match t, h with
        | a :: d :: u, h =>
          rw [escH] at h
          split at h
          · injection h with h; injection h with _ h; simp; omega
          · cases h
      · cases h
theorem txt_nl (s t : List UInt8) : txt (s ++ 10 :: t) = txt s := by
  obtain ⟨k, hk⟩ : ∃ k, s.length = k := ⟨_, rfl⟩
  induction k using Nat.strongRecOn generalizing s with
  | _ k ih =>
    cases s with
    | nil => exact txt_bad 10 t (.inl (by decide))
    | cons c s =>
      rw [List.cons_append]
      have hs : s.length < k := by simp at hk; omega
      by_cases h34 : c = 34
      · subst h34; rw [txt_quote, txt_quote]
      by_cases hb : c.toNat < 32 ∨ 126 < c.toNat
      · rw [txt_bad c _ hb, txt_bad c _ hb]
      by_cases h92 : c = 92
      · subst h92
        rw [txt_esc, txt_esc, escF_nl]
        cases he : escF s with
        | none => rfl
        | some p =>
          obtain ⟨b, n⟩ := p
          have hn := escF_len _ _ _ he
          simp only
          rw [List.drop_append_of_le_length hn, ih (s.drop n).length (by rw [List.length_drop]; omega) _ rfl]
      · rw [txt_plain c _ h34 hb h92, txt_plain c _ h34 hb h92, ih s.length hs s rfl]
theorem takeF_no10 (l : List UInt8) (b : UInt8) (n : Nat) (h : takeF l = some (b, n)) : 10 ∉ l.take n := by
  match l, h with
  | c :: t, h =>
    rw [takeF] at h
    split at h
    · rename_i hc; subst hc
      match t, h with
      | d :: u, h =>
        rw [takeB] at h
        split at h
        · rename_i hd
          injection h with h; injection h with _ h; subst h
          rcases marks_some d hd with rfl | rfl | rfl | rfl | rfl | rfl | rfl | rfl <;> simp
        · split at h
          · rename_i hd; subst hd
            match u, h with
            | a :: e :: v, h =>
              rw [takeH] at h
              split at h
              · rename_i hh
                injection h with h; injection h with _ h; subst h
                have h1 : a ≠ 10 := by rintro rfl; have := hh.1; revert this; decide
                have h2 : e ≠ 10 := by rintro rfl; have := hh.2; revert this; decide
                simp [Ne.symm h1, Ne.symm h2]
              · cases h
          · cases h
    · split at h
      · rename_i hc
        injection h with h; injection h with _ h; subst h
        have : c ≠ 10 := by rintro rfl; have := hc.1; revert this; decide
        simp [Ne.symm this]
      · cases h
theorem mem_drop_of {l : List UInt8} {n : Nat} (h : (10 : UInt8) ∈ l) (hn : 10 ∉ l.take n) : 10 ∈ l.drop n := by
  rw [← List.take_append_drop n l, List.mem_append] at h
  rcases h with h | h
  · exact absurd h hn
  · exact h
theorem itemsF_no10 (l : List UInt8) (h : 10 ∈ l) : itemsF l = none := by
  obtain ⟨k, hk⟩ : ∃ k, l.length = k := ⟨_, rfl⟩
  induction k using Nat.strongRecOn generalizing l with
  | _ k ih =>
    have h93 : l ≠ [93] := by rintro rfl; revert h; decide
    cases ht : takeF l with
    | none => exact itemsF_bad l h93 ht
    | some p =>
      obtain ⟨a, n⟩ := p
      have hp := takeF_pos l a n ht
      have hd := mem_drop_of h (takeF_no10 _ _ _ ht)
      by_cases hh : (l.drop n).head? = some 45
      · rw [itemsF_two l h93 a n ht hh]
        cases ht2 : takeF (l.drop (n + 1)) with
        | none => rfl
        | some q =>
          obtain ⟨b, m⟩ := q
          have hp2 := takeF_pos _ b m ht2
          rw [List.length_drop] at hp2
          simp only
          have h1 : 10 ∈ l.drop (n + 1) := by
            rw [← List.drop_drop]
            refine mem_drop_of hd ?_
            cases hq : l.drop n with
            | nil => rw [hq] at hh; cases hh
            | cons c u => rw [hq] at hh; injection hh with hh; subst hh; simp
          have h2 : 10 ∈ l.drop (n + 1 + m) := by
            rw [← List.drop_drop]
            exact mem_drop_of h1 (takeF_no10 _ _ _ ht2)
          rw [ih (l.drop (n + 1 + m)).length (by rw [List.length_drop]; omega) _ h2 rfl]
          rfl
      · rw [itemsF_one l h93 a n ht hh, ih (l.drop n).length (by rw [List.length_drop]; omega) _ hd rfl]
        rfl
theorem readF_no10 (l : List UInt8) (h : 10 ∈ l) : readF l = none := by
  unfold readF
  split
  · rename_i t
    have ht : 10 ∈ t := by simpa using h
    split
    · rename_i hh
      have : 10 ∈ t.drop 1 := by
        cases t with
        | nil => cases ht
        | cons c u =>
          injection hh with hh; subst hh
          simpa using ht
      rw [itemsF_no10 _ this]; rfl
    · rw [itemsF_no10 _ ht]; rfl
  · rfl
theorem scanB_nl (s t : List UInt8) : (∃ n, scanB s = some n ∧ scanB (s ++ 10 :: t) = some n) ∨ (scanB s = none ∧ ∀ n, scanB (s ++ 10 :: t) = some n → s.length ≤ n) := by
  obtain ⟨k, hk⟩ : ∃ k, s.length = k := ⟨_, rfl⟩
  induction k using Nat.strongRecOn generalizing s with
  | _ k ih =>
    match s with
    | [] => exact .inr ⟨rfl, fun n _ => Nat.zero_le _⟩
    | c :: s =>
      rw [List.cons_append]
      by_cases h92 : c = 92
      · subst h92
        match s with
        | [] =>
          refine .inr ⟨rfl, ?_⟩
          intro n h
          rw [scanB_esc, Option.map_eq_some_iff] at h
          obtain ⟨m, _, rfl⟩ := h
          simp
        | d :: s =>
          have := ih s.length (by simp at hk; omega) s rfl
          rw [scanB_esc, scanB_esc]
          simp only [List.cons_append, List.drop_succ_cons, List.drop_zero]
          rcases this with ⟨n, h1, h2⟩ | ⟨h1, h2⟩
          · exact .inl ⟨n + 2, by rw [h1]; rfl, by rw [h2]; rfl⟩
          · refine .inr ⟨by rw [h1]; rfl, ?_⟩
            intro n h
            rw [Option.map_eq_some_iff] at h
            obtain ⟨m, hm, rfl⟩ := h
            have := h2 m hm
            simp; omega
      · by_cases h93 : c = 93
        · subst h93
          exact .inl ⟨0, scanB_end _, scanB_end _⟩
        · have := ih s.length (by simp at hk; omega) s rfl
          rw [scanB_other c _ h92 h93, scanB_other c _ h92 h93]
          rcases this with ⟨n, h1, h2⟩ | ⟨h1, h2⟩
          · exact .inl ⟨n + 1, by rw [h1]; rfl, by rw [h2]; rfl⟩
          · refine .inr ⟨by rw [h1]; rfl, ?_⟩
            intro n h
            rw [Option.map_eq_some_iff] at h
            obtain ⟨m, hm, rfl⟩ := h
            have := h2 m hm
            simp; omega
theorem setF_nl (s t : List UInt8) : setF (s ++ 10 :: t) = setF s := by
  rcases scanB_nl s t with ⟨n, h1, h2⟩ | ⟨h1, h2⟩
  · have := scanB_lt _ _ h1
    rw [setF, setF, h1, h2]
    simp only [Option.bind_some]
    rw [List.take_append_of_le_length (by omega)]
  · rw [setF, setF, h1]
    cases hs : scanB (s ++ 10 :: t) with
    | none => rfl
    | some n =>
      have := h2 n hs
      simp only [Option.bind_some, Option.bind_none]
      have hm : (10 : UInt8) ∈ (s ++ 10 :: t).take (n + 1) := by
        obtain ⟨d, rfl⟩ : ∃ d, n = s.length + d := ⟨n - s.length, by omega⟩
        rw [show s.length + d + 1 = s.length + (d + 1) by omega, List.take_length_add_append]
        simp
      rw [readF_no10 _ hm]; rfl
theorem wordF_nl (c : UInt8) (s t : List UInt8) : wordF (c :: s ++ 10 :: t) = wordF (c :: s) := by
  have h1 := takeWhile_nl (c :: s) t
  have h2 := setF_nl (c :: s) t
  rw [List.cons_append] at h1 h2 ⊢
  rw [wordF, wordF, h1, txt_nl, h2]
theorem skM_nl (m : Bool) (s t : List UInt8) : skM m (s ++ 10 :: t) = if skM m s = s.length then s.length + 1 + skM false t else skM m s := by
  induction s generalizing m with
  | nil => cases m <;> simp [skM, blankB, blankL] <;> omega
  | cons c s ih =>
    have h1 := skM_le m s
    cases m with
    | true =>
      rw [List.cons_append, skM, skM]
      split
      · rw [ih]; simp only [List.length_cons, Nat.add_right_cancel_iff]; split <;> omega
      · rw [ih]; simp only [List.length_cons, Nat.add_right_cancel_iff]; split <;> omega
    | false =>
      rw [List.cons_append, skM, skM]
      split
      · rw [ih]; simp only [List.length_cons, Nat.add_right_cancel_iff]; split <;> omega
      · have e : (s ++ 10 :: t).head? = some 47 ↔ s.head? = some 47 := by cases s <;> simp
        by_cases hh : c = 47 ∧ s.head? = some 47
        · rw [if_pos hh, if_pos ⟨hh.1, e.2 hh.2⟩, ih]; simp only [List.length_cons, Nat.add_right_cancel_iff]; split <;> omega
        · rw [if_neg hh, if_neg (fun h => hh ⟨h.1, e.1 h.2⟩)]; simp
theorem lexF_join (a b : List UInt8) (p : Nat) :
    ((lexF p a).2 = none → (lexF p (a ++ 10 :: b)).1 = (lexF p a).1 ++ (lexF (p + a.length + 1) b).1 ∧ (lexF p (a ++ 10 :: b)).2 = (lexF (p + a.length + 1) b).2) ∧
    ((lexF p a).2 ≠ none → (lexF p (a ++ 10 :: b)).2 ≠ none) := by
  obtain ⟨k, hk⟩ : ∃ k, a.length = k := ⟨_, rfl⟩
  induction k using Nat.strongRecOn generalizing a p with
  | _ k ih =>
    have hle := skM_le false a
    have hsk := skM_nl false a b
    by_cases he : skM false a = a.length
    · rw [if_pos he] at hsk
      have hd : a.drop (skM false a) = [] := by rw [he]; simp
      rw [lexF_end p a hd]
      refine ⟨fun _ => ?_, fun h => absurd rfl h⟩
      have hdrop : (a ++ 10 :: b).drop (skM false (a ++ 10 :: b)) = b.drop (skM false b) := by
        rw [hsk, show a.length + 1 + skM false b = a.length + (1 + skM false b) by omega, ← List.drop_drop, List.drop_left, show 1 + skM false b = skM false b + 1 by omega, List.drop_succ_cons]
      cases hb : b.drop (skM false b) with
      | nil => rw [lexF_end _ _ hb, lexF_end _ _ (hdrop.trans hb)]; exact ⟨rfl, rfl⟩
      | cons c t =>
        cases hw : wordF (c :: t) with
        | none =>
          rw [lexF_bad _ _ _ hb (by simp) hw, lexF_bad _ _ _ (hdrop.trans hb) (by simp) hw, hsk]
          exact ⟨rfl, by simp; omega⟩
        | some q =>
          obtain ⟨w, n⟩ := q
          rw [lexF_word _ _ _ w n hb hw, lexF_word _ _ _ w n (hdrop.trans hb) hw, hsk]
          simp only [List.nil_append]
          rw [show p + (a.length + 1 + skM false b) = p + a.length + 1 + skM false b by omega]
          exact ⟨rfl, rfl⟩
    · rw [if_neg he] at hsk
      cases hd : a.drop (skM false a) with
      | nil =>
        have := congrArg List.length hd
        rw [List.length_drop] at this
        simp at this; omega
      | cons c t =>
        have hl : (c :: t).length = a.length - skM false a := by rw [← hd, List.length_drop]
        have hdrop : (a ++ 10 :: b).drop (skM false (a ++ 10 :: b)) = c :: t ++ 10 :: b := by
          rw [hsk, List.drop_append_of_le_length hle, hd]
        have hwn := wordF_nl c t b
        cases hw : wordF (c :: t) with
        | none =>
          rw [hw] at hwn
          rw [lexF_bad _ _ _ hd (by simp) hw, lexF_bad _ _ _ hdrop (by simp) hwn]
          exact ⟨fun h => by simp at h, fun _ => by simp⟩
        | some q =>
          obtain ⟨w, n⟩ := q
          rw [hw] at hwn
          have hp := wordF_pos _ _ _ hw
          have hdn : (c :: t ++ 10 :: b).drop n = (c :: t).drop n ++ 10 :: b := List.drop_append_of_le_length hp.2
          obtain ⟨i1, i2⟩ := ih ((c :: t).drop n).length (by rw [List.length_drop]; omega) ((c :: t).drop n) (p + skM false a + n) rfl
          rw [lexF_word _ _ _ w n hd hw, lexF_word _ _ _ w n hdrop hwn, hsk, hdn]
          refine ⟨?_, i2⟩
          intro h
          obtain ⟨j1, j2⟩ := i1 h
          rw [j1, j2, List.length_drop, hl]
          rw [show p + skM false a + n + (a.length - skM false a - n) + 1 = p + a.length + 1 by omega]
          exact ⟨rfl, rfl⟩
end Go.Proofs.YtacgnbelcpmjfaaGreatDoor.Dx
set_option linter.unusedVariables false
namespace Go.Proofs.YtacgnbelcpmjfaaGreatDoor.Dx
open Go
theorem length_of_subset : ∀ (l m : List Nat), l.Nodup → (∀ x ∈ l, x ∈ m) → l.length ≤ m.length := by
  intro l
  induction l with
  | nil => intro m _ _; simp
  | cons x t ih =>
    intro m hn hs
    rw [List.nodup_cons] at hn
    have hx := hs x (by simp)
    have := ih (m.erase x) hn.2 (by
      intro y hy
      have hne : y ≠ x := by rintro rfl; exact hn.1 hy
      exact (List.mem_erase_of_ne hne).2 (hs y (by simp [hy])))
    rw [List.length_erase_of_mem hx] at this
    have := List.length_pos_of_mem hx
    simp; omega
def startB (M i : Nat) : Bool := M.testBit i && (decide (i = 0) || !M.testBit (i - 1))
def starts (M n : Nat) : List Nat := (List.range n).filter (startB M)
theorem starts_succ (M n : Nat) : (starts M (n + 1)).length = (starts M n).length + if startB M n then 1 else 0 := by
  unfold starts
  rw [List.range_succ, List.filter_append]
  cases h : startB M n <;> simp [h]
theorem rgL_len (M : Nat) : ∀ n, n ≤ 256 → (rgL (bytesTo M n)).length = (starts M n).length ∧ (1 ≤ n → M.testBit (n - 1) = true → ∃ m a c, rgL (bytesTo M n) = m ++ [(a, c)] ∧ c.toNat + 1 = n) ∧ (∀ p ∈ rgL (bytesTo M n), p.2.toNat < n) ∧
    ((n = 0 ∨ M.testBit (n - 1) = false) → ∀ m a c, rgL (bytesTo M n) = m ++ [(a, c)] → c.toNat + 1 ≠ n) := by
  intro n
  induction n with
  | zero =>
    intro _
    refine ⟨rfl, fun h => by omega, fun p hp => by simp [bytesTo, rgL] at hp, fun _ m a c h => by simp [bytesTo, rgL] at h⟩
  | succ n ih =>
    intro hn
    obtain ⟨i1, i2, i3, i4⟩ := ih (by omega)
    rw [bytesTo_succ, starts_succ]
    by_cases h : M.testBit n = true
    · rw [if_pos h, rgL_snoc]
      have hb : (UInt8.ofNat n).toNat = n := by simp; omega
      generalize UInt8.ofNat n = b at hb ⊢
      by_cases hp : 1 ≤ n ∧ M.testBit (n - 1) = true
      · obtain ⟨m, a, c, hm, hc⟩ := i2 hp.1 hp.2
        rw [hm, pushR_snoc, if_pos (by omega)]
        have hs : startB M n = false := by simp [startB, h, hp.2]; omega
        rw [hm] at i1 i3
        refine ⟨?_, fun _ _ => ⟨m, a, b, rfl, by omega⟩, ?_, ?_⟩
        · rw [hs]; simpa using i1
        · intro p hpm
          rcases List.mem_append.1 hpm with h1 | h1
          · have := i3 p (by simp [h1]); omega
          · simp at h1; subst h1; simp only; omega
        · rintro (h1 | h1)
          · omega
          · simp [h] at h1
      · have hs : startB M n = true := by
          simp only [startB, h, Bool.true_and, Bool.or_eq_true, decide_eq_true_eq, Bool.not_eq_true']
          rcases Nat.eq_zero_or_pos n with h0 | h0
          · exact .inl h0
          · exact .inr (by simpa using fun e => hp ⟨h0, e⟩)
        have hpush : pushR (rgL (bytesTo M n)) b = rgL (bytesTo M n) ++ [(b, b)] := by
          rcases snoc_cases (rgL (bytesTo M n)) with hl | ⟨m, ⟨a, c⟩, hl⟩
          · rw [hl]; rfl
          · have := i4 (by
              rcases Nat.eq_zero_or_pos n with h0 | h0
              · exact .inl h0
              · exact .inr (by simpa using fun e => hp ⟨h0, e⟩)) m a c hl
            rw [hl, pushR_snoc, if_neg (by omega)]
        rw [hpush, hs]
        refine ⟨by simp [i1], fun _ _ => ⟨_, b, b, rfl, by omega⟩, ?_, ?_⟩
        · intro p hpm
          rcases List.mem_append.1 hpm with h1 | h1
          · have := i3 p h1; omega
          · simp at h1; subst h1; simp only; omega
        · rintro (h1 | h1)
          · omega
          · simp [h] at h1
    · rw [if_neg h]
      have hs : startB M n = false := by simp at h; simp [startB, h]
      rw [hs]
      refine ⟨by simpa using i1, ?_, fun p hp => by have := i3 p hp; omega, ?_⟩
      · intro _ h1; exact absurd h1 h
      · intro _ m a c hm
        have := i3 (a, c) (by rw [hm]; simp)
        simp only at this
        omega
theorem starts_le (M : Nat) (l : List (UInt8 × UInt8)) (h : (∀ i, i < 256 → M.testBit i = l.any (inR i)) ∨ (∀ i, i < 256 → M.testBit i = !l.any (inR i))) : (starts M 256).length ≤ l.length + 1 := by
  have hnd : (starts M 256).Nodup := List.Sublist.nodup List.filter_sublist List.nodup_range
  have hmem : ∀ i ∈ starts M 256, i < 256 ∧ M.testBit i = true ∧ (i = 0 ∨ M.testBit (i - 1) = false) := by
    intro i hi
    obtain ⟨h1, h2⟩ := List.mem_filter.1 hi
    simp only [startB, Bool.and_eq_true, Bool.or_eq_true, decide_eq_true_eq, Bool.not_eq_true'] at h2
    exact ⟨by simpa using h1, h2.1, h2.2⟩
  rcases h with h | h
  · have := length_of_subset _ (0 :: l.map (fun p => p.1.toNat)) hnd (by
      intro i hi
      obtain ⟨h1, h2, h3⟩ := hmem i hi
      rw [h i h1] at h2
      obtain ⟨p, hp, hpi⟩ := List.any_eq_true.1 h2
      rw [inR_iff] at hpi
      rcases h3 with h3 | h3
      · subst h3; simp
      · rcases Nat.eq_zero_or_pos i with h0 | h0
        · subst h0; simp
        rw [h (i - 1) (by omega), List.any_eq_false] at h3
        have := h3 p hp
        rw [inR_iff] at this
        refine List.mem_cons_of_mem _ (List.mem_map.2 ⟨p, hp, ?_⟩)
        omega)
    simpa using this
  · have := length_of_subset _ (0 :: l.map (fun p => p.2.toNat + 1)) hnd (by
      intro i hi
      obtain ⟨h1, h2, h3⟩ := hmem i hi
      rw [h i h1, Bool.not_eq_true', List.any_eq_false] at h2
      rcases h3 with h3 | h3
      · subst h3; simp
      · rcases Nat.eq_zero_or_pos i with h0 | h0
        · subst h0; simp
        rw [h (i - 1) (by omega), Bool.not_eq_false'] at h3
        obtain ⟨p, hp, hpi⟩ := List.any_eq_true.1 h3
        have := h2 p hp
        rw [inR_iff] at this hpi
        refine List.mem_cons_of_mem _ (List.mem_map.2 ⟨p, hp, ?_⟩)
        omega)
    simpa using this
theorem oneF_len (c : UInt8) : (oneF c).length ≤ 4 := by
  rcases oneF_cases c with ⟨d, h, _⟩ | ⟨h, _⟩ | h <;> rw [h] <;> simp
theorem itemT_len (p : UInt8 × UInt8) : (itemT p).length ≤ 9 := by
  have h1 := oneF_len p.1
  have h2 := oneF_len p.2
  unfold itemT
  split <;> split <;> simp <;> omega
theorem items_len (l : List (UInt8 × UInt8)) : (l.flatMap itemT).length ≤ 9 * l.length := by
  induction l with
  | nil => simp
  | cons p t ih => have := itemT_len p; rw [List.flatMap_cons, List.length_append, List.length_cons]; omega
theorem itemsT_len (M : Nat) (l : List (UInt8 × UInt8)) (h : (∀ i, i < 256 → M.testBit i = l.any (inR i)) ∨ (∀ i, i < 256 → M.testBit i = !l.any (inR i))) : (itemsT M).length ≤ 9 * (l.length + 1) := by
  have h1 := items_len (rgL (bytesOf M))
  have h2 := (rgL_len M 256 (Nat.le_refl _)).1
  have h3 := starts_le M l h
  unfold itemsT
  rw [show (rgL (bytesOf M)).length = (rgL (bytesTo M 256)).length from rfl, h2] at h1
  omega
theorem setText_len (M : Nat) (l : List (UInt8 × UInt8)) (h : (∀ i, i < 256 → M.testBit i = l.any (inR i)) ∨ (∀ i, i < 256 → M.testBit i = !l.any (inR i))) : (setText M).length ≤ 9 * (l.length + 1) + 3 := by
  have h1 := itemsT_len M l h
  have h2 := itemsT_len (notM M) l (by
    rcases h with h | h
    · exact .inr fun i hi => by rw [notM_bit, h i hi]; simp [hi]
    · exact .inl fun i hi => by rw [notM_bit, h i hi]; simp [hi])
  unfold setText
  split <;> simp <;> omega
theorem itemsF_len (l : List UInt8) (r : List (UInt8 × UInt8)) (h : itemsF l = some r) : r.length + 1 ≤ l.length := by
  obtain ⟨k, hk⟩ : ∃ k, l.length = k := ⟨_, rfl⟩
  induction k using Nat.strongRecOn generalizing l r with
  | _ k ih =>
    by_cases h93 : l = [93]
    · subst h93; rw [itemsF_end] at h; injection h with h; subst h; simp
    cases ht : takeF l with
    | none => rw [itemsF_bad l h93 ht] at h; cases h
    | some p =>
      obtain ⟨a, n⟩ := p
      have hp := takeF_pos l a n ht
      by_cases hh : (l.drop n).head? = some 45
      · rw [itemsF_two l h93 a n ht hh] at h
        cases ht2 : takeF (l.drop (n + 1)) with
        | none => rw [ht2] at h; cases h
        | some q =>
          obtain ⟨b, m⟩ := q
          rw [ht2] at h
          have hp2 := takeF_pos _ b m ht2
          rw [List.length_drop] at hp2
          simp only [Option.map_eq_some_iff] at h
          obtain ⟨r', hr, rfl⟩ := h
          have := ih _ (by rw [List.length_drop]; omega) _ _ hr rfl
          rw [List.length_drop] at this
          simp; omega
      · rw [itemsF_one l h93 a n ht hh] at h
        simp only [Option.map_eq_some_iff] at h
        obtain ⟨r', hr, rfl⟩ := h
        have := ih _ (by rw [List.length_drop]; omega) _ _ hr rfl
        rw [List.length_drop] at this
        simp; omega
theorem readF_facts (l : List UInt8) (M : Nat) (h : readF l = some M) : M < 2 ^ 256 ∧ (setText M).length ≤ 9 * l.length := by
  unfold readF at h
  split at h
  · rename_i t
    split at h
    · rename_i hh
      rw [Option.map_eq_some_iff] at h
      obtain ⟨N, hN, rfl⟩ := h
      rw [Option.bind_eq_some_iff] at hN
      obtain ⟨r, hr, hN⟩ := hN
      have hlt := makeF_lt _ _ hN
      have hl := itemsF_len _ _ hr
      obtain ⟨N', h1, h2⟩ := makeF_bit r 0 (makeF_some_le r 0 N hN)
      rw [hN] at h1; injection h1 with h1; subst h1
      refine ⟨notM_lt _ hlt, ?_⟩
      have := setText_len (notM N) r (.inr fun i hi => by rw [notM_bit, h2]; simp [hi])
      rw [List.length_drop] at hl
      simp; omega
    · rw [Option.bind_eq_some_iff] at h
      obtain ⟨r, hr, hN⟩ := h
      have hlt := makeF_lt _ _ hN
      have hl := itemsF_len _ _ hr
      obtain ⟨N', h1, h2⟩ := makeF_bit r 0 (makeF_some_le r 0 M hN)
      rw [hN] at h1; injection h1 with h1; subst h1
      refine ⟨hlt, ?_⟩
      have := setText_len M r (.inl fun i hi => by rw [h2]; simp)
      simp; omega
  · cases h
theorem txt_len (l o : List UInt8) (n : Nat) (h : txt l = some (o, n)) : o.length + 1 ≤ n := by
  obtain ⟨k, hk⟩ : ∃ k, l.length = k := ⟨_, rfl⟩
  induction k using Nat.strongRecOn generalizing l o n with
  | _ k ih =>
    cases l with
    | nil => cases h
    | cons c t =>
      by_cases h34 : c = 34
      · subst h34
        rw [txt_quote] at h
        injection h with h; injection h with h1 h2; subst h1; subst h2; simp
      · by_cases hb : c.toNat < 32 ∨ 126 < c.toNat
        · rw [txt_bad c t hb] at h; cases h
        · by_cases h92 : c = 92
          · subst h92
            rw [txt_esc] at h
            cases he : escF t with
            | none => rw [he] at h; cases h
            | some p =>
              obtain ⟨b, m⟩ := p
              rw [he] at h
              simp only [Option.map_eq_some_iff] at h
              obtain ⟨⟨q1, q2⟩, hq, he2⟩ := h
              have := ih (t.drop m).length (by rw [List.length_drop]; simp at hk; omega) _ _ _ hq rfl
              injection he2 with e1 e2
              subst e1
              simp only at e2 this ⊢
              simp; omega
          · rw [txt_plain c t h34 hb h92] at h
            simp only [Option.map_eq_some_iff] at h
            obtain ⟨⟨q1, q2⟩, hq, he2⟩ := h
            have := ih t.length (by simp at hk; omega) _ _ _ hq rfl
            injection he2 with e1 e2
            subst e1
            simp only at e2 this ⊢
            simp; omega
theorem quoteB_len (c : UInt8) : (quoteB c).length ≤ 4 := by
  unfold quoteB
  repeat' split
  all_goals simp
theorem quotes_len (s : List UInt8) : (s.flatMap quoteB).length ≤ 4 * s.length := by
  induction s with
  | nil => simp
  | cons c t ih => have := quoteB_len c; rw [List.flatMap_cons, List.length_append, List.length_cons]; omega
theorem decF_snoc (l : List UInt8) (c : UInt8) : decF (l ++ [c]) = 10 * decF l + (c.toNat - 48) := by simp [decF]
theorem decF_lt (l : List UInt8) (h : l.all digB = true) : decF l < 10 ^ l.length := by
  obtain ⟨k, hk⟩ : ∃ k, l.length = k := ⟨_, rfl⟩
  induction k generalizing l with
  | zero => have : l = [] := List.eq_nil_of_length_eq_zero hk; subst this; decide
  | succ k ih =>
    rcases snoc_cases l with rfl | ⟨m, c, rfl⟩
    · simp at hk
    · rw [List.all_append, Bool.and_eq_true] at h
      have := ih m h.1 (by simp at hk; omega)
      have hc : digB c = true := by simpa using h.2
      have := digitB_true.1 hc
      rw [decF_snoc, List.length_append]
      simp only [List.length_cons, List.length_nil, Nat.pow_succ, Nat.zero_add]
      omega
theorem takeWhile_all (l : List UInt8) : (l.takeWhile wordB).all wordB = true := by
  induction l with
  | nil => rfl
  | cons c t ih =>
    rw [List.takeWhile_cons]
    split
    · rename_i h; rw [List.all_cons, h, ih]; rfl
    · rfl
/-- What is read may be, and is told by not much more than it was told by. -/
theorem wordF_may (l : List UInt8) (w : Wd) (n : Nat) (h : wordF l = some (w, n)) : mayW w ∧ (toldF w).length ≤ 9 * n := by
  have hpos := wordF_pos l w n h
  cases l with
  | nil => cases h
  | cons c t =>
    have hcl := classI_cases (c.toNat : Int) _ (sign_index c) sign_range
    rw [wordF] at h
    split at h
    · rename_i h1
      split at h
      · rename_i hlen
        injection h with h; injection h with h2 h3
        subst h2
        have hlet : letterB (c.toNat : Int) = true := by rw [letterB_true]; omega
        have hwc : wordB c = true := by simp [wordB, hlet]
        have ha := takeWhile_all (c :: t)
        rw [List.takeWhile_cons, if_pos hwc] at ha hlen h3 ⊢
        refine ⟨⟨?_, Nat.two_pow_pos 256⟩, ?_⟩
        · simp only [mayF, nameB, hlet, ha]
          simp at hlen; simp; omega
        · show (c :: t.takeWhile wordB).length ≤ _
          omega
      · cases h
    split at h
    · simp only [Option.map_eq_some_iff] at h
      obtain ⟨m, hm, he⟩ := h
      injection he with h2 h3
      subst h2
      unfold numF at hm
      split at hm
      · rename_i hc
        injection hm with hm
        have hlt := decF_lt _ hc.1
        have h10 : 10 ^ ((c :: t).takeWhile wordB).length ≤ 10 ^ 9 := Nat.pow_le_pow_right (by decide) hc.2.1
        have e9 : (10 : Nat) ^ 9 = 1000000000 := by decide
        have hm9 : m ≤ 999999999 := by omega
        refine ⟨⟨?_, Nat.two_pow_pos 256⟩, ?_⟩
        · simp [mayF]; omega
        · show (Lib.itoa (m : Int)).length ≤ _
          rw [itoa_nat]
          have := dec_len m hm9
          omega
      · cases hm
    split at h
    · simp only [Option.map_eq_some_iff] at h
      obtain ⟨⟨o, m⟩, hm, he⟩ := h
      injection he with h2 h3
      subst h2
      refine ⟨⟨rfl, Nat.two_pow_pos 256⟩, ?_⟩
      have h4 := txt_len _ _ _ hm
      have h5 := quotes_len o
      show (34 :: (o.flatMap quoteB ++ [34])).length ≤ _
      rw [List.length_cons, List.length_append, List.length_singleton]
      simp only at h3
      omega
    split at h
    · simp only [Option.map_eq_some_iff] at h
      obtain ⟨⟨M, m⟩, hm, he⟩ := h
      injection he with h2 h3
      subst h2
      unfold setF at hm
      rw [Option.bind_eq_some_iff] at hm
      obtain ⟨k, hk, hm⟩ := hm
      have := scanB_lt _ _ hk
      simp only [Option.map_eq_some_iff] at hm
      obtain ⟨M', hr, hm⟩ := hm
      injection hm with h4 h5
      subst h4
      obtain ⟨r1, r2⟩ := readF_facts _ _ hr
      refine ⟨⟨rfl, r1⟩, ?_⟩
      show (setText M').length ≤ _
      rw [List.length_take] at r2
      simp only at h3
      omega
    split at h
    · rename_i h5
      injection h with h; injection h with h2 h3
      subst h2
      refine ⟨⟨?_, Nat.two_pow_pos 256⟩, ?_⟩
      · have : signB (c.toNat : Int) = true := by
          rcases hcl with hh | hh | hh | hh | hh | hh
          · omega
          · omega
          · omega
          · omega
          · exact (sign_index c).1 hh.2.1
          · omega
        simp [mayF, this]
      · show [c].length ≤ _
        simp; omega
    · cases h
theorem tellL_len (w : Wd) (t : List Wd) : (tellL (w :: t)).length ≤ (toldF w).length + 1 + (tellL t).length := by
  cases t with
  | nil => rw [tellL_one]; omega
  | cons v t => rw [tellL_cons w _ (by simp)]; simp; omega
theorem lexG_may : ∀ (f p : Nat) (l : List UInt8), AllW ((lexG f p l).1.map (·.2)) ∧ (tellL ((lexG f p l).1.map (·.2))).length ≤ 10 * l.length ∧ (lexG f p l).1.length ≤ l.length := by
  intro f
  induction f with
  | zero => intro p l; exact ⟨fun w h => by simp [lexG] at h, by simp [lexG, tellL], by simp [lexG]⟩
  | succ f ih =>
    intro p l
    rw [lexG]
    have hs := skM_le false l
    cases hd : l.drop (skM false l) with
    | nil => exact ⟨fun w h => by simp at h, by simp [tellL], by simp⟩
    | cons c t =>
      have hl : (c :: t).length = l.length - skM false l := by rw [← hd, List.length_drop]
      simp only
      cases hw : wordF (c :: t) with
      | none => exact ⟨fun w h => by simp at h, by simp [tellL], by simp⟩
      | some q =>
        obtain ⟨w, n⟩ := q
        obtain ⟨h1, h2⟩ := wordF_may _ _ _ hw
        have hp := wordF_pos _ _ _ hw
        obtain ⟨i1, i2, i3⟩ := ih (p + skM false l + n) ((c :: t).drop n)
        simp only [List.map_cons]
        rw [List.length_drop] at i2 i3
        refine ⟨?_, ?_, by rw [List.length_cons]; omega⟩
        · intro v hv
          rcases List.mem_cons.1 hv with rfl | hv
          · exact h1
          · exact i1 v hv
        · have := tellL_len w ((lexG f (p + skM false l + n) ((c :: t).drop n)).1.map (·.2))
          omega
theorem lexF_may (p : Nat) (l : List UInt8) : AllW ((lexF p l).1.map (·.2)) ∧ (tellL ((lexF p l).1.map (·.2))).length ≤ 10 * l.length ∧ (lexF p l).1.length ≤ l.length := lexG_may _ _ _
/-- A text's words, told, are read again. -/
theorem lexF_back (l : List Wd) (h : AllW l) : (lexF 0 (tellL l)).2 = none ∧ (lexF 0 (tellL l)).1.map (·.2) = l := by
  have := lexF_tell l h 0 [] (by intro l; simp)
  simpa using this
/-- Words with gaps ahead. -/
def gapText : List (List UInt8 × Wd) → List UInt8
  | [] => []
  | (g, w) :: t => g ++ (toldF w ++ gapText t)
def gapPlaces : Nat → List (List UInt8 × Wd) → List (Nat × Wd)
  | _, [] => []
  | p, (g, w) :: t => (p + g.length, w) :: gapPlaces (p + g.length + (toldF w).length) t
def gapG (g : List UInt8) : Prop := (∀ l, skM false (g ++ l) = g.length + skM false l) ∧ (∃ c u, g = c :: u ∧ wordB c = false)
theorem sep_gap (g : List UInt8) (h : gapG g) (t : List UInt8) : sepB (g ++ t) := by
  obtain ⟨c, u, rfl, hc⟩ := h.2
  intro d hd
  injection hd with hd
  subst hd
  exact hc
theorem lexF_gaps (l : List (List UInt8 × Wd)) (tail : List UInt8) (ht : sepB tail) : ∀ (p : Nat), (∀ q ∈ l, gapG q.1 ∧ mayW q.2) →
    lexF p (gapText l ++ tail) = (gapPlaces p l ++ (lexF (p + (gapText l).length) tail).1, (lexF (p + (gapText l).length) tail).2) := by
  induction l with
  | nil => intro p _; simp [gapText, gapPlaces]
  | cons q t ih =>
    intro p h
    obtain ⟨g, w⟩ := q
    obtain ⟨hg, hw⟩ := h (g, w) (by simp)
    have hsep : sepB (gapText t ++ tail) := by
      cases t with
      | nil => exact ht
      | cons q t =>
        obtain ⟨g', w'⟩ := q
        have := (h (g', w') (by simp)).1
        simp only [gapText, List.append_assoc]
        exact sep_gap g' this _
    simp only [gapText, List.append_assoc]
    rw [lexF_told p g w hw.1 hw.2 _ hsep hg.1, ih _ (fun q hq => h q (by simp [hq])), gapPlaces]
    simp only [List.length_append, List.cons_append]
    rw [show p + g.length + (toldF w).length + (gapText t).length = p + (g.length + ((toldF w).length + (gapText t).length)) by omega]
end Go.Proofs.YtacgnbelcpmjfaaGreatDoor.Dx
