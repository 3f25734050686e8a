/-
  PLAIN LAWS: where a set's text ends.
  PLAIN LAWS: the words of a text.
-/
import Derived.Test.YtmkidbenndhhjaaDoorReadWalk
import Derived.Test.YtmkidbenndhhjaaDoorText
set_option linter.unusedVariables false
namespace Go.Proofs.YtmkidbenndhhjaaDoor.Dx
open Go

/-- How far ahead the closing bracket stands. -/
def scanB : List UInt8 → Option Nat
  | [] => none
  | [c] => if c = 93 then some 0 else none
  | c :: d :: t => if c = 92 then (scanB t).map (· + 2) else if c = 93 then some 0 else (scanB (d :: t)).map (· + 1)
/-- A set that begins here: which, and how many bytes tell it. -/
def setF (l : List UInt8) : Option (Nat × Nat) := (scanB l).bind fun n => (readF (l.take (n + 1))).map fun M => (M, n + 1)
theorem scanB_nil : scanB [] = none := rfl
theorem scanB_end (t : List UInt8) : scanB (93 :: t) = some 0 := by cases t <;> simp [scanB]
theorem scanB_esc (t : List UInt8) : scanB (92 :: t) = (scanB (t.drop 1)).map (· + 2) := by
  cases t with
  | nil => rfl
  | cons d t => simp [scanB]
theorem scanB_other (c : UInt8) (t : List UInt8) (h1 : c ≠ 92) (h2 : c ≠ 93) : scanB (c :: t) = (scanB t).map (· + 1) := by
  cases t with
  | nil => simp [scanB, h2]
  | cons d t => rw [scanB, if_neg h1, if_neg h2]
end Go.Proofs.YtmkidbenndhhjaaDoor.Dx
set_option linter.unusedVariables false
namespace Go.Proofs.YtmkidbenndhhjaaDoor.Dx
open Go
/-- A word: its kind, text, set, number. -/
structure Wd where
  kind : Int
  text : List UInt8
  set : Nat
  num : Int
theorem Wd.ext_ {a b : Wd} (h1 : a.kind = b.kind) (h2 : a.text = b.text) (h3 : a.set = b.set) (h4 : a.num = b.num) : a = b := by
  cases a; cases b; cases h1; cases h2; cases h3; cases h4; rfl
def decF (r : List UInt8) : Nat := r.foldl (fun a c => 10 * a + (c.toNat - 48)) 0
def digB (c : UInt8) : Bool := digitB (c.toNat : Int)
/-- A number's digits, if it is one. -/
def numF (r : List UInt8) : Option Nat :=
  if r.all digB = true ∧ r.length ≤ 9 ∧ (r = [48] ∨ r.head? ≠ some 48) then some (decF r) else none
def wordF : List UInt8 → Option (Wd × Nat)
  | [] => none
  | c :: t =>
    if classI (c.toNat : Int) = 1 then
      (if ((c :: t).takeWhile wordB).length ≤ 64 then some (⟨1, (c :: t).takeWhile wordB, 0, 0⟩, ((c :: t).takeWhile wordB).length) else none)
    else if classI (c.toNat : Int) = 2 then (numF ((c :: t).takeWhile wordB)).map fun (n : Nat) => (⟨4, [], 0, (n : Int)⟩, ((c :: t).takeWhile wordB).length)
    else if classI (c.toNat : Int) = 3 then (txt t).map fun p => (⟨2, p.1, 0, 0⟩, p.2 + 1)
    else if classI (c.toNat : Int) = 4 then (setF (c :: t)).map fun p => (⟨3, [], p.1, 0⟩, p.2)
    else if classI (c.toNat : Int) = 5 then some (⟨5, [c], 0, 0⟩, 1)
    else none
/-- All words up to the first that can't be read; its place. -/
def lexG : Nat → Nat → List UInt8 → List (Nat × Wd) × Option Nat
  | 0, _, _ => ([], none)
  | f + 1, p, l =>
    match l.drop (skM false l) with
    | [] => ([], none)
    | c :: t =>
      match wordF (c :: t) with
      | none => ([], some (p + skM false l))
      | some (w, n) =>
        (((p + skM false l, w) :: (lexG f (p + skM false l + n) ((c :: t).drop n)).1), (lexG f (p + skM false l + n) ((c :: t).drop n)).2)
def lexF (p : Nat) (l : List UInt8) : List (Nat × Wd) × Option Nat := lexG (l.length + 1) p l

theorem skM_le (b : Bool) (l : List UInt8) : skM b l ≤ l.length := by
  induction l generalizing b with
  | nil => cases b <;> exact Nat.le_refl _
  | cons c t ih =>
    have h1 := ih true
    have h2 := ih false
    cases b <;> simp only [skM, List.length_cons] <;> repeat' split
    all_goals omega
theorem txt_pos (l : List UInt8) (o : List UInt8) (n : Nat) (h : txt l = some (o, n)) : 1 ≤ n ∧ n ≤ l.length := by
  obtain ⟨k, hk⟩ : ∃ k, l.length = k := ⟨_, rfl⟩
  induction k using Nat.strongRecOn generalizing l o n with
  | _ k ih =>
    cases l with
    | nil => cases h
    | cons c t =>
      by_cases h34 : c = 34
      · subst h34
        rw [txt_quote] at h
        simp at h
        simp; omega
      · by_cases hb : c.toNat < 32 ∨ 126 < c.toNat
        · rw [txt_bad c t hb] at h; cases h
        · by_cases h92 : c = 92
          · subst h92
            rw [txt_esc] at h
            cases he : escF t with
            | none => rw [he] at h; cases h
            | some p =>
              obtain ⟨b, m⟩ := p
              rw [he] at h
              simp only [Option.map_eq_some_iff] at h
              obtain ⟨q, hq, he2⟩ := h
              obtain ⟨q1, q2⟩ := q
              have := ih (t.drop m).length (by rw [List.length_drop]; simp at hk; omega) _ _ _ hq rfl
              rw [List.length_drop] at this
              injection he2 with e1 e2
              simp at e2
              simp; omega
          · rw [txt_plain c t h34 hb h92] at h
            simp only [Option.map_eq_some_iff] at h
            obtain ⟨q, hq, he2⟩ := h
            obtain ⟨q1, q2⟩ := q
            have := ih t.length (by simp at hk; omega) _ _ _ hq rfl
            injection he2 with e1 e2
            simp at e2
            simp; omega
theorem scanB_lt (l : List UInt8) (n : Nat) (h : scanB l = some n) : n < l.length := by
  obtain ⟨k, hk⟩ : ∃ k, l.length = k := ⟨_, rfl⟩
  induction k using Nat.strongRecOn generalizing l n with
  | _ k ih =>
    cases l with
    | nil => cases h
    | cons c t =>
      by_cases h92 : c = 92
      · subst h92
        rw [scanB_esc] at h
        simp only [Option.map_eq_some_iff] at h
        obtain ⟨m, hm, rfl⟩ := h
        have := ih (t.drop 1).length (by rw [List.length_drop]; simp at hk; omega) _ _ hm rfl
        rw [List.length_drop] at this
        simp; omega
      · by_cases h93 : c = 93
        · subst h93
          rw [scanB_end] at h
          simp at h
          simp; omega
        · rw [scanB_other c t h92 h93] at h
          simp only [Option.map_eq_some_iff] at h
          obtain ⟨m, hm, rfl⟩ := h
          have := ih t.length (by simp at hk; omega) _ _ hm rfl
          simp; omega
theorem tw_pos (c : UInt8) (t : List UInt8) (h : wordB c = true) : 1 ≤ ((c :: t).takeWhile wordB).length := by
  rw [List.takeWhile_cons, if_pos h]; simp
theorem tw_len (l : List UInt8) : (l.takeWhile wordB).length ≤ l.length := (List.takeWhile_prefix wordB).length_le
theorem word_cls (b : UInt8) : wordB b = true ↔ (classI (b.toNat : Int) = 1 ∨ classI (b.toNat : Int) = 2) := by
  have := classI_cases (b.toNat : Int) _ (sign_index b) sign_range
  rw [wordB, Bool.or_eq_true, letterB_true, digitB_true]
  omega
theorem wordF_pos (l : List UInt8) (w : Wd) (n : Nat) (h : wordF l = some (w, n)) : 1 ≤ n ∧ n ≤ l.length := by
  cases l with
  | nil => cases h
  | cons c t =>
    rw [wordF] at h
    split at h
    · rename_i h1
      split at h
      · injection h with h; injection h with h2 h3
        have := tw_pos c t ((word_cls c).2 (.inl h1)); have := tw_len (c :: t); omega
      · cases h
    split at h
    · rename_i h1
      simp only [Option.map_eq_some_iff] at h
      obtain ⟨m, hm, he⟩ := h
      injection he with h2 h3
      have := tw_pos c t ((word_cls c).2 (.inr h1)); have := tw_len (c :: t); omega
    split at h
    · simp only [Option.map_eq_some_iff] at h
      obtain ⟨⟨o, m⟩, hm, he⟩ := h
      injection he with h2 h3
      have := txt_pos _ _ _ hm
      simp at h3 ⊢; omega
    split at h
    · simp only [Option.map_eq_some_iff] at h
      obtain ⟨⟨o, m⟩, hm, he⟩ := h
      injection he with h2 h3
      unfold setF at hm
      rw [Option.bind_eq_some_iff] at hm
      obtain ⟨k, hk, hm⟩ := hm
      have := scanB_lt _ _ hk
      simp only [Option.map_eq_some_iff] at hm
      obtain ⟨M, _, hm⟩ := hm
      injection hm with h4 h5
      simp at h3
      omega
    split at h
    · injection h with h; injection h with h2 h3
      simp; omega
    · cases h
theorem lexG_more : ∀ (f p : Nat) (l : List UInt8), l.length < f → lexG f p l = lexG (f + 1) p l := by
  intro f
  induction f with
  | zero => intro p l h; omega
  | succ f ih =>
    intro p l h
    rw [lexG, lexG]
    have hs := skM_le false l
    cases hd : l.drop (skM false l) with
    | nil => rfl
    | cons c t =>
      have hl : (c :: t).length = l.length - skM false l := by rw [← hd, List.length_drop]
      simp only
      cases hw : wordF (c :: t) with
      | none => rfl
      | some q =>
        obtain ⟨w, n⟩ := q
        have := wordF_pos _ _ _ hw
        simp only
        rw [ih _ _ (by rw [List.length_drop]; omega)]
theorem lexG_any (f p : Nat) (l : List UInt8) (h : l.length < f) : lexG f p l = lexF p l := by
  obtain ⟨d, rfl⟩ : ∃ d, f = l.length + 1 + d := ⟨f - (l.length + 1), by omega⟩
  induction d with
  | zero => rfl
  | succ d ih =>
    have := lexG_more (l.length + 1 + d) p l (by omega)
    rw [show l.length + 1 + (d + 1) = l.length + 1 + d + 1 by omega, ← this]
    exact ih (by omega)
theorem lexF_end (p : Nat) (l : List UInt8) (h : l.drop (skM false l) = []) : lexF p l = ([], none) := by
  rw [lexF, lexG, h]
theorem lexF_bad (p : Nat) (l l' : List UInt8) (h : l.drop (skM false l) = l') (hn : l' ≠ []) (hw : wordF l' = none) : lexF p l = ([], some (p + skM false l)) := by
  cases l' with
  | nil => exact absurd rfl hn
  | cons c t => rw [lexF, lexG, h]; simp only; rw [hw]
theorem lexF_word (p : Nat) (l l' : List UInt8) (w : Wd) (n : Nat) (h : l.drop (skM false l) = l') (hw : wordF l' = some (w, n)) :
    lexF p l = (((p + skM false l, w) :: (lexF (p + skM false l + n) (l'.drop n)).1), (lexF (p + skM false l + n) (l'.drop n)).2) := by
  cases l' with
  | nil => cases hw
  | cons c t =>
    have hp := wordF_pos _ _ _ hw
    have hs := skM_le false l
    have hl : (c :: t).length = l.length - skM false l := by rw [← h, List.length_drop]
    rw [lexF, lexG, h]; simp only; rw [hw]; simp only
    rw [lexG_any _ _ _ (by rw [List.length_drop]; omega)]
/-- The place ahead only moves the places. -/
def shift (d : Nat) (r : List (Nat × Wd) × Option Nat) : List (Nat × Wd) × Option Nat := (r.1.map (fun p => (p.1 + d, p.2)), r.2.map (· + d))
theorem lexG_shift : ∀ (f d p : Nat) (l : List UInt8), lexG f (p + d) l = shift d (lexG f p l) := by
  intro f
  induction f with
  | zero => intro d p l; rfl
  | succ f ih =>
    intro d p l
    rw [lexG, lexG]
    cases hd : l.drop (skM false l) with
    | nil => rfl
    | cons c t =>
      simp only
      cases hw : wordF (c :: t) with
      | none => simp [shift]; omega
      | some q =>
        obtain ⟨w, n⟩ := q
        simp only
        rw [show p + d + skM false l + n = p + skM false l + n + d by omega, ih]
        simp [shift]
        omega
theorem lexF_shift (d p : Nat) (l : List UInt8) : lexF (p + d) l = shift d (lexF p l) := lexG_shift _ _ _ _
end Go.Proofs.YtmkidbenndhhjaaDoor.Dx
