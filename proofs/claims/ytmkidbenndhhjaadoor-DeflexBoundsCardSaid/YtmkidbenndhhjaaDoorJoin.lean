/-
  PLAIN LAWS: two texts, a line end between.
-/
import Derived.Test.YtmkidbenndhhjaaDoorTold
set_option linter.unusedVariables false
namespace Go.Proofs.YtmkidbenndhhjaaDoor.Dx
open Go
theorem takeWhile_nl (s t : List UInt8) : (s ++ 10 :: t).takeWhile wordB = s.takeWhile wordB := by
  induction s with
  | nil => rfl
  | cons c s ih =>
    rw [List.cons_append, List.takeWhile_cons, List.takeWhile_cons, ih]
theorem escF_nl (s t : List UInt8) : escF (s ++ 10 :: t) = escF s := by
  match s with
  | [] => rfl
  | [c] =>
    show escF (c :: 10 :: t) = escF [c]
    rw [escF, escF]
    split
    · rfl
    · split
      · cases t with
        | nil => rfl
        | cons d t => rw [escH, if_neg]; · rfl
                      rintro ⟨h, _⟩; revert h; decide
      · rfl
  | [c, d] =>
    show escF (c :: d :: 10 :: t) = escF [c, d]
    rw [escF, escF]
    split
    · rfl
    · split
      · rw [escH, if_neg]; · rfl
        rintro ⟨_, h⟩; revert h; decide
      · rfl
  | c :: d :: e :: u =>
    show escF (c :: d :: e :: (u ++ 10 :: t)) = escF (c :: d :: e :: u)
    rw [escF, escF]; rfl
theorem escF_len (l : List UInt8) (b : UInt8) (n : Nat) (h : escF l = some (b, n)) : n ≤ l.length := by
  match l, h with
  | c :: t, h =>
    rw [escF] at h
    split at h
    · injection h with h; injection h with _ h; simp; omega
    · split at h
      · match t, h with
        | a :: d :: u, h =>
          rw [escH] at h
          split at h
          · injection h with h; injection h with _ h; simp; omega
          · cases h
      · cases h
theorem txt_nl (s t : List UInt8) : txt (s ++ 10 :: t) = txt s := by
  obtain ⟨k, hk⟩ : ∃ k, s.length = k := ⟨_, rfl⟩
  induction k using Nat.strongRecOn generalizing s with
  | _ k ih =>
    cases s with
    | nil => exact txt_bad 10 t (.inl (by decide))
    | cons c s =>
      rw [List.cons_append]
      have hs : s.length < k := by simp at hk; omega
      by_cases h34 : c = 34
      · subst h34; rw [txt_quote, txt_quote]
      by_cases hb : c.toNat < 32 ∨ 126 < c.toNat
      · rw [txt_bad c _ hb, txt_bad c _ hb]
      by_cases h92 : c = 92
      · subst h92
        rw [txt_esc, txt_esc, escF_nl]
        cases he : escF s with
        | none => rfl
        | some p =>
          obtain ⟨b, n⟩ := p
          have hn := escF_len _ _ _ he
          simp only
          rw [List.drop_append_of_le_length hn, ih (s.drop n).length (by rw [List.length_drop]; omega) _ rfl]
      · rw [txt_plain c _ h34 hb h92, txt_plain c _ h34 hb h92, ih s.length hs s rfl]
theorem takeF_no10 (l : List UInt8) (b : UInt8) (n : Nat) (h : takeF l = some (b, n)) : 10 ∉ l.take n := by
  match l, h with
  | c :: t, h =>
    rw [takeF] at h
    split at h
    · rename_i hc; subst hc
      match t, h with
      | d :: u, h =>
        rw [takeB] at h
        split at h
        · rename_i hd
          injection h with h; injection h with _ h; subst h
          rcases marks_some d hd with rfl | rfl | rfl | rfl | rfl | rfl | rfl | rfl <;> simp
        · split at h
          · rename_i hd; subst hd
            match u, h with
            | a :: e :: v, h =>
              rw [takeH] at h
              split at h
              · rename_i hh
                injection h with h; injection h with _ h; subst h
                have h1 : a ≠ 10 := by rintro rfl; have := hh.1; revert this; decide
                have h2 : e ≠ 10 := by rintro rfl; have := hh.2; revert this; decide
                simp [Ne.symm h1, Ne.symm h2]
              · cases h
          · cases h
    · split at h
      · rename_i hc
        injection h with h; injection h with _ h; subst h
        have : c ≠ 10 := by rintro rfl; have := hc.1; revert this; decide
        simp [Ne.symm this]
      · cases h
theorem mem_drop_of {l : List UInt8} {n : Nat} (h : (10 : UInt8) ∈ l) (hn : 10 ∉ l.take n) : 10 ∈ l.drop n := by
  rw [← List.take_append_drop n l, List.mem_append] at h
  rcases h with h | h
  · exact absurd h hn
  · exact h
theorem itemsF_no10 (l : List UInt8) (h : 10 ∈ l) : itemsF l = none := by
  obtain ⟨k, hk⟩ : ∃ k, l.length = k := ⟨_, rfl⟩
  induction k using Nat.strongRecOn generalizing l with
  | _ k ih =>
    have h93 : l ≠ [93] := by rintro rfl; revert h; decide
    cases ht : takeF l with
    | none => exact itemsF_bad l h93 ht
    | some p =>
      obtain ⟨a, n⟩ := p
      have hp := takeF_pos l a n ht
      have hd := mem_drop_of h (takeF_no10 _ _ _ ht)
      by_cases hh : (l.drop n).head? = some 45
      · rw [itemsF_two l h93 a n ht hh]
        cases ht2 : takeF (l.drop (n + 1)) with
        | none => rfl
        | some q =>
          obtain ⟨b, m⟩ := q
          have hp2 := takeF_pos _ b m ht2
          rw [List.length_drop] at hp2
          simp only
          have h1 : 10 ∈ l.drop (n + 1) := by
            rw [← List.drop_drop]
            refine mem_drop_of hd ?_
            cases hq : l.drop n with
            | nil => rw [hq] at hh; cases hh
            | cons c u => rw [hq] at hh; injection hh with hh; subst hh; simp
          have h2 : 10 ∈ l.drop (n + 1 + m) := by
            rw [← List.drop_drop]
            exact mem_drop_of h1 (takeF_no10 _ _ _ ht2)
          rw [ih (l.drop (n + 1 + m)).length (by rw [List.length_drop]; omega) _ h2 rfl]
          rfl
      · rw [itemsF_one l h93 a n ht hh, ih (l.drop n).length (by rw [List.length_drop]; omega) _ hd rfl]
        rfl
theorem readF_no10 (l : List UInt8) (h : 10 ∈ l) : readF l = none := by
  unfold readF
  split
  · rename_i t
    have ht : 10 ∈ t := by simpa using h
    split
    · rename_i hh
      have : 10 ∈ t.drop 1 := by
        cases t with
        | nil => cases ht
        | cons c u =>
          injection hh with hh; subst hh
          simpa using ht
      rw [itemsF_no10 _ this]; rfl
    · rw [itemsF_no10 _ ht]; rfl
  · rfl
theorem scanB_nl (s t : List UInt8) : (∃ n, scanB s = some n ∧ scanB (s ++ 10 :: t) = some n) ∨ (scanB s = none ∧ ∀ n, scanB (s ++ 10 :: t) = some n → s.length ≤ n) := by
  obtain ⟨k, hk⟩ : ∃ k, s.length = k := ⟨_, rfl⟩
  induction k using Nat.strongRecOn generalizing s with
  | _ k ih =>
    match s with
    | [] => exact .inr ⟨rfl, fun n _ => Nat.zero_le _⟩
    | c :: s =>
      rw [List.cons_append]
      by_cases h92 : c = 92
      · subst h92
        match s with
        | [] =>
          refine .inr ⟨rfl, ?_⟩
          intro n h
          rw [scanB_esc, Option.map_eq_some_iff] at h
          obtain ⟨m, _, rfl⟩ := h
          simp
        | d :: s =>
          have := ih s.length (by simp at hk; omega) s rfl
          rw [scanB_esc, scanB_esc]
          simp only [List.cons_append, List.drop_succ_cons, List.drop_zero]
          rcases this with ⟨n, h1, h2⟩ | ⟨h1, h2⟩
          · exact .inl ⟨n + 2, by rw [h1]; rfl, by rw [h2]; rfl⟩
          · refine .inr ⟨by rw [h1]; rfl, ?_⟩
            intro n h
            rw [Option.map_eq_some_iff] at h
            obtain ⟨m, hm, rfl⟩ := h
            have := h2 m hm
            simp; omega
      · by_cases h93 : c = 93
        · subst h93
          exact .inl ⟨0, scanB_end _, scanB_end _⟩
        · have := ih s.length (by simp at hk; omega) s rfl
          rw [scanB_other c _ h92 h93, scanB_other c _ h92 h93]
          rcases this with ⟨n, h1, h2⟩ | ⟨h1, h2⟩
          · exact .inl ⟨n + 1, by rw [h1]; rfl, by rw [h2]; rfl⟩
          · refine .inr ⟨by rw [h1]; rfl, ?_⟩
            intro n h
            rw [Option.map_eq_some_iff] at h
            obtain ⟨m, hm, rfl⟩ := h
            have := h2 m hm
            simp; omega
theorem setF_nl (s t : List UInt8) : setF (s ++ 10 :: t) = setF s := by
  rcases scanB_nl s t with ⟨n, h1, h2⟩ | ⟨h1, h2⟩
  · have := scanB_lt _ _ h1
    rw [setF, setF, h1, h2]
    simp only [Option.bind_some]
    rw [List.take_append_of_le_length (by omega)]
  · rw [setF, setF, h1]
    cases hs : scanB (s ++ 10 :: t) with
    | none => rfl
    | some n =>
      have := h2 n hs
      simp only [Option.bind_some, Option.bind_none]
      have hm : (10 : UInt8) ∈ (s ++ 10 :: t).take (n + 1) := by
        obtain ⟨d, rfl⟩ : ∃ d, n = s.length + d := ⟨n - s.length, by omega⟩
        rw [show s.length + d + 1 = s.length + (d + 1) by omega, List.take_length_add_append]
        simp
      rw [readF_no10 _ hm]; rfl
theorem wordF_nl (c : UInt8) (s t : List UInt8) : wordF (c :: s ++ 10 :: t) = wordF (c :: s) := by
  have h1 := takeWhile_nl (c :: s) t
  have h2 := setF_nl (c :: s) t
  rw [List.cons_append] at h1 h2 ⊢
  rw [wordF, wordF, h1, txt_nl, h2]
theorem skM_nl (m : Bool) (s t : List UInt8) : skM m (s ++ 10 :: t) = if skM m s = s.length then s.length + 1 + skM false t else skM m s := by
  induction s generalizing m with
  | nil => cases m <;> simp [skM, blankB, blankL] <;> omega
  | cons c s ih =>
    have h1 := skM_le m s
    cases m with
    | true =>
      rw [List.cons_append, skM, skM]
      split
      · rw [ih]; simp only [List.length_cons, Nat.add_right_cancel_iff]; split <;> omega
      · rw [ih]; simp only [List.length_cons, Nat.add_right_cancel_iff]; split <;> omega
    | false =>
      rw [List.cons_append, skM, skM]
      split
      · rw [ih]; simp only [List.length_cons, Nat.add_right_cancel_iff]; split <;> omega
      · have e : (s ++ 10 :: t).head? = some 47 ↔ s.head? = some 47 := by cases s <;> simp
        by_cases hh : c = 47 ∧ s.head? = some 47
        · rw [if_pos hh, if_pos ⟨hh.1, e.2 hh.2⟩, ih]; simp only [List.length_cons, Nat.add_right_cancel_iff]; split <;> omega
        · rw [if_neg hh, if_neg (fun h => hh ⟨h.1, e.1 h.2⟩)]; simp
theorem lexF_join (a b : List UInt8) (p : Nat) :
    ((lexF p a).2 = none → (lexF p (a ++ 10 :: b)).1 = (lexF p a).1 ++ (lexF (p + a.length + 1) b).1 ∧ (lexF p (a ++ 10 :: b)).2 = (lexF (p + a.length + 1) b).2) ∧
    ((lexF p a).2 ≠ none → (lexF p (a ++ 10 :: b)).2 ≠ none) := by
  obtain ⟨k, hk⟩ : ∃ k, a.length = k := ⟨_, rfl⟩
  induction k using Nat.strongRecOn generalizing a p with
  | _ k ih =>
    have hle := skM_le false a
    have hsk := skM_nl false a b
    by_cases he : skM false a = a.length
    · rw [if_pos he] at hsk
      have hd : a.drop (skM false a) = [] := by rw [he]; simp
      rw [lexF_end p a hd]
      refine ⟨fun _ => ?_, fun h => absurd rfl h⟩
      have hdrop : (a ++ 10 :: b).drop (skM false (a ++ 10 :: b)) = b.drop (skM false b) := by
        rw [hsk, show a.length + 1 + skM false b = a.length + (1 + skM false b) by omega, ← List.drop_drop, List.drop_left, show 1 + skM false b = skM false b + 1 by omega, List.drop_succ_cons]
      cases hb : b.drop (skM false b) with
      | nil => rw [lexF_end _ _ hb, lexF_end _ _ (hdrop.trans hb)]; exact ⟨rfl, rfl⟩
      | cons c t =>
        cases hw : wordF (c :: t) with
        | none =>
          rw [lexF_bad _ _ _ hb (by simp) hw, lexF_bad _ _ _ (hdrop.trans hb) (by simp) hw, hsk]
          exact ⟨rfl, by simp; omega⟩
        | some q =>
          obtain ⟨w, n⟩ := q
          rw [lexF_word _ _ _ w n hb hw, lexF_word _ _ _ w n (hdrop.trans hb) hw, hsk]
          simp only [List.nil_append]
          rw [show p + (a.length + 1 + skM false b) = p + a.length + 1 + skM false b by omega]
          exact ⟨rfl, rfl⟩
    · rw [if_neg he] at hsk
      cases hd : a.drop (skM false a) with
      | nil =>
        have := congrArg List.length hd
        rw [List.length_drop] at this
        simp at this; omega
      | cons c t =>
        have hl : (c :: t).length = a.length - skM false a := by rw [← hd, List.length_drop]
        have hdrop : (a ++ 10 :: b).drop (skM false (a ++ 10 :: b)) = c :: t ++ 10 :: b := by
          rw [hsk, List.drop_append_of_le_length hle, hd]
        have hwn := wordF_nl c t b
        cases hw : wordF (c :: t) with
        | none =>
          rw [hw] at hwn
          rw [lexF_bad _ _ _ hd (by simp) hw, lexF_bad _ _ _ hdrop (by simp) hwn]
          exact ⟨fun h => by simp at h, fun _ => by simp⟩
        | some q =>
          obtain ⟨w, n⟩ := q
          rw [hw] at hwn
          have hp := wordF_pos _ _ _ hw
          have hdn : (c :: t ++ 10 :: b).drop n = (c :: t).drop n ++ 10 :: b := List.drop_append_of_le_length hp.2
          obtain ⟨i1, i2⟩ := ih ((c :: t).drop n).length (by rw [List.length_drop]; omega) ((c :: t).drop n) (p + skM false a + n) rfl
          rw [lexF_word _ _ _ w n hd hw, lexF_word _ _ _ w n hdrop hwn, hsk, hdn]
          refine ⟨?_, i2⟩
          intro h
          obtain ⟨j1, j2⟩ := i1 h
          rw [j1, j2, List.length_drop, hl]
          rw [show p + skM false a + n + (a.length - skM false a - n) + 1 = p + a.length + 1 by omega]
          exact ⟨rfl, rfl⟩
end Go.Proofs.YtmkidbenndhhjaaDoor.Dx
