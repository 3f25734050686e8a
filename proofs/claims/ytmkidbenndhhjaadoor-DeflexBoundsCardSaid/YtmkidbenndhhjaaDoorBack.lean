/-
  PLAIN LAWS: words are read as they were told; gaps.
-/
import Derived.Test.YtmkidbenndhhjaaDoorJoin
set_option linter.unusedVariables false
namespace Go.Proofs.YtmkidbenndhhjaaDoor.Dx
open Go
theorem length_of_subset : ∀ (l m : List Nat), l.Nodup → (∀ x ∈ l, x ∈ m) → l.length ≤ m.length := by
  intro l
  induction l with
  | nil => intro m _ _; simp
  | cons x t ih =>
    intro m hn hs
    rw [List.nodup_cons] at hn
    have hx := hs x (by simp)
    have := ih (m.erase x) hn.2 (by
      intro y hy
      have hne : y ≠ x := by rintro rfl; exact hn.1 hy
      exact (List.mem_erase_of_ne hne).2 (hs y (by simp [hy])))
    rw [List.length_erase_of_mem hx] at this
    have := List.length_pos_of_mem hx
    simp; omega
def startB (M i : Nat) : Bool := M.testBit i && (decide (i = 0) || !M.testBit (i - 1))
def starts (M n : Nat) : List Nat := (List.range n).filter (startB M)
theorem starts_succ (M n : Nat) : (starts M (n + 1)).length = (starts M n).length + if startB M n then 1 else 0 := by
  unfold starts
  rw [List.range_succ, List.filter_append]
  cases h : startB M n <;> simp [h]
theorem rgL_len (M : Nat) : ∀ n, n ≤ 256 → (rgL (bytesTo M n)).length = (starts M n).length ∧ (1 ≤ n → M.testBit (n - 1) = true → ∃ m a c, rgL (bytesTo M n) = m ++ [(a, c)] ∧ c.toNat + 1 = n) ∧ (∀ p ∈ rgL (bytesTo M n), p.2.toNat < n) ∧
    ((n = 0 ∨ M.testBit (n - 1) = false) → ∀ m a c, rgL (bytesTo M n) = m ++ [(a, c)] → c.toNat + 1 ≠ n) := by
  intro n
  induction n with
  | zero =>
    intro _
    refine ⟨rfl, fun h => by omega, fun p hp => by simp [bytesTo, rgL] at hp, fun _ m a c h => by simp [bytesTo, rgL] at h⟩
  | succ n ih =>
    intro hn
    obtain ⟨i1, i2, i3, i4⟩ := ih (by omega)
    rw [bytesTo_succ, starts_succ]
    by_cases h : M.testBit n = true
    · rw [if_pos h, rgL_snoc]
      have hb : (UInt8.ofNat n).toNat = n := by simp; omega
      generalize UInt8.ofNat n = b at hb ⊢
      by_cases hp : 1 ≤ n ∧ M.testBit (n - 1) = true
      · obtain ⟨m, a, c, hm, hc⟩ := i2 hp.1 hp.2
        rw [hm, pushR_snoc, if_pos (by omega)]
        have hs : startB M n = false := by simp [startB, h, hp.2]; omega
        rw [hm] at i1 i3
        refine ⟨?_, fun _ _ => ⟨m, a, b, rfl, by omega⟩, ?_, ?_⟩
        · rw [hs]; simpa using i1
        · intro p hpm
          rcases List.mem_append.1 hpm with h1 | h1
          · have := i3 p (by simp [h1]); omega
          · simp at h1; subst h1; simp only; omega
        · rintro (h1 | h1)
          · omega
          · simp [h] at h1
      · have hs : startB M n = true := by
          simp only [startB, h, Bool.true_and, Bool.or_eq_true, decide_eq_true_eq, Bool.not_eq_true']
          rcases Nat.eq_zero_or_pos n with h0 | h0
          · exact .inl h0
          · exact .inr (by simpa using fun e => hp ⟨h0, e⟩)
        have hpush : pushR (rgL (bytesTo M n)) b = rgL (bytesTo M n) ++ [(b, b)] := by
          rcases snoc_cases (rgL (bytesTo M n)) with hl | ⟨m, ⟨a, c⟩, hl⟩
          · rw [hl]; rfl
          · have := i4 (by
              rcases Nat.eq_zero_or_pos n with h0 | h0
              · exact .inl h0
              · exact .inr (by simpa using fun e => hp ⟨h0, e⟩)) m a c hl
            rw [hl, pushR_snoc, if_neg (by omega)]
        rw [hpush, hs]
        refine ⟨by simp [i1], fun _ _ => ⟨_, b, b, rfl, by omega⟩, ?_, ?_⟩
        · intro p hpm
          rcases List.mem_append.1 hpm with h1 | h1
          · have := i3 p h1; omega
          · simp at h1; subst h1; simp only; omega
        · rintro (h1 | h1)
          · omega
          · simp [h] at h1
    · rw [if_neg h]
      have hs : startB M n = false := by simp at h; simp [startB, h]
      rw [hs]
      refine ⟨by simpa using i1, ?_, fun p hp => by have := i3 p hp; omega, ?_⟩
      · intro _ h1; exact absurd h1 h
      · intro _ m a c hm
        have := i3 (a, c) (by rw [hm]; simp)
        simp only at this
        omega
theorem starts_le (M : Nat) (l : List (UInt8 × UInt8)) (h : (∀ i, i < 256 → M.testBit i = l.any (inR i)) ∨ (∀ i, i < 256 → M.testBit i = !l.any (inR i))) : (starts M 256).length ≤ l.length + 1 := by
  have hnd : (starts M 256).Nodup := List.Sublist.nodup List.filter_sublist List.nodup_range
  have hmem : ∀ i ∈ starts M 256, i < 256 ∧ M.testBit i = true ∧ (i = 0 ∨ M.testBit (i - 1) = false) := by
    intro i hi
    obtain ⟨h1, h2⟩ := List.mem_filter.1 hi
    simp only [startB, Bool.and_eq_true, Bool.or_eq_true, decide_eq_true_eq, Bool.not_eq_true'] at h2
    exact ⟨by simpa using h1, h2.1, h2.2⟩
  rcases h with h | h
  · have := length_of_subset _ (0 :: l.map (fun p => p.1.toNat)) hnd (by
      intro i hi
      obtain ⟨h1, h2, h3⟩ := hmem i hi
      rw [h i h1] at h2
      obtain ⟨p, hp, hpi⟩ := List.any_eq_true.1 h2
      rw [inR_iff] at hpi
      rcases h3 with h3 | h3
      · subst h3; simp
      · rcases Nat.eq_zero_or_pos i with h0 | h0
        · subst h0; simp
        rw [h (i - 1) (by omega), List.any_eq_false] at h3
        have := h3 p hp
        rw [inR_iff] at this
        refine List.mem_cons_of_mem _ (List.mem_map.2 ⟨p, hp, ?_⟩)
        omega)
    simpa using this
  · have := length_of_subset _ (0 :: l.map (fun p => p.2.toNat + 1)) hnd (by
      intro i hi
      obtain ⟨h1, h2, h3⟩ := hmem i hi
      rw [h i h1, Bool.not_eq_true', List.any_eq_false] at h2
      rcases h3 with h3 | h3
      · subst h3; simp
      · rcases Nat.eq_zero_or_pos i with h0 | h0
        · subst h0; simp
        rw [h (i - 1) (by omega), Bool.not_eq_false'] at h3
        obtain ⟨p, hp, hpi⟩ := List.any_eq_true.1 h3
        have := h2 p hp
        rw [inR_iff] at this hpi
        refine List.mem_cons_of_mem _ (List.mem_map.2 ⟨p, hp, ?_⟩)
        omega)
    simpa using this
theorem oneF_len (c : UInt8) : (oneF c).length ≤ 4 := by
  rcases oneF_cases c with ⟨d, h, _⟩ | ⟨h, _⟩ | h <;> rw [h] <;> simp
theorem itemT_len (p : UInt8 × UInt8) : (itemT p).length ≤ 9 := by
  have h1 := oneF_len p.1
  have h2 := oneF_len p.2
  unfold itemT
  split <;> split <;> simp <;> omega
theorem items_len (l : List (UInt8 × UInt8)) : (l.flatMap itemT).length ≤ 9 * l.length := by
  induction l with
  | nil => simp
  | cons p t ih => have := itemT_len p; rw [List.flatMap_cons, List.length_append, List.length_cons]; omega
theorem itemsT_len (M : Nat) (l : List (UInt8 × UInt8)) (h : (∀ i, i < 256 → M.testBit i = l.any (inR i)) ∨ (∀ i, i < 256 → M.testBit i = !l.any (inR i))) : (itemsT M).length ≤ 9 * (l.length + 1) := by
  have h1 := items_len (rgL (bytesOf M))
  have h2 := (rgL_len M 256 (Nat.le_refl _)).1
  have h3 := starts_le M l h
  unfold itemsT
  rw [show (rgL (bytesOf M)).length = (rgL (bytesTo M 256)).length from rfl, h2] at h1
  omega
theorem setText_len (M : Nat) (l : List (UInt8 × UInt8)) (h : (∀ i, i < 256 → M.testBit i = l.any (inR i)) ∨ (∀ i, i < 256 → M.testBit i = !l.any (inR i))) : (setText M).length ≤ 9 * (l.length + 1) + 3 := by
  have h1 := itemsT_len M l h
  have h2 := itemsT_len (notM M) l (by
    rcases h with h | h
    · exact .inr fun i hi => by rw [notM_bit, h i hi]; simp [hi]
    · exact .inl fun i hi => by rw [notM_bit, h i hi]; simp [hi])
  unfold setText
  split <;> simp <;> omega
theorem itemsF_len (l : List UInt8) (r : List (UInt8 × UInt8)) (h : itemsF l = some r) : r.length + 1 ≤ l.length := by
  obtain ⟨k, hk⟩ : ∃ k, l.length = k := ⟨_, rfl⟩
  induction k using Nat.strongRecOn generalizing l r with
  | _ k ih =>
    by_cases h93 : l = [93]
    · subst h93; rw [itemsF_end] at h; injection h with h; subst h; simp
    cases ht : takeF l with
    | none => rw [itemsF_bad l h93 ht] at h; cases h
    | some p =>
      obtain ⟨a, n⟩ := p
      have hp := takeF_pos l a n ht
      by_cases hh : (l.drop n).head? = some 45
      · rw [itemsF_two l h93 a n ht hh] at h
        cases ht2 : takeF (l.drop (n + 1)) with
        | none => rw [ht2] at h; cases h
        | some q =>
          obtain ⟨b, m⟩ := q
          rw [ht2] at h
          have hp2 := takeF_pos _ b m ht2
          rw [List.length_drop] at hp2
          simp only [Option.map_eq_some_iff] at h
          obtain ⟨r', hr, rfl⟩ := h
          have := ih _ (by rw [List.length_drop]; omega) _ _ hr rfl
          rw [List.length_drop] at this
          simp; omega
      · rw [itemsF_one l h93 a n ht hh] at h
        simp only [Option.map_eq_some_iff] at h
        obtain ⟨r', hr, rfl⟩ := h
        have := ih _ (by rw [List.length_drop]; omega) _ _ hr rfl
        rw [List.length_drop] at this
        simp; omega
theorem readF_facts (l : List UInt8) (M : Nat) (h : readF l = some M) : M < 2 ^ 256 ∧ (setText M).length ≤ 9 * l.length := by
  unfold readF at h
  split at h
  · rename_i t
    split at h
    · rename_i hh
      rw [Option.map_eq_some_iff] at h
      obtain ⟨N, hN, rfl⟩ := h
      rw [Option.bind_eq_some_iff] at hN
      obtain ⟨r, hr, hN⟩ := hN
      have hlt := makeF_lt _ _ hN
      have hl := itemsF_len _ _ hr
      obtain ⟨N', h1, h2⟩ := makeF_bit r 0 (makeF_some_le r 0 N hN)
      rw [hN] at h1; injection h1 with h1; subst h1
      refine ⟨notM_lt _ hlt, ?_⟩
      have := setText_len (notM N) r (.inr fun i hi => by rw [notM_bit, h2]; simp [hi])
      rw [List.length_drop] at hl
      simp; omega
    · rw [Option.bind_eq_some_iff] at h
      obtain ⟨r, hr, hN⟩ := h
      have hlt := makeF_lt _ _ hN
      have hl := itemsF_len _ _ hr
      obtain ⟨N', h1, h2⟩ := makeF_bit r 0 (makeF_some_le r 0 M hN)
      rw [hN] at h1; injection h1 with h1; subst h1
      refine ⟨hlt, ?_⟩
      have := setText_len M r (.inl fun i hi => by rw [h2]; simp)
      simp; omega
  · cases h
theorem txt_len (l o : List UInt8) (n : Nat) (h : txt l = some (o, n)) : o.length + 1 ≤ n := by
  obtain ⟨k, hk⟩ : ∃ k, l.length = k := ⟨_, rfl⟩
  induction k using Nat.strongRecOn generalizing l o n with
  | _ k ih =>
    cases l with
    | nil => cases h
    | cons c t =>
      by_cases h34 : c = 34
      · subst h34
        rw [txt_quote] at h
        injection h with h; injection h with h1 h2; subst h1; subst h2; simp
      · by_cases hb : c.toNat < 32 ∨ 126 < c.toNat
        · rw [txt_bad c t hb] at h; cases h
        · by_cases h92 : c = 92
          · subst h92
            rw [txt_esc] at h
            cases he : escF t with
            | none => rw [he] at h; cases h
            | some p =>
              obtain ⟨b, m⟩ := p
              rw [he] at h
              simp only [Option.map_eq_some_iff] at h
              obtain ⟨⟨q1, q2⟩, hq, he2⟩ := h
              have := ih (t.drop m).length (by rw [List.length_drop]; simp at hk; omega) _ _ _ hq rfl
              injection he2 with e1 e2
              subst e1
              simp only at e2 this ⊢
              simp; omega
          · rw [txt_plain c t h34 hb h92] at h
            simp only [Option.map_eq_some_iff] at h
            obtain ⟨⟨q1, q2⟩, hq, he2⟩ := h
            have := ih t.length (by simp at hk; omega) _ _ _ hq rfl
            injection he2 with e1 e2
            subst e1
            simp only at e2 this ⊢
            simp; omega
theorem quoteB_len (c : UInt8) : (quoteB c).length ≤ 4 := by
  unfold quoteB
  repeat' split
  all_goals simp
theorem quotes_len (s : List UInt8) : (s.flatMap quoteB).length ≤ 4 * s.length := by
  induction s with
  | nil => simp
  | cons c t ih => have := quoteB_len c; rw [List.flatMap_cons, List.length_append, List.length_cons]; omega
theorem decF_snoc (l : List UInt8) (c : UInt8) : decF (l ++ [c]) = 10 * decF l + (c.toNat - 48) := by simp [decF]
theorem decF_lt (l : List UInt8) (h : l.all digB = true) : decF l < 10 ^ l.length := by
  obtain ⟨k, hk⟩ : ∃ k, l.length = k := ⟨_, rfl⟩
  induction k generalizing l with
  | zero => have : l = [] := List.eq_nil_of_length_eq_zero hk; subst this; decide
  | succ k ih =>
    rcases snoc_cases l with rfl | ⟨m, c, rfl⟩
    · simp at hk
    · rw [List.all_append, Bool.and_eq_true] at h
      have := ih m h.1 (by simp at hk; omega)
      have hc : digB c = true := by simpa using h.2
      have := digitB_true.1 hc
      rw [decF_snoc, List.length_append]
      simp only [List.length_cons, List.length_nil, Nat.pow_succ, Nat.zero_add]
      omega
theorem takeWhile_all (l : List UInt8) : (l.takeWhile wordB).all wordB = true := by
  induction l with
  | nil => rfl
  | cons c t ih =>
    rw [List.takeWhile_cons]
    split
    · rename_i h; rw [List.all_cons, h, ih]; rfl
    · rfl
/-- What is read may be, and is told by not much more than it was told by. -/
theorem wordF_may (l : List UInt8) (w : Wd) (n : Nat) (h : wordF l = some (w, n)) : mayW w ∧ (toldF w).length ≤ 9 * n := by
  have hpos := wordF_pos l w n h
  cases l with
  | nil => cases h
  | cons c t =>
    have hcl := classI_cases (c.toNat : Int) _ (sign_index c) sign_range
    rw [wordF] at h
    split at h
    · rename_i h1
      split at h
      · rename_i hlen
        injection h with h; injection h with h2 h3
        subst h2
        have hlet : letterB (c.toNat : Int) = true := by rw [letterB_true]; omega
        have hwc : wordB c = true := by simp [wordB, hlet]
        have ha := takeWhile_all (c :: t)
        rw [List.takeWhile_cons, if_pos hwc] at ha hlen h3 ⊢
        refine ⟨⟨?_, Nat.two_pow_pos 256⟩, ?_⟩
        · simp only [mayF, nameB, hlet, ha]
          simp at hlen; simp; omega
        · show (c :: t.takeWhile wordB).length ≤ _
          omega
      · cases h
    split at h
    · simp only [Option.map_eq_some_iff] at h
      obtain ⟨m, hm, he⟩ := h
      injection he with h2 h3
      subst h2
      unfold numF at hm
      split at hm
      · rename_i hc
        injection hm with hm
        have hlt := decF_lt _ hc.1
        have h10 : 10 ^ ((c :: t).takeWhile wordB).length ≤ 10 ^ 9 := Nat.pow_le_pow_right (by decide) hc.2.1
        have e9 : (10 : Nat) ^ 9 = 1000000000 := by decide
        have hm9 : m ≤ 999999999 := by omega
        refine ⟨⟨?_, Nat.two_pow_pos 256⟩, ?_⟩
        · simp [mayF]; omega
        · show (Lib.itoa (m : Int)).length ≤ _
          rw [itoa_nat]
          have := dec_len m hm9
          omega
      · cases hm
    split at h
    · simp only [Option.map_eq_some_iff] at h
      obtain ⟨⟨o, m⟩, hm, he⟩ := h
      injection he with h2 h3
      subst h2
      refine ⟨⟨rfl, Nat.two_pow_pos 256⟩, ?_⟩
      have h4 := txt_len _ _ _ hm
      have h5 := quotes_len o
      show (34 :: (o.flatMap quoteB ++ [34])).length ≤ _
      rw [List.length_cons, List.length_append, List.length_singleton]
      simp only at h3
      omega
    split at h
    · simp only [Option.map_eq_some_iff] at h
      obtain ⟨⟨M, m⟩, hm, he⟩ := h
      injection he with h2 h3
      subst h2
      unfold setF at hm
      rw [Option.bind_eq_some_iff] at hm
      obtain ⟨k, hk, hm⟩ := hm
      have := scanB_lt _ _ hk
      simp only [Option.map_eq_some_iff] at hm
      obtain ⟨M', hr, hm⟩ := hm
      injection hm with h4 h5
      subst h4
      obtain ⟨r1, r2⟩ := readF_facts _ _ hr
      refine ⟨⟨rfl, r1⟩, ?_⟩
      show (setText M').length ≤ _
      rw [List.length_take] at r2
      simp only at h3
      omega
    split at h
    · rename_i h5
      injection h with h; injection h with h2 h3
      subst h2
      refine ⟨⟨?_, Nat.two_pow_pos 256⟩, ?_⟩
      · have : signB (c.toNat : Int) = true := by
          rcases hcl with hh | hh | hh | hh | hh | hh
          · omega
          · omega
          · omega
          · omega
          · exact (sign_index c).1 hh.2.1
          · omega
        simp [mayF, this]
      · show [c].length ≤ _
        simp; omega
    · cases h
theorem tellL_len (w : Wd) (t : List Wd) : (tellL (w :: t)).length ≤ (toldF w).length + 1 + (tellL t).length := by
  cases t with
  | nil => rw [tellL_one]; omega
  | cons v t => rw [tellL_cons w _ (by simp)]; simp; omega
theorem lexG_may : ∀ (f p : Nat) (l : List UInt8), AllW ((lexG f p l).1.map (·.2)) ∧ (tellL ((lexG f p l).1.map (·.2))).length ≤ 10 * l.length ∧ (lexG f p l).1.length ≤ l.length := by
  intro f
  induction f with
  | zero => intro p l; exact ⟨fun w h => by simp [lexG] at h, by simp [lexG, tellL], by simp [lexG]⟩
  | succ f ih =>
    intro p l
    rw [lexG]
    have hs := skM_le false l
    cases hd : l.drop (skM false l) with
    | nil => exact ⟨fun w h => by simp at h, by simp [tellL], by simp⟩
    | cons c t =>
      have hl : (c :: t).length = l.length - skM false l := by rw [← hd, List.length_drop]
      simp only
      cases hw : wordF (c :: t) with
      | none => exact ⟨fun w h => by simp at h, by simp [tellL], by simp⟩
      | some q =>
        obtain ⟨w, n⟩ := q
        obtain ⟨h1, h2⟩ := wordF_may _ _ _ hw
        have hp := wordF_pos _ _ _ hw
        obtain ⟨i1, i2, i3⟩ := ih (p + skM false l + n) ((c :: t).drop n)
        simp only [List.map_cons]
        rw [List.length_drop] at i2 i3
        refine ⟨?_, ?_, by rw [List.length_cons]; omega⟩
        · intro v hv
          rcases List.mem_cons.1 hv with rfl | hv
          · exact h1
          · exact i1 v hv
        · have := tellL_len w ((lexG f (p + skM false l + n) ((c :: t).drop n)).1.map (·.2))
          omega
theorem lexF_may (p : Nat) (l : List UInt8) : AllW ((lexF p l).1.map (·.2)) ∧ (tellL ((lexF p l).1.map (·.2))).length ≤ 10 * l.length ∧ (lexF p l).1.length ≤ l.length := lexG_may _ _ _
/-- A text's words, told, are read again. -/
theorem lexF_back (l : List Wd) (h : AllW l) : (lexF 0 (tellL l)).2 = none ∧ (lexF 0 (tellL l)).1.map (·.2) = l := by
  have := lexF_tell l h 0 [] (by intro l; simp)
  simpa using this
/-- Words with gaps ahead. -/
def gapText : List (List UInt8 × Wd) → List UInt8
  | [] => []
  | (g, w) :: t => g ++ (toldF w ++ gapText t)
def gapPlaces : Nat → List (List UInt8 × Wd) → List (Nat × Wd)
  | _, [] => []
  | p, (g, w) :: t => (p + g.length, w) :: gapPlaces (p + g.length + (toldF w).length) t
def gapG (g : List UInt8) : Prop := (∀ l, skM false (g ++ l) = g.length + skM false l) ∧ (∃ c u, g = c :: u ∧ wordB c = false)
theorem sep_gap (g : List UInt8) (h : gapG g) (t : List UInt8) : sepB (g ++ t) := by
  obtain ⟨c, u, rfl, hc⟩ := h.2
  intro d hd
  injection hd with hd
  subst hd
  exact hc
theorem lexF_gaps (l : List (List UInt8 × Wd)) (tail : List UInt8) (ht : sepB tail) : ∀ (p : Nat), (∀ q ∈ l, gapG q.1 ∧ mayW q.2) →
    lexF p (gapText l ++ tail) = (gapPlaces p l ++ (lexF (p + (gapText l).length) tail).1, (lexF (p + (gapText l).length) tail).2) := by
  induction l with
  | nil => intro p _; simp [gapText, gapPlaces]
  | cons q t ih =>
    intro p h
    obtain ⟨g, w⟩ := q
    obtain ⟨hg, hw⟩ := h (g, w) (by simp)
    have hsep : sepB (gapText t ++ tail) := by
      cases t with
      | nil => exact ht
      | cons q t =>
        obtain ⟨g', w'⟩ := q
        have := (h (g', w') (by simp)).1
        simp only [gapText, List.append_assoc]
        exact sep_gap g' this _
    simp only [gapText, List.append_assoc]
    rw [lexF_told p g w hw.1 hw.2 _ hsep hg.1, ih _ (fun q hq => h q (by simp [hq])), gapPlaces]
    simp only [List.length_append, List.cons_append]
    rw [show p + g.length + (toldF w).length + (gapText t).length = p + (g.length + ((toldF w).length + (gapText t).length)) by omega]
end Go.Proofs.YtmkidbenndhhjaaDoor.Dx
