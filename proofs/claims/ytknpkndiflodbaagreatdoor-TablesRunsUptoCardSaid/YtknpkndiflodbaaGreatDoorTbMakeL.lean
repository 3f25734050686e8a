/-
  PLAIN LAWS: what the states of a grammar have.
-/
import Derived.Test.YtknpkndiflodbaaGreatDoorTbPureA
set_option linter.unusedVariables false
namespace Go.Proofs.YtknpkndiflodbaaGreatDoor.Tb
theorem numberF_at {all all' : List (List It)} {l : List It} {n : Nat} (h : numberF all l = some (n, all')) : all'[n]? = some l ∧ (all' = all ∨ n = all.length ∧ all' = all ++ [l]) := by
  unfold numberF at h
  cases hf : all.findIdx? (· == l) with
  | some k =>
    rw [hf] at h
    simp at h
    obtain ⟨rfl, rfl⟩ := h
    obtain ⟨hk, hp, _⟩ := List.findIdx?_eq_some_iff_getElem.1 hf
    refine ⟨?_, .inl rfl⟩
    rw [List.getElem?_eq_getElem hk]
    have : all[k] = l := by simpa using hp
    rw [this]
  | none =>
    rw [hf] at h
    dsimp only at h
    split at h
    · cases h
    · injection h with h
      injection h with h1 h2
      subst h1; subst h2
      exact ⟨by simp, .inr ⟨rfl, rfl⟩⟩
theorem numbersF_at : ∀ (L : List (Sy × List It)) (all all' : List (List It)) (e : List (Sy × Nat)), numbersF all L = some (e, all') →
    e.length = L.length ∧ (∀ (k : Nat) (sy : Sy) (K : List It), L[k]? = some (sy, K) → ∃ n, e[k]? = some (sy, n) ∧ all'[n]? = some K) ∧ (∃ t, all' = all ++ t) ∧ ∀ j, all.length ≤ j → j < all'.length → ∃ x ∈ e, x.2 = j
  | [], all, all', e, h => by
    simp [numbersF] at h
    obtain ⟨rfl, rfl⟩ := h
    exact ⟨rfl, (fun k sy K hk => by simp at hk), ⟨[], by simp⟩, fun j h1 h2 => by omega⟩
  | (s, l) :: L, all, all', e, h => by
    rw [numbersF] at h
    cases h1 : numberF all l with
    | none => rw [h1] at h; cases h
    | some r =>
      obtain ⟨n, a1⟩ := r
      rw [h1] at h
      dsimp only at h
      cases h2 : numbersF a1 L with
      | none => rw [h2] at h; cases h
      | some r =>
        obtain ⟨e2, a2⟩ := r
        rw [h2] at h
        simp at h
        obtain ⟨rfl, rfl⟩ := h
        obtain ⟨p1, p2⟩ := numberF_at h1
        obtain ⟨q1, q2, ⟨t, q3⟩, q4⟩ := numbersF_at L a1 a2 e2 h2
        have hlt : n < a1.length := (List.getElem?_eq_some_iff.1 p1).1
        refine ⟨by simp [q1], ?_, ?_, ?_⟩
        · intro k sy K hk
          cases k with
          | zero =>
            simp at hk
            obtain ⟨rfl, rfl⟩ := hk
            refine ⟨n, by simp, ?_⟩
            rw [q3, List.getElem?_append_left hlt]; exact p1
          | succ k =>
            simp at hk
            obtain ⟨m, h3, h4⟩ := q2 k sy K hk
            exact ⟨m, by simpa using h3, h4⟩
        · rcases p2 with rfl | ⟨_, rfl⟩
          · exact ⟨t, q3⟩
          · exact ⟨l :: t, by rw [q3]; simp⟩
        · intro j h3 h4
          rcases p2 with rfl | ⟨rfl, rfl⟩
          · obtain ⟨x, hx, hj⟩ := q4 j h3 h4
            exact ⟨x, by simp [hx], hj⟩
          · by_cases hj : j = all.length
            · exact ⟨(s, all.length), by simp, hj.symm⟩
            · obtain ⟨x, hx, hj⟩ := q4 j (by simp; omega) h4
              exact ⟨x, by simp [hx], hj⟩
/-- What the state s has, where the states' items are fin. -/
structure StLaw (g : Gr) (fin : List (List It)) (s : St) : Prop where
  done : s.done = doneF g s.items
  len : s.edges.length = (leadsF g s.items).length
  edge : ∀ (k : Nat) (sy : Sy) (K : List It), (leadsF g s.items)[k]? = some (sy, K) → ∃ m, s.edges[k]? = some (sy, m) ∧ fin[m]? = some K
theorem statesGo_law (g : Gr) : ∀ (f n : Nat) (all : List (List It)) (l : List St), statesGo g f n all = some l → all.Nodup → all.length ≤ 16384 → n ≤ all.length → 16384 < f + n →
    ∃ fin : List (List It), (∃ t, fin = all ++ t) ∧ fin.Nodup ∧ l.map (·.items) = fin.drop n ∧ (∀ s ∈ l, StLaw g fin s) ∧ ∀ j, all.length ≤ j → j < fin.length → ∃ (i : Nat) (s : St), n + i < j ∧ l[i]? = some s ∧ ∃ e ∈ s.edges, e.2 = j
  | 0, n, all, l, h, hn, hl, hle, hf => by omega
  | f + 1, n, all, l, h, hn, hl, hle, hf => by
    rw [statesGo] at h
    cases hx : all[n]? with
    | none =>
      rw [hx] at h
      simp at h
      subst h
      have : all.length ≤ n := List.getElem?_eq_none_iff.1 hx
      exact ⟨all, ⟨[], by simp⟩, hn, by simp [List.drop_eq_nil_of_le this], (fun s hs => by cases hs), fun j h1 h2 => by omega⟩
    | some y =>
      rw [hx] at h
      dsimp only at h
      have hlt : n < all.length := (List.getElem?_eq_some_iff.1 hx).1
      cases h1 : numbersF all (leadsF g y) with
      | none => rw [h1] at h; cases h
      | some r =>
        obtain ⟨e, a1⟩ := r
        rw [h1] at h
        dsimp only at h
        obtain ⟨n1, l1, _, _, _⟩ := numbersF_some _ _ _ _ h1 hn hl
        obtain ⟨p1, p2, ⟨t1, p3⟩, p4⟩ := numbersF_at _ _ _ _ h1
        cases h2 : statesGo g f (n + 1) a1 with
        | none => rw [h2] at h; cases h
        | some r =>
          rw [h2] at h
          simp at h
          subst h
          obtain ⟨fin, ⟨t2, f1⟩, f2, f3, f4, f5⟩ := statesGo_law g f (n + 1) a1 r h2 n1 l1 (by rw [p3]; simp; omega) (by omega)
          have hfx : fin[n]? = some y := by rw [f1, p3, List.append_assoc, List.getElem?_append_left hlt]; exact hx
          have hfl : n < fin.length := (List.getElem?_eq_some_iff.1 hfx).1
          refine ⟨fin, ⟨t1 ++ t2, by rw [f1, p3, List.append_assoc]⟩, f2, ?_, ?_, ?_⟩
          · rw [List.map_cons, f3, List.drop_eq_getElem_cons hfl]
            congr 1
            rw [List.getElem?_eq_getElem hfl] at hfx
            injection hfx with hfx
            exact hfx.symm
          · intro s hs
            rcases List.mem_cons.1 hs with rfl | hs
            · refine ⟨rfl, p1, fun k sy K hk => ?_⟩
              obtain ⟨m, q1, q2⟩ := p2 k sy K hk
              refine ⟨m, q1, ?_⟩
              rw [f1, List.getElem?_append_left (List.getElem?_eq_some_iff.1 q2).1]; exact q2
            · exact f4 s hs
          · intro j hj1 hj2
            by_cases hj : j < a1.length
            · obtain ⟨x, hx1, hx2⟩ := p4 j hj1 hj
              exact ⟨0, _, by omega, rfl, x, hx1, hx2⟩
            · obtain ⟨i, s, q1, q2, q3⟩ := f5 j (by omega) hj2
              exact ⟨i + 1, s, by omega, by simpa using q2, q3⟩
/-- What the states of a grammar have. -/
structure MadeLaw (g : Gr) (l : List St) : Prop where
  nodup : (l.map (·.items)).Nodup
  start : ∃ s, l[0]? = some s ∧ s.items = closedF g ((ofS g g.start).map (·, 0))
  state : ∀ s ∈ l, StLaw g (l.map (·.items)) s
  led : ∀ j, 1 ≤ j → j < l.length → ∃ (i : Nat) (s : St), i < j ∧ l[i]? = some s ∧ ∃ e ∈ s.edges, e.2 = j
theorem makeF_law {g : Gr} {l : List St} (h : makeF g = some l) : MadeLaw g l := by
  unfold makeF at h
  obtain ⟨fin, ⟨t, f1⟩, f2, f3, f4, f5⟩ := statesGo_law g 16385 0 _ l h (by simp) (by simp) (Nat.zero_le _) (by decide)
  rw [List.drop_zero] at f3
  subst f3
  have hlen : (l.map (·.items)).length = l.length := by simp
  refine ⟨f2, ?_, f4, ?_⟩
  · have h0 : (l.map (·.items))[0]? = some (closedF g ((ofS g g.start).map (·, 0))) := by rw [f1]; simp
    rw [List.getElem?_map] at h0
    cases hs : l[0]? with
    | none => rw [hs] at h0; cases h0
    | some s => rw [hs] at h0; simp at h0; exact ⟨s, rfl, h0⟩
  · intro j h1 h2
    obtain ⟨i, s, q1, q2, q3⟩ := f5 j (by simpa using h1) (by rw [hlen]; exact h2)
    exact ⟨i, s, by omega, q2, q3⟩
end Go.Proofs.YtknpkndiflodbaaGreatDoor.Tb
