/-
  PLAIN LAWS of TablesItems: what a state leads on by stands behind its dots; what Check asks.
-/
import Derived.Test.YtknpkndiflodbaaGreatDoorTbEdge
import Derived.Test.YtknpkndiflodbaaGreatDoorTbMakeL
import Derived.Test.YtknpkndiflodbaaGreatDoorTbWorks
set_option linter.unusedVariables false
set_option linter.unusedSimpArgs false
namespace Go.Proofs.YtknpkndiflodbaaGreatDoor.Tb
open Go Go.RowKit Go.Proofs Go.Maps Mx
theorem mem_insInt {x y : Int} : ∀ {l : List Int}, x ∈ insInt y l → x = y ∨ x ∈ l
  | [], h => by simp [insInt] at h; exact .inl h
  | z :: t, h => by
    unfold insInt at h
    split at h
    · rcases List.mem_cons.1 h with h | h
      · exact .inl h
      · exact .inr h
    · rcases List.mem_cons.1 h with h | h
      · exact .inr (by rw [h]; exact List.mem_cons_self ..)
      · rcases mem_insInt h with h | h
        · exact .inl h
        · exact .inr (List.mem_cons_of_mem _ h)
theorem mem_foldr_ins {x : Int} : ∀ {l : List Int}, x ∈ l.foldr insInt [] → x ∈ l
  | [], h => by simp at h
  | y :: t, h => by
    rw [List.foldr_cons] at h
    rcases mem_insInt h with h | h
    · rw [h]; exact List.mem_cons_self ..
    · exact List.mem_cons_of_mem _ (mem_foldr_ins h)
theorem mem_sortStep (g : Gr) {x : Int} : ∀ (l : List It) (o : List Int), x ∈ l.foldl (sortStep g) o → x ∈ o ∨ ∃ y ∈ l, ∃ s, aheadF g y = some s ∧ s.kind = 1 ∧ s.sort = x
  | [], o, h => .inl h
  | y :: t, o, h => by
    rw [List.foldl_cons] at h
    rcases mem_sortStep g t _ h with h | ⟨z, hz, s, h1⟩
    · unfold sortStep at h
      cases ha : aheadF g y with
      | none => rw [ha] at h; exact .inl h
      | some s =>
        rw [ha] at h
        simp only at h
        split at h
        · rename_i hc
          rcases List.mem_append.1 h with h | h
          · exact .inl h
          · simp at h; exact .inr ⟨y, List.mem_cons_self .., s, ha, hc.1, h.symm⟩
        · exact .inl h
    · exact .inr ⟨z, List.mem_cons_of_mem _ hz, s, h1⟩
/-- What items lead on by stands behind a dot of theirs. -/
theorem leads_met (g : Gr) (l : List It) (s : Sy) (K : List It) (h : (s, K) ∈ leadsF g l) : metF g s l = true := by
  unfold leadsF at h
  unfold metF
  rw [List.any_eq_true]
  rcases List.mem_append.1 h with h | h
  · obtain ⟨x, hx, e⟩ := List.mem_map.1 h
    injection e with e1 e2
    subst e1
    rcases mem_sortStep g l [] (mem_foldr_ins hx) with h | ⟨y, hy, s, h1, h2, h3⟩
    · simp at h
    · exact ⟨y, hy, by unfold hitF; rw [h1]; simp [h2, h3]⟩
  · obtain ⟨c, hc, e⟩ := List.mem_filterMap.1 h
    split at e
    · cases e
    · rename_i hne
      injection e with e
      injection e with e1 e2
      subst e1
      have h1 : movedSet g l c ≠ [] := fun h => hne (by rw [h]; rfl)
      obtain ⟨z, hz⟩ := List.exists_mem_of_ne_nil _ h1
      unfold movedSet at hz
      obtain ⟨y, hy, _⟩ := List.mem_map.1 hz
      obtain ⟨hy1, hy2⟩ := List.mem_filter.1 hy
      refine ⟨y, hy1, ?_⟩
      unfold hitF
      cases ha : aheadF g y with
      | none => rw [ha] at hy2; simp at hy2
      | some s =>
        rw [ha] at hy2
        simp at hy2 ⊢
        exact hy2.1
theorem good_of {g : Gr} {w : World} {N : Nat} {sv pv fv lv : Value} (hG : GramAt w N g sv pv fv lv) (hv : vastB g = false) (hc : chkN g = 0) : Good g := by
  have hck : checkB g = true := by
    unfold chkN at hc
    split at hc
    · assumption
    · exact absurd hc (by decide)
  unfold checkB at hck
  simp only [Bool.and_eq_true] at hck
  obtain ⟨⟨⟨h1, h2⟩, h3⟩, h4⟩ := hck
  have hs := (sortsB_iff g).1 h1
  unfold prodsB at h2
  simp only [Bool.and_eq_true, List.all_eq_true] at h2
  have hp30 : g.prods.length ≤ 30 := by
    unfold vastB at hv
    simp at hv
    omega
  have hpr : ∀ p ∈ g.prods, headB g p = true ∧ ∀ s ∈ p.right, symB g p.role s = true := fun p hp => by
    have := h2.1 p hp
    unfold prodB at this
    simp only [Bool.and_eq_true, List.all_eq_true] at this
    exact this
  refine ⟨by omega, hs.many, hs.start, fun p hp => ?_, fun p hp => ?_, fun p hp s hsm => ?_⟩
  · have h := (hpr p hp).1
    unfold headB inB at h
    simp at h
    exact h.1.1.1.1.1.1.1
  · have h := (hpr p hp).1
    unfold headB inB at h
    simp at h
    have := h.1.1.1.1.1.1.2
    omega
  · have h := (hpr p hp).2 s hsm
    have hok := ((hG.ok p hp).2.2.1 s hsm)
    rcases sym_arms g p.role s with ⟨hh, _⟩ | ⟨hh, _⟩ | ⟨hh, a, b, c⟩ | ⟨hh, _⟩ | ⟨hh, _⟩ | ⟨hh, _⟩ | ⟨hh, a, b, c, d⟩ | ⟨hh, _⟩
    all_goals first | (rw [h] at hh; cases hh; done) | skip
    · exact .inl ⟨a, c, b, hok.1⟩
    · unfold inB at c
      simp at c
      exact .inr ⟨a, b, c.1, c.2⟩
end Go.Proofs.YtknpkndiflodbaaGreatDoor.Tb
