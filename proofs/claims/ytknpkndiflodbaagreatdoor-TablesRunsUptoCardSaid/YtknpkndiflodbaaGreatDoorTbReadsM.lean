/-
  PLAIN LAWS of TablesReads and TablesRuns, at the states that lie in memory.
-/
import Derived.Test.YtknpkndiflodbaaGreatDoorTbItems
import Derived.Test.YtknpkndiflodbaaGreatDoorTbPureB
set_option linter.unusedVariables false
namespace Go.Proofs.YtknpkndiflodbaaGreatDoor.Tb
open Go Go.RowKit Go.Proofs Go.Maps Mx
theorem toF_some {p : Sy → Bool} {l : List (Sy × Nat)} (h : ∃ e ∈ l, p e.1 = true) : ∃ e ∈ l, p e.1 = true ∧ toF p l = ((e.2 : Int), true) := by
  unfold toF
  cases hf : l.find? (fun e => p e.1) with
  | none =>
    obtain ⟨e, he, hp⟩ := h
    exact absurd hp (by simpa using List.find?_eq_none.1 hf e he)
  | some e => exact ⟨e, List.mem_of_find?_eq_some hf, List.find?_some (p := fun e : Sy × Nat => p e.1) hf, rfl⟩
theorem good_sets {g : Gr} (hg : Good g) : SetsOk g ∧ SortsAt g ∧ NoSort g := by
  have hm : ∀ (x : It) (y : Sy), aheadF g x = some y → ∃ p ∈ g.prods, y ∈ p.right := fun x y h => by
    unfold aheadF rightOf at h
    cases hp : g.prods[x.1]? with
    | none => rw [hp] at h; simp at h
    | some p =>
      rw [hp] at h
      exact ⟨p, List.mem_of_getElem? hp, List.mem_of_getElem? (show p.right[x.2]? = some y from h)⟩
  refine ⟨fun x y h hk => ?_, fun x y h hk => ?_, fun x y h hk => ?_⟩
  all_goals
    obtain ⟨p, hp, hy⟩ := hm x y h
    rcases hg.sym p hp y hy with ⟨h1, h2, h3, h4⟩ | ⟨h1, h2, h3, h4⟩
  · exact h4
  · omega
  · omega
  · exact ⟨h3, h4⟩
  · exact h2
  · omega
theorem fin_at {sm : List SM} {m : Nat} {K : List It} (h : ((sm.map toSt).map (·.items))[m]? = some K) : m < sm.length ∧ (stAt sm m).items = K := by
  rw [List.getElem?_map, List.getElem?_map] at h
  cases hs : sm[m]? with
  | none => rw [hs] at h; cases h
  | some s =>
    rw [hs] at h
    refine ⟨(List.getElem?_eq_some_iff.1 hs).1, ?_⟩
    rw [stAt_in hs]
    exact Option.some.inj h
theorem stLaw_at {g : Gr} {sm : List SM} (hm : MadeLaw g (sm.map toSt)) {n : Nat} (hn : n < sm.length) : StLaw g ((sm.map toSt).map (·.items)) (toSt (stAt sm n)) := by
  obtain ⟨s, hs⟩ : ∃ s, sm[n]? = some s := ⟨_, List.getElem?_eq_getElem hn⟩
  rw [stAt_in hs]
  exact hm.state (toSt s) (List.mem_map.2 ⟨s, List.mem_of_getElem? hs, rfl⟩)
/-- By a byte of the class behind its dot an item is led to where it stands with its dot one further. -/
theorem reads_byte {g : Gr} {sm : List SM} (hg : Good g) (hm : MadeLaw g (sm.map toSt)) {n : Nat} (hn : n < sm.length) {x : It} {y : Sy} (hx : x ∈ (stAt sm n).items) (hy : aheadF g x = some y) (hk : y.kind = 0) {b : Nat} (hb : y.set.testBit b = true) :
    (∃ q : Nat, q < sm.length ∧ toF (hasByte b) (stAt sm n).edges = ((q : Int), true) ∧ (x.1, x.2 + 1) ∈ (stAt sm q).items) ∧ (nextF (stAt sm n).edges).testBit b = true := by
  have hst := stLaw_at hm hn
  obtain ⟨⟨e, h1, h2, h3⟩, h4⟩ := leads_byte (good_sets hg).1 (l := (toSt (stAt sm n)).items) hx hy hk hb
  obtain ⟨m, h5, _⟩ := hst.leads h1
  have h5 : (e.1, m) ∈ (stAt sm n).edges := h5
  constructor
  · obtain ⟨e2, h6, h7, h8⟩ := toF_some (p := hasByte b) ⟨_, h5, by unfold hasByte; simp [h2, h3]⟩
    obtain ⟨K, h9, h10⟩ := hst.edges h6
    unfold hasByte at h7
    simp at h7
    obtain ⟨a1, a2⟩ := fin_at h10
    exact ⟨e2.2, a1, h8, by rw [a2]; exact h4 _ h9 h7.1 h7.2⟩
  · rw [nextF_bit]
    exact List.any_eq_true.2 ⟨_, h5, by simp [h2, h3]⟩
/-- .. by a sort. -/
theorem reads_sort {g : Gr} {sm : List SM} (hm : MadeLaw g (sm.map toSt)) {n : Nat} (hn : n < sm.length) {x : It} {y : Sy} (hx : x ∈ (stAt sm n).items) (hy : aheadF g x = some y) (hk : y.kind = 1) :
    ∃ q : Nat, q < sm.length ∧ toF (isSort y.sort) (stAt sm n).edges = ((q : Int), true) ∧ (x.1, x.2 + 1) ∈ (stAt sm q).items := by
  have hst := stLaw_at hm hn
  obtain ⟨⟨e, h1, h2, h3⟩, h4⟩ := leads_sort (l := (toSt (stAt sm n)).items) hx hy hk
  obtain ⟨m, h5, _⟩ := hst.leads h1
  have h5 : (e.1, m) ∈ (stAt sm n).edges := h5
  obtain ⟨e2, h6, h7, h8⟩ := toF_some (p := isSort y.sort) ⟨_, h5, by unfold isSort; simp [h2, h3]⟩
  obtain ⟨K, h9, h10⟩ := hst.edges h6
  unfold isSort at h7
  simp at h7
  obtain ⟨a1, a2⟩ := fin_at h10
  exact ⟨e2.2, a1, h8, by rw [a2]; exact h4 _ h9 h7.1 h7.2⟩
/-- What is complete. -/
theorem reads_done {g : Gr} {sm : List SM} (hm : MadeLaw g (sm.map toSt)) {n : Nat} (hn : n < sm.length) : (stAt sm n).done = doneF g (stAt sm n).items := (stLaw_at hm hn).done
/-- Each state is closed. -/
theorem items_closed {g : Gr} {sm : List SM} (hg : Good g) (hm : MadeLaw g (sm.map toSt)) {n : Nat} (hn : n < sm.length) : ∃ l, (∀ x ∈ l, itemOk g x = true) ∧ (stAt sm n).items = closedF g l := by
  by_cases h0 : n = 0
  · obtain ⟨s, h1, h2⟩ := hm.start
    subst h0
    rw [List.getElem?_map] at h1
    cases hs : sm[0]? with
    | none => rw [hs] at h1; cases h1
    | some t =>
      rw [hs] at h1
      have h1 := Option.some.inj h1
      subst h1
      refine ⟨_, fun x hx => ?_, (congrArg SM.items (stAt_in hs)).trans h2⟩
      obtain ⟨k, hk, rfl⟩ := List.mem_map.1 hx
      exact itemOk_new hk
  · obtain ⟨i, s, h1, h2, e, h3, h4⟩ := hm.led n (by omega) (by simpa using hn)
    have hst := hm.state s (List.mem_of_getElem? h2)
    obtain ⟨K, h5, h6⟩ := hst.edges h3
    rw [h4] at h6
    obtain ⟨_, h7⟩ := fin_at h6
    rw [h7]
    have hmv : ∀ l : List It, ∀ x ∈ l, ∀ y, aheadF g x = some y → itemOk g (x.1, x.2 + 1) = true := fun l x _ y hy => by
      unfold aheadF at hy
      have h8 := (List.getElem?_eq_some_iff.1 hy).1
      rw [itemOk_iff]
      refine ⟨?_, h8⟩
      rcases Nat.lt_or_ge x.1 g.prods.length with h | h
      · exact h
      · unfold rightOf at h8
        rw [List.getElem?_eq_none h] at h8
        simp at h8
    rcases leadsF_kind h5 with hk | hk
    · refine ⟨_, fun x hx => ?_, (leadsF_set h5 hk).1⟩
      unfold movedSet at hx
      obtain ⟨z, hz, rfl⟩ := List.mem_map.1 hx
      have := (List.mem_filter.1 hz).2
      cases ha : aheadF g z with
      | none => rw [ha] at this; cases this
      | some y => exact hmv _ z (List.mem_filter.1 hz).1 y ha
    · refine ⟨_, fun x hx => ?_, (leadsF_sort h5 hk).1⟩
      unfold movedSort at hx
      obtain ⟨z, hz, rfl⟩ := List.mem_map.1 hx
      have := (List.mem_filter.1 hz).2
      cases ha : aheadF g z with
      | none => rw [ha] at this; cases this
      | some y => exact hmv _ z (List.mem_filter.1 hz).1 y ha
theorem reads_new {g : Gr} {sm : List SM} (hg : Good g) (hm : MadeLaw g (sm.map toSt)) {n : Nat} (hn : n < sm.length) {x : It} {y : Sy} (hx : x ∈ (stAt sm n).items) (hy : aheadF g x = some y) (hk : y.kind = 1) {m : Nat} (hmm : m ∈ ofS g y.sort) : (m, 0) ∈ (stAt sm n).items := by
  obtain ⟨l, h1, h2⟩ := items_closed hg hm hn
  rw [h2] at hx ⊢
  rw [closedF_iff h1] at hx ⊢
  exact fun S h3 h4 => h4 x (hx S h3 h4) y hy hk m hmm
theorem reads_start {g : Gr} {sm : List SM} (hm : MadeLaw g (sm.map toSt)) {m : Nat} (hmm : m ∈ ofS g g.start) : 0 < sm.length ∧ (m, 0) ∈ (stAt sm 0).items := by
  obtain ⟨s, h1, h2⟩ := hm.start
  rw [List.getElem?_map] at h1
  cases hs : sm[0]? with
  | none => rw [hs] at h1; cases h1
  | some t =>
    rw [hs] at h1
    have h1 := Option.some.inj h1
    subst h1
    refine ⟨(List.getElem?_eq_some_iff.1 hs).1, ?_⟩
    rw [show (stAt sm 0).items = closedF g ((ofS g g.start).map (·, 0)) from (congrArg SM.items (stAt_in hs)).trans h2]
    exact closedF_keep g _ _ (List.mem_map.2 ⟨m, hmm, rfl⟩)
theorem symsR_len (g : Gr) (l : List It) : (symsR g l).length ≤ g.sorts.length + 256 := by
  unfold symsR
  rw [List.length_append, List.length_map, List.length_map]
  have h1 := List.length_filter_le (fun n : Nat => l.any (sortHit g (n : Int))) (List.range g.sorts.length)
  have h2 := List.length_filter_le (fun c => (setsOf g l).any fun s => withinF c s) (refSplit (setsOf g l))
  have h3 : (refSplit (setsOf g l)).length ≤ 256 := by
    unfold refSplit firsts
    rw [List.length_map]
    exact Nat.le_trans (List.length_filter_le _ _) (by simp)
  simp only [List.length_range] at h1
  omega
theorem edges_len {g : Gr} {sm : List SM} (hg : Good g) (hm : MadeLaw g (sm.map toSt)) {n : Nat} (hn : n < sm.length) : (stAt sm n).edges.length ≤ 2000 := by
  have h := (stLaw_at hm hn).len
  have h : (stAt sm n).edges.length = (leadsF g (stAt sm n).items).length := h
  obtain ⟨a, b, c⟩ := good_sets hg
  rw [h, leadsF_eq a b c, List.length_map]
  have := symsR_len g (stAt sm n).items
  have := hg.sorts
  omega
end Go.Proofs.YtknpkndiflodbaaGreatDoor.Tb
