/-
  PLAIN LAWS of Make: the states that were led from so far, and those that were only numbered.
  MEMORY of Make, while the sorts' productions are collected.
  WALKS: what Make does where it was given up.
-/
import Derived.Test.YtknpkndiflodbaaGreatDoorTbLead1A
import Derived.Test.YtknpkndiflodbaaGreatDoorRowsA
import Derived.Recover
import Derived.Defers
set_option linter.unusedVariables false
namespace Go.Proofs.YtknpkndiflodbaaGreatDoor.Tb
open Go Go.RowKit Go.Proofs Mx
def toSt (s : SM) : St := ⟨s.items, s.edges, s.done⟩
theorem numberF_prefix {all all' : List (List It)} {l : List It} {n : Nat} (h : numberF all l = some (n, all')) : ∃ t, all' = all ++ t := by
  unfold numberF at h
  split at h
  · simp at h; exact ⟨[], by simp [h.2]⟩
  · split at h
    · cases h
    · simp at h; exact ⟨[l], h.2.symm⟩
theorem numbersF_prefix : ∀ (L : List (Sy × List It)) (all all' : List (List It)) (e : List (Sy × Nat)), numbersF all L = some (e, all') → ∃ t, all' = all ++ t
  | [], all, all', e, h => by simp [numbersF] at h; exact ⟨[], by simp [h.2]⟩
  | (s, l) :: L, all, all', e, h => by
    rw [numbersF] at h
    cases h1 : numberF all l with
    | none => rw [h1] at h; cases h
    | some r =>
      obtain ⟨k, a1⟩ := r
      rw [h1] at h
      dsimp only at h
      cases h2 : numbersF a1 L with
      | none => rw [h2] at h; cases h
      | some r =>
        obtain ⟨e2, a2⟩ := r
        rw [h2] at h
        simp at h
        obtain ⟨_, rfl⟩ := h
        obtain ⟨t1, p1⟩ := numberF_prefix h1
        obtain ⟨t2, p2⟩ := numbersF_prefix L a1 a2 e2 h2
        exact ⟨t1 ++ t2, by rw [p2, p1, List.append_assoc]⟩
/-- sm: the states so far; those below n were led from. -/
structure MakeI (g : Gr) (sm : List SM) (n : Nat) : Prop where
  go : makeF g = (statesGo g (16385 - n) n (sm.map (·.items))).map ((sm.take n).map toSt ++ ·)
  next : ∀ (k : Nat) (s : SM), k < n → sm[k]? = some s → s.next = nextF s.edges
  bare : ∀ (k : Nat) (s : SM), n ≤ k → sm[k]? = some s → Bare s
  le : n ≤ sm.length
  many : sm.length ≤ 16384
theorem MakeI.start (g : Gr) (s : SM) (hi : s.items = closedF g ((ofS g g.start).map (·, 0))) (hb : Bare s) : MakeI g [s] 0 := by
  refine ⟨?_, fun k s h => by omega, fun k s' _ h => ?_, Nat.zero_le _, by simp⟩
  · unfold makeF
    rw [List.map_singleton, hi]
    cases statesGo g (16385 - 0) 0 [closedF g ((ofS g g.start).map (·, 0))] <;> rfl
  · cases k with
    | zero => simp at h; subst h; exact hb
    | succ k => simp at h
theorem MakeI.none {g : Gr} {sm : List SM} {n : Nat} (h : MakeI g sm n) {s : SM} (hs : sm[n]? = some s) (hn : numbersF (sm.map (·.items)) (leadsF g s.items) = none) : makeF g = none := by
  rw [h.go]
  have hlt := (List.getElem?_eq_some_iff.1 hs).1
  have := h.many
  obtain ⟨f, hf⟩ : ∃ f, 16385 - n = f + 1 := ⟨16384 - n, by omega⟩
  rw [hf, statesGo, List.getElem?_map, hs]
  dsimp only [Option.map_some]
  rw [hn]
  rfl
theorem MakeI.step {g : Gr} {sm sm' : List SM} {n : Nat} (h : MakeI g sm n) {s s' : SM} (hs : sm[n]? = some s) {es : List (Sy × Nat)} {all' : List (List It)}
    (hn : numbersF (sm.map (·.items)) (leadsF g s.items) = some (es, all')) (hall : sm'.map (·.items) = all') (hs' : sm'[n]? = some s') (he : s'.edges = es) (hd : s'.done = doneF g s.items) (hx : s'.next = nextF es)
    (hold : ∀ k, k ≠ n → k < sm.length → sm'[k]? = sm[k]?) (hnew : ∀ k x, sm.length ≤ k → sm'[k]? = some x → Bare x) (hm : sm'.length ≤ 16384) : MakeI g sm' (n + 1) := by
  have hlt := (List.getElem?_eq_some_iff.1 hs).1
  have hlt' := (List.getElem?_eq_some_iff.1 hs').1
  have := h.many
  obtain ⟨t, ht⟩ := numbersF_prefix _ _ _ _ hn
  have hit : s'.items = s.items := by
    have h1 : (sm'.map (·.items))[n]? = some s'.items := by rw [List.getElem?_map, hs']; rfl
    rw [hall, ht, List.getElem?_append_left (by simpa using hlt), List.getElem?_map, hs] at h1
    simpa using h1.symm
  refine ⟨?_, ?_, ?_, by omega, hm⟩
  · rw [h.go]
    obtain ⟨f, hf⟩ : ∃ f, 16385 - n = f + 1 := ⟨16384 - n, by omega⟩
    have hf2 : 16385 - (n + 1) = f := by omega
    rw [hf, hf2, statesGo, List.getElem?_map, hs]
    dsimp only [Option.map_some]
    rw [hn, hall]
    dsimp only
    have htk : sm'.take (n + 1) = sm.take n ++ [s'] := by
      rw [List.take_add_one, hs']
      have : sm'.take n = sm.take n := by
        apply List.ext_getElem?
        intro k
        rw [List.getElem?_take, List.getElem?_take]
        by_cases hk : k < n
        · rw [if_pos hk, if_pos hk]; exact hold k (by omega) (by omega)
        · rw [if_neg hk, if_neg hk]
      rw [this]; rfl
    rw [htk]
    have hst : toSt s' = ⟨s.items, es, doneF g s.items⟩ := by unfold toSt; rw [hit, he, hd]
    cases statesGo g f (n + 1) all' with
    | none => rfl
    | some l => simp [hst]
  · intro k x hk hx2
    by_cases e : k = n
    · subst e
      rw [hs'] at hx2
      injection hx2 with hx2
      subst hx2
      rw [hx, he]
    · rw [hold k e (by omega)] at hx2
      exact h.next k x (by omega) hx2
  · intro k x hk hx2
    by_cases e : k < sm.length
    · rw [hold k (by omega) e] at hx2
      exact h.bare k x (by omega) hx2
    · exact hnew k x (by omega) hx2
theorem MakeI.done {g : Gr} {sm : List SM} (h : MakeI g sm sm.length) : makeF g = some (sm.map toSt) := by
  rw [h.go]
  have := h.many
  obtain ⟨f, hf⟩ : ∃ f, 16385 - sm.length = f + 1 := ⟨16384 - sm.length, by omega⟩
  rw [hf, statesGo, List.getElem?_map, List.getElem?_eq_none (Nat.le_refl _)]
  simp
end Go.Proofs.YtknpkndiflodbaaGreatDoor.Tb
set_option linter.unusedVariables false
set_option linter.unusedSimpArgs false
namespace Go.Proofs.YtknpkndiflodbaaGreatDoor.Tb
open Go Go.RowKit Go.Proofs Mx
/-- The productions of a sort among the first i. -/
def ofT (g : Gr) (i : Nat) (s : Int) : List Nat := (List.range i).filter fun n => match g.prods[n]? with | some p => p.left == s && p.role != 11 | none => false
theorem ofT_all (g : Gr) (s : Int) : ofT g g.prods.length s = ofS g s := rfl
theorem ofT_succ (g : Gr) (i : Nat) (s : Int) (p : Pr) (h : g.prods[i]? = some p) : ofT g (i + 1) s = ofT g i s ++ (if p.left = s ∧ p.role ≠ 11 then [i] else []) := by
  unfold ofT
  rw [List.range_succ, List.filter_append, List.filter_cons, List.filter_nil, h]
  by_cases h1 : p.left = s <;> by_cases h2 : p.role = 11 <;> simp [h1, h2]
theorem ofT_len (g : Gr) (i : Nat) (s : Int) : (ofT g i s).length ≤ i := Nat.le_trans (List.length_filter_le _ _) (by simp)
/-- ob: the block of the sorts' rows; B: from there on the rows lie. -/
structure OfG (g : Gr) (B ob i : Nat) (gv : Nat → Value) (W : World) : Prop where
  blk : Blk W ob 68 ((List.range g.sorts.length).map gv).toArray
  row : ∀ s, s < g.sorts.length → W.ownsRow B 3 1 (gv s) (ofT g i (s : Int)).length (flatK encN (ofT g i (s : Int)))
  apart : ∀ s t, s < g.sorts.length → t < g.sorts.length → s ≠ t → ∀ x, (gv s).ownBlock = some x → (gv t).ownBlock ≠ some x
  low : ob < B
theorem OfG.below {g : Gr} {B ob i : Nat} {gv : Nat → Value} {W W' : World} (h : OfG g B ob i gv W) (hb : Below W.heap.size W W') : OfG g B ob i gv W' :=
  ⟨h.blk.below hb h.blk.lt, fun s hs => row_below (h.row s hs) hb, h.apart, h.low⟩
theorem OfG.grown {g : Gr} {B ob i : Nat} {gv : Nat → Value} {W W' : World} (h : OfG g B ob i gv W) {B' n z : Nat} {e : TypeId} {v : Value} {xs : List Value} (ho : W.ownsRow B' e z v n xs) (he : 68 ≠ e ∧ 3 ≠ e) (hg : W.grownBy W' v.ownBlock) : OfG g B ob i gv W' :=
  ⟨h.blk.grown hg (blk_ne_row h.blk ho he.1), fun s hs => (h.row s hs).kept hg (row_ne_row (h.row s hs) ho he.2), h.apart, h.low⟩
theorem OfG.start {g : Gr} {B ob : Nat} {W : World} (h : Blk W ob 68 ((List.range g.sorts.length).map (fun _ => Value.slice none 0 0)).toArray) (hl : ob < B) : OfG g B ob 0 (fun _ => .slice none 0 0) W :=
  ⟨h, fun s _ => ⟨rfl, .inl ⟨rfl, rfl⟩⟩, (fun s t _ _ _ x hx => by cases hx), hl⟩
theorem OfG.skip {g : Gr} {B ob i : Nat} {gv : Nat → Value} {W : World} (h : OfG g B ob i gv W) {p : Pr} (hp : g.prods[i]? = some p) (hr : p.role = 11) : OfG g B ob (i + 1) gv W :=
  ⟨h.blk, (fun s hs => by rw [ofT_succ g i s p hp, if_neg (by simp [hr]), List.append_nil]; exact h.row s hs), h.apart, h.low⟩
/-- One production more: its sort's row has grown, and is stored. -/
theorem OfG.push {g : Gr} {B ob i : Nat} {gv : Nat → Value} {W W1 : World} (h : OfG g B ob i gv W) {p : Pr} (hp : g.prods[i]? = some p) (hr : p.role ≠ 11) {s : Nat} (hs : s < g.sorts.length) (hps : p.left = (s : Int))
    (hg : W.grownBy W1 (gv s).ownBlock) {v' : Value} (hrow : W1.ownsRow B 3 1 v' ((ofT g i (s : Int)).length + 1) (flatK encN (ofT g i (s : Int)) ++ encN i)) (hnew : ∀ b, v'.ownBlock = some b → (gv s).ownBlock = some b ∨ W.heap.size ≤ b) :
    OfG g B ob (i + 1) (fun t => if t = s then v' else gv t) (W1.setCell ⟨ob, s, none⟩ v') := by
  have hlt : ∀ t, t < g.sorts.length → ∀ b, (gv t).ownBlock = some b → B ≤ b ∧ b < W.heap.size := fun t ht b hb => ⟨(own_ty (h.row t ht) b hb).1, ((h.row t ht).lt b hb).2⟩
  have hob1 : Blk W1 ob 68 ((List.range g.sorts.length).map gv).toArray := h.blk.grown hg (by intro e; have := (hlt s hs ob e.symm).1; have := h.low; omega)
  have hkeep : ∀ {t : TypeId} {z n : Nat} {u : Value} {xs : List Value}, W1.ownsRow B t z u n xs → (W1.setCell ⟨ob, s, none⟩ v').ownsRow B t z u n xs := fun hu =>
    hu.kept (grown_set (grown_refl W1 (some ob)) (p := ⟨ob, s, none⟩) rfl v') (row_ne_low hu h.low)
  refine ⟨?_, ?_, ?_, h.low⟩
  · have h1 := hob1.set_ s v'
    have e : (((List.range g.sorts.length).map gv).toArray.setIfInBounds s v') = ((List.range g.sorts.length).map (fun t => if t = s then v' else gv t)).toArray := by
      rw [List.setIfInBounds_toArray]
      congr 1
      apply List.ext_getElem?
      intro k
      by_cases hk : k < g.sorts.length
      · by_cases e : k = s
        · subst e; rw [List.getElem?_set_self (by simpa using hk)]; simp [hk]
        · rw [List.getElem?_set_ne (Ne.symm e)]; simp [hk, e]
      · rw [List.getElem?_eq_none (by simp; omega), List.getElem?_eq_none (by simp; omega)]
    rw [← e]; exact h1
  · intro t ht
    rw [ofT_succ g i t p hp]
    by_cases e : t = s
    · subst e
      have e1 : (if p.left = (t : Int) ∧ p.role ≠ 11 then [i] else []) = [i] := if_pos ⟨hps, hr⟩
      rw [e1, List.length_append, ← flatK_snoc, if_pos rfl]
      exact hkeep hrow
    · have e1 : (if p.left = (t : Int) ∧ p.role ≠ 11 then [i] else []) = [] := if_neg (by rw [hps]; rintro ⟨h, _⟩; omega)
      rw [e1, List.append_nil, if_neg e]
      refine hkeep ((h.row t ht).kept hg ?_)
      cases hb : (gv t).ownBlock with
      | none => exact .inl rfl
      | some b => exact .inr (fun e2 => h.apart t s ht hs e b hb e2.symm)
  · intro a t ha ht hne x hx
    by_cases e1 : a = s
    · subst e1
      have e2 : t ≠ a := Ne.symm hne
      rw [if_pos rfl] at hx
      rw [if_neg e2]
      rcases hnew x hx with h3 | h3
      · exact h.apart a t ha ht hne x h3
      · intro h4; have := (hlt t ht x h4).2; omega
    · rw [if_neg e1] at hx
      by_cases e2 : t = s
      · subst e2
        rw [if_pos rfl]
        intro h4
        rcases hnew x h4 with h3 | h3
        · exact h.apart a t ha ht hne x hx h3
        · have := (hlt a ha x hx).2; omega
      · rw [if_neg e2]; exact h.apart a t ha ht hne x hx
theorem OfG.at_ {g : Gr} {B ob i : Nat} {gv : Nat → Value} {W : World} (h : OfG g B ob i gv W) {s : Nat} (hs : s < g.sorts.length) : W.cell? ⟨ob, s, none⟩ = some (gv s) := by
  rw [h.blk.cell s]
  simp [hs]
/-- All collected. -/
theorem OfG.done {g : Gr} {B ob : Nat} {gv : Nat → Value} {W : World} (h : OfG g B ob g.prods.length gv W) (hl : g.sorts.length ≤ maxLen) {D : Nat → Prop} (hD : ∀ b, b = ob ∨ (B ≤ b ∧ ∃ c fz, W.heap[b]? = some (.cells c 3 fz)) → D b) :
    OfAt D W (.slice (some ⟨ob, 0, none⟩) g.sorts.length g.sorts.length) g := by
  refine ⟨(List.range g.sorts.length).map (fun s => (gv s, ofS g (s : Int))), ⟨⟨some ⟨ob, 0, none⟩, g.sorts.length, by simp, by simp, hl, fun _ => ⟨ob, 0, rfl, hD ob (.inl rfl), h.blk.lt, ?_⟩⟩, ?_⟩, by simp, ?_⟩
  · intro s x hx j u hu
    have hs : s < g.sorts.length := by have := (List.getElem?_eq_some_iff.1 hx).1; simpa using this
    have hx2 : x = (gv s, ofS g (s : Int)) := by simp [hs] at hx; exact hx.symm
    subst hx2
    have hj : j = 0 ∧ u = gv s := by
      match j, hu with
      | 0, hu => exact ⟨rfl, by simpa [encOf] using hu.symm⟩
    obtain ⟨rfl, rfl⟩ := hj
    rw [Nat.zero_add, Nat.mul_one, Nat.add_zero]
    exact h.at_ hs
  · intro x hx
    simp only [List.mem_map, List.mem_range] at hx
    obtain ⟨s, hs, rfl⟩ := hx
    exact (own_sliceT encN_len (h.row s hs)).imp (fun b hb _ => hD b (.inr hb))
  · intro s x hx
    have hs : s < g.sorts.length := by have := (List.getElem?_eq_some_iff.1 hx).1; simpa using this
    simp [hs] at hx
    rw [← hx]
end Go.Proofs.YtknpkndiflodbaaGreatDoor.Tb
set_option linter.unusedVariables false
set_option linter.unusedSimpArgs false
namespace Go.Proofs.YtknpkndiflodbaaGreatDoor.Tb
open Go Go.RowKit Go.Proofs Mx
theorem catch_idle (p q : Addr) (w : World) :
    CallsD Tryz.prog 34 #[.pointer (some p), .pointer (some q)] .returning w fun e u' w' => e = .returned (.tuple #[]) ∧ u' = .returning ∧ w' = w := by
  refine callsD_of_wpS Tryz.func34 rfl fun c₀ cs hu => ?_
  apply wpS_seq
  apply wpS_region
  simp [wpOpsS, go_sem, recoverD, hu, Tryz.ntmps34, Exit.thenS]
  refine wpS_of_wp ?_
  go_wp2
  cases c₀
  simp_all [bodyPostS, results, Tryz.results34]
set_option maxRecDepth 100000 in
set_option maxHeartbeats 1000000 in
theorem catch_full (a b : Nat) (older : List PanicEntry) (w : World) (ha : Blk w a 40 #[.pointer none]) (hb : Blk w b 41 #[.int .i64 0]) (hab : a ≠ b) :
    CallsD Tryz.prog 34 #[.pointer (some ⟨a, 0, none⟩), .pointer (some ⟨b, 0, none⟩)] (.panicking ({ v := .iface 89 (.agg #[]), recovered := false } :: older)) w fun e u' w' =>
      e = .returned (.tuple #[]) ∧ u' = .panicking ({ v := .iface 89 (.agg #[]), recovered := true } :: older) ∧
      w' = ((w.setCell ⟨a, 0, none⟩ (.pointer none)).setCell ⟨b, 0, none⟩ (.int .i64 3)).alloc (.cells #[] 89) := by
  obtain ⟨a0, af⟩ := ha.facts1
  obtain ⟨b0, bf⟩ := hb.facts1
  have haw := ha.lt
  have hbw := hb.lt
  refine callsD_of_wpS Tryz.func34 rfl fun c₀ cs hu => ?_
  apply wpS_seq
  apply wpS_region
  simp [wpOpsS, go_sem, recoverD, hu, Tryz.ntmps34, Exit.thenS]
  refine wpS_of_wp ?_
  have hta : ∀ (v : Value) (w : World), (Instr.typeAssert (.iface 89 v) 20 89 true).run Tryz.prog w = .ok (.tuple #[v, .bool true]) w := fun _ _ => by kernel_rfl
  rw [show (#[Value.pointer (some ⟨a, 0, none⟩), Value.pointer (some ⟨b, 0, none⟩)] ++ (Array.replicate 9 undef).setIfInBounds 3 (Value.iface 89 (Value.agg #[])) : Array Value) = #[Value.pointer (some ⟨a, 0, none⟩), Value.pointer (some ⟨b, 0, none⟩), undef, undef, undef, Value.iface 89 (Value.agg #[]), undef, undef, undef, undef, undef] from rfl]
  go_wp2
  simp [bodyPostS, results, Tryz.results34]
end Go.Proofs.YtknpkndiflodbaaGreatDoor.Tb
