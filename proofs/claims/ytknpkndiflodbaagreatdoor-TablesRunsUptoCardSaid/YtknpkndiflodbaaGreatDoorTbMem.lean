/-
  A GRAMMAR AND A MAKER IN MEMORY.
-/
import Derived.Test.YtknpkndiflodbaaGreatDoorProg
import Derived.Test.YtknpkndiflodbaaGreatDoorTbPureA
import Derived.Test.YtknpkndiflodbaaGreatDoorRowsA
set_option linter.unusedVariables false
namespace Go.Proofs.YtknpkndiflodbaaGreatDoor.Tb
open Go Go.RowKit Go.Proofs Mx
def encIt (x : It) : List Value := [.int .i64 (x.1 : Int), .int .i64 (x.2 : Int)]
theorem encIt_len (x : It) : (encIt x).length = 2 := rfl
theorem encIt_one (x : It) : ∀ v ∈ encIt x, v.oneCell' = true := by intro v hv; simp [encIt] at hv; rcases hv with rfl | rfl <;> rfl
/-- A set's word. -/
def wd (M j : Nat) : Int := ((M / 2 ^ (64 * j) % 18446744073709551616 : Nat) : Int)
def setV (M : Nat) : Value := .agg #[.int .u64 (wd M 0), .int .u64 (wd M 1), .int .u64 (wd M 2), .int .u64 (wd M 3)]
def setC (M : Nat) : Array Value := #[.int .u64 (wd M 0), .int .u64 (wd M 1), .int .u64 (wd M 2), .int .u64 (wd M 3)]
def encSet (M : Nat) : List Value := [.int .u64 (wd M 0), .int .u64 (wd M 1), .int .u64 (wd M 2), .int .u64 (wd M 3)]
theorem encSet_len (M : Nat) : (encSet M).length = 4 := rfl
def encSy (s : Sy) : List Value := [.int .i64 s.kind, .int .u64 (wd s.set 0), .int .u64 (wd s.set 1), .int .u64 (wd s.set 2), .int .u64 (wd s.set 3), .int .i64 s.sort]
theorem encSy_len (s : Sy) : (encSy s).length = 6 := rfl
/-- A production's cells; v: where its right side lies. -/
def encPr (x : Value × Pr) : List Value := [.int .i64 x.2.left, x.1, .string ⟨x.2.cons.toArray⟩, .int .i64 x.2.role, .bool x.2.prefer, .bool x.2.avoid, .int .i64 x.2.made]
theorem encPr_len (x : Value × Pr) : (encPr x).length = 7 := rfl
structure ProdsL (D : Nat → Prop) (w : World) (v : Value) (l : List (Value × Pr)) : Prop where
  row : SliceK D encPr 7 w v l
  right : ∀ x ∈ l, SliceK D encSy 6 w x.1 x.2.right
def ProdsAt (D : Nat → Prop) (w : World) (v : Value) (ps : List Pr) : Prop := ∃ l, ProdsL D w v l ∧ l.map (·.2) = ps
def encN (n : Nat) : List Value := [.int .i64 (n : Int)]
theorem encN_len (n : Nat) : (encN n).length = 1 := rfl
/-- Of each sort its productions. -/
def encOf (x : Value × List Nat) : List Value := [x.1]
structure OfL (D : Nat → Prop) (w : World) (v : Value) (l : List (Value × List Nat)) : Prop where
  row : SliceK D encOf 1 w v l
  each : ∀ x ∈ l, SliceK D encN 1 w x.1 x.2
def OfAt (D : Nat → Prop) (w : World) (v : Value) (g : Gr) : Prop := ∃ l, OfL D w v l ∧ l.length = g.sorts.length ∧ ∀ (s : Nat) (x : Value × List Nat), l[s]? = some x → x.2 = ofS g (s : Int)
/-- What 'closed' reads of a maker: mb: its block. -/
structure MkR (D : Nat → Prop) (w : World) (mb : Nat) (g : Gr) : Prop where
  lt : mb < w.heap.size
  prods : ∃ vp, w.cell? ⟨mb, 1, none⟩ = some vp ∧ ProdsAt D w vp g.prods
  of : ∃ vo, w.cell? ⟨mb, 5, none⟩ = some vo ∧ OfAt D w vo g
/-- What a grammar that was looked through has. -/
structure Good (g : Gr) : Prop where
  prods : g.prods.length ≤ 100
  sorts : g.sorts.length ≤ 1000
  start : 0 ≤ g.start ∧ g.start < g.sorts.length
  left : ∀ p ∈ g.prods, 0 ≤ p.left ∧ p.left < g.sorts.length
  right : ∀ p ∈ g.prods, p.right.length ≤ 30
  sym : ∀ p ∈ g.prods, ∀ s ∈ p.right, (s.kind = 0 ∧ s.sort = 0 ∧ s.set ≠ 0 ∧ s.set < 2 ^ 256) ∨ (s.kind = 1 ∧ s.set = 0 ∧ 0 ≤ s.sort ∧ s.sort < g.sorts.length)
theorem compactIt_nodup : ∀ l : List It, l.Pairwise (fun a b => itLe a b = true) → (compactIt l).Nodup
  | [], _ => List.nodup_nil
  | [x], _ => by simp [compactIt]
  | x :: y :: t, h => by
    rw [compactIt_cons]
    obtain ⟨h1, h2⟩ := List.pairwise_cons.1 h
    have ih := compactIt_nodup (y :: t) h2
    by_cases e : x = y
    · rw [if_pos e]; exact ih
    · rw [if_neg e]
      refine List.nodup_cons.2 ⟨fun hm => ?_, ih⟩
      have hm2 := compactIt_mem _ _ hm
      rcases List.mem_cons.1 hm2 with h3 | h3
      · exact e h3
      · exact e (itLe_anti (h1 y (by simp)) ((List.pairwise_cons.1 h2).1 x h3))
/-- The items of a state are few. -/
theorem closedF_small {g : Gr} (hg : Good g) {l : List It} (h : ∀ x ∈ l, itemOk g x = true) : (closedF g l).length ≤ 3100 := by
  have h1 : (closedF g l).Nodup := compactIt_nodup _ (sortIt_sorted _)
  have h2 := nodup_le (closedF g l) ((List.range 100).flatMap fun n => (List.range 31).map fun d => (n, d)) h1 (fun x hx => by
    have hok := (itemOk_iff g x).1 ((closedF_fits h).2 x hx)
    have h3 : (rightOf g x.1).length ≤ 30 := by
      unfold rightOf
      rw [List.getElem?_eq_getElem hok.1]
      exact hg.right _ (List.getElem_mem _)
    have h4 := hg.prods
    rw [List.mem_flatMap]
    exact ⟨x.1, by simp; omega, by rw [List.mem_map]; exact ⟨x.2, by simp; omega, rfl⟩⟩)
  refine Nat.le_trans h2 ?_
  decide +kernel
section
variable {D D' : Nat → Prop} {w w' : World} {v : Value} {mb : Nat} {g : Gr}
theorem ProdsL.keep {l : List (Value × Pr)} (h : ProdsL D w v l) (hD : ∀ g, D g → g < w.heap.size → D' g ∧ w'.heap[g]? = w.heap[g]?) : ProdsL D' w' v l :=
  ⟨h.row.keep hD, fun x hx => (h.right x hx).keep hD⟩
theorem OfL.keep {l : List (Value × List Nat)} (h : OfL D w v l) (hD : ∀ g, D g → g < w.heap.size → D' g ∧ w'.heap[g]? = w.heap[g]?) : OfL D' w' v l :=
  ⟨h.row.keep hD, fun x hx => (h.each x hx).keep hD⟩
theorem ProdsAt.keep {ps : List Pr} (h : ProdsAt D w v ps) (hD : ∀ g, D g → g < w.heap.size → D' g ∧ w'.heap[g]? = w.heap[g]?) : ProdsAt D' w' v ps := by
  obtain ⟨l, hl, e⟩ := h; exact ⟨l, hl.keep hD, e⟩
theorem OfAt.keep (h : OfAt D w v g) (hD : ∀ g, D g → g < w.heap.size → D' g ∧ w'.heap[g]? = w.heap[g]?) : OfAt D' w' v g := by
  obtain ⟨l, hl, e⟩ := h; exact ⟨l, hl.keep hD, e⟩
theorem MkR.keep (h : MkR D w mb g) (hD : ∀ g, D g → g < w.heap.size → D' g ∧ w'.heap[g]? = w.heap[g]?) (hm : w'.heap.size ≥ w.heap.size) (h1 : w'.cell? ⟨mb, 1, none⟩ = w.cell? ⟨mb, 1, none⟩) (h5 : w'.cell? ⟨mb, 5, none⟩ = w.cell? ⟨mb, 5, none⟩) : MkR D' w' mb g := by
  obtain ⟨hl, ⟨vp, p1, p2⟩, ⟨vo, o1, o2⟩⟩ := h
  exact ⟨Nat.lt_of_lt_of_le hl hm, ⟨vp, h1.trans p1, p2.keep hD⟩, ⟨vo, h5.trans o1, o2.keep hD⟩⟩
theorem MkR.below (h : MkR D w mb g) (hb : Below w.heap.size w w') : MkR D w' mb g :=
  h.keep (fun g hg hl => ⟨hg, hb.block g hl⟩) hb.size (World.cell?_of_block (hb.block mb h.lt)) (World.cell?_of_block (hb.block mb h.lt))
/-- What a production's cells are. -/
theorem MkR.prod (h : MkR D w mb g) {n : Nat} {p : Pr} (hp : g.prods[n]? = some p) : ∃ a cap b o vr, w.cell? ⟨mb, 1, none⟩ = some (.slice (some ⟨b, o, none⟩) g.prods.length cap) ∧ a = b ∧ SliceK D encSy 6 w vr p.right ∧
    (∀ j u, (encPr (vr, p))[j]? = some u → w.cell? ⟨b, o + n * 7 + j, none⟩ = some u) := by
  obtain ⟨vp, p1, l, hl, e⟩ := h.prods
  have hlen : l.length = g.prods.length := by rw [← e]; simp
  have hn := (List.getElem?_eq_some_iff.1 hp).1
  have hx : ∃ vr, l[n]? = some (vr, p) := by
    rw [← e, List.getElem?_map] at hp
    cases hq : l[n]? with
    | none => rw [hq] at hp; simp at hp
    | some q => rw [hq] at hp; simp at hp; exact ⟨q.1, by rw [← hp]⟩
  obtain ⟨vr, hx⟩ := hx
  obtain ⟨a, cap, rfl, hc1, hc2, hK⟩ := hl.row
  obtain ⟨b, o, rfl, hDb, hr⟩ := hK (by rintro rfl; simp at hx)
  rw [hlen] at p1
  exact ⟨b, cap, b, o, vr, p1, rfl, hl.right _ (List.mem_of_getElem? hx), fun j u hu => hr.cells n _ hx j u hu⟩
end
end Go.Proofs.YtknpkndiflodbaaGreatDoor.Tb
