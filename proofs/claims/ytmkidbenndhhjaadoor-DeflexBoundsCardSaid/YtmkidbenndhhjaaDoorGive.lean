/-
  WALKS: the closures of Lex and All that put a word behind the others.
-/
import Derived.Test.YtmkidbenndhhjaaDoorWord3
set_option linter.unusedVariables false
set_option linter.unusedSimpArgs false
namespace Go.Proofs.YtmkidbenndhhjaaDoor.Dx
open Go.RowKit Go.Proofs Mx

theorem infoWord : (Tryd.prog.info? 51).map (fun i => (i.zero, i.size, i.bytes)) = some (some (.agg zeroC), 8, 72) := by kernel_rfl
def wcells : List (Nat × Wd) → List Value
  | [] => []
  | (p, v) :: t => (wdC (p : Int) v).toList ++ wcells t
theorem wcells_length (l : List (Nat × Wd)) : (wcells l).length = l.length * 8 := by
  induction l with
  | nil => rfl
  | cons p t ih => obtain ⟨a, b⟩ := p; simp only [wcells, List.length_append, List.length_cons, ih]; simp [wdC]; omega
theorem wcells_append (l : List (Nat × Wd)) (p : Nat) (v : Wd) : wcells l ++ (wdC (p : Int) v).toList = wcells (l ++ [(p, v)]) := by
  induction l with
  | nil => simp [wcells]
  | cons q t ih => obtain ⟨c, d⟩ := q; simp only [wcells, List.cons_append, List.append_assoc, ih]
theorem own_slice {w : World} {base : Nat} {e : TypeId} {size : Nat} {v : Value} {n : Nat} {xs : List Value} (h : w.ownsRow base e size v n xs) : ∃ a k c, v = .slice a k c := by
  rcases h.2 with ⟨rfl, _⟩ | ⟨g, cap, cur, rfl, _⟩
  · exact ⟨_, _, _, rfl⟩
  · exact ⟨_, _, _, rfl⟩
/-- The state of a reading: the words so far (at v, told in the variable c), the reader's text and place. -/
structure LS (w0 wb wr : World) (g c : Nat) (s : ByteArray) (i : Nat) (ws : List (Nat × Wd)) (v : Value) : Prop where
  own : wr.ownsRow (g + 1) 51 8 v ws.length (wcells ws)
  cell : Blk wr c 36 #[v]
  rd : Rd wr g s i
  bel : Below w0.heap.size w0 wr
  low : w0.heap.size ≤ c
  lt : c < g
  keep : ∀ k, k < g → k ≠ c → wr.heap[k]? = wb.heap[k]?
theorem LS.drewN {w0 wb wr : World} {g c : Nat} {s : ByteArray} {i : Nat} {ws : List (Nat × Wd)} {v : Value} (h : LS w0 wb wr g c s i ws v) (n : Nat) : LS w0 wb (wr.drewN n) g c s i ws v :=
  ⟨h.own.kept (row := none) ⟨rfl, rfl, rfl, Nat.le_refl _, fun _ _ _ => rfl⟩ (by cases hv : v.ownBlock <;> simp), h.cell, h.rd, Mx.below_drewN h.bel n, h.low, h.lt, h.keep⟩
theorem LS.grown {w0 wb wr w2 : World} {g c : Nat} {s : ByteArray} {i j : Nat} {ws : List (Nat × Wd)} {v : Value} (h : LS w0 wb wr g c s i ws v) (hb : wr.grownBy w2 (some g)) (hR : Rd w2 g s j) : LS w0 wb w2 g c s j ws v :=
  ⟨h.own.kept hb (.inr fun e => by have := (h.own.lt g e).1; omega), h.cell.grown hb (by have := h.lt; intro e; injection e with e; omega), hR,
   h.bel.trans ((below_of_grown hb (by have := h.low; have := h.lt; have := h.rd.lt; omega) (Nat.le_trans h.low (Nat.le_of_lt h.lt)))), h.low, h.lt, fun k hk hc => (hb.block k (Nat.lt_trans hk h.rd.lt) (by intro e; injection e with e; omega)).trans (h.keep k hk hc)⟩
theorem LS.append {w0 wb wr w2 : World} {g c : Nat} {s : ByteArray} {i : Nat} {ws : List (Nat × Wd)} {v v' : Value} {p : Nat} {x : Wd} {o1 o2 : Obj} (h : LS w0 wb wr g c s i ws v)
    (hown : w2.ownsRow (g + 1) 51 8 v' (ws.length + 1) (wcells ws ++ (wdC (p : Int) x).toList)) (hgrow : ((wr.alloc o1).alloc o2).grownBy w2 v.ownBlock) :
    LS w0 wb (w2.setCell ⟨c, 0, none⟩ v') g c s i (ws ++ [(p, x)]) v' := by
  have hne : ∀ b, v.ownBlock = some b → g + 1 ≤ b := fun b hb => (h.own.lt b hb).1
  have hlt := h.lt
  have hlow := h.low
  have hcw := h.cell.lt
  have hc2 : Blk w2 c 36 #[v] := ((h.cell.alloc o1).alloc o2).grown hgrow (by intro e; have := hne c e.symm; omega)
  have hr2 : Rd w2 g s i := ((h.rd.alloc o1).alloc o2).grown hgrow (by intro e; have := hne g e.symm; omega)
  have hb2 : Below w0.heap.size w0 w2 := ((h.bel.alloc h.bel.size o1).alloc (by have := h.bel.size; simp; omega) o2).grown hgrow (by have := h.bel.size; simp; omega) (fun k hk => by have := hne k hk; omega)
  have hgw := h.rd.lt
  have hkeep : ∀ k, k < g → k ≠ c → (w2.setCell ⟨c, 0, none⟩ v').heap[k]? = wb.heap[k]? := fun k hk hc => by
    rw [Below.heap_setCell w2 ⟨c, 0, none⟩ v' k hc, hgrow.block k (by simp; omega) (by intro e; have := hne k e.symm; omega), Below.heap_alloc _ _ k (by simp; omega), Below.heap_alloc _ _ k (by omega)]
    exact h.keep k hk hc
  refine ⟨?_, hc2.set_ 0 v', hr2.far (p := ⟨c, 0, none⟩) (by simp; omega) _, hb2.setCell (p := ⟨c, 0, none⟩) hlow _, hlow, hlt, hkeep⟩
  rw [wcells_append] at hown
  have hown' : w2.ownsRow (g + 1) 51 8 v' (ws ++ [(p, x)]).length (wcells (ws ++ [(p, x)])) := by simpa using hown
  exact ownsRow_setCell_below hown' (show c < g + 1 by omega) _

set_option maxRecDepth 100000 in
set_option maxHeartbeats 2000000 in
theorem give_lex (w0 wb : World) (g c : Nat) (s : ByteArray) (i : Nat) (ws : List (Nat × Wd)) (v : Value) (p : Nat) (x : Wd) (wr : World) (hS : LS w0 wb wr g c s i ws v) (hl : ws.length ≤ 400000000) :
    Calls Tryd.prog 39 #[wdV (p : Int) x, .pointer (some ⟨c, 0, none⟩)] wr fun e w' => e = .returned (.bool true) ∧ ∃ v', LS w0 wb w' g c s i (ws ++ [(p, x)]) v' := by
  obtain ⟨i0, hi, hz0, hz1, hz2⟩ := info_parts infoWord
  have c0 : wr.cell? ⟨c, 0, none⟩ = some v := hS.cell.cell 0
  have cf := hS.cell.frozen
  have hcw := hS.cell.lt
  have hgw := hS.rd.lt
  have HS := Lib.hid hS
  clear hS
  unfold wdV wdC
  go_enter Tryd.func39, Tryd.ntmps39
  go_wp2_with (at_builtin; refine wpList_append_own _ rfl _ _ 36 rfl (g + 1) 51 i0 (.agg zeroC) 8 72 Tryd.underlying36 hi hz0 hz1 hz2 rfl (by decide) _ _ _ rfl ((HS.out.own.alloc _).alloc _) ⟨wr.heap.size + 1, 0, none⟩ 1 1 [.int .i64 x.kind, .int .i64 (p : Int), .string ⟨x.text.toArray⟩, .int .u64 (wd x.set 0), .int .u64 (wd x.set 1), .int .u64 (wd x.set 2), .int .u64 (wd x.set 3), .int .i64 x.num] rfl rfl ?c1 ?c2 ?c3 ?c4 ?c5 ?_)
  case c1 =>
    intro j u hj
    match j, hj with
    | 0, hj => simp at hj; subst hj; exact (Blk.new_ (by simp) _ _).cell 0
    | 1, hj => simp at hj; subst hj; exact (Blk.new_ (by simp) _ _).cell 1
    | 2, hj => simp at hj; subst hj; exact (Blk.new_ (by simp) _ _).cell 2
    | 3, hj => simp at hj; subst hj; exact (Blk.new_ (by simp) _ _).cell 3
    | 4, hj => simp at hj; subst hj; exact (Blk.new_ (by simp) _ _).cell 4
    | 5, hj => simp at hj; subst hj; exact (Blk.new_ (by simp) _ _).cell 5
    | 6, hj => simp at hj; subst hj; exact (Blk.new_ (by simp) _ _).cell 6
    | 7, hj => simp at hj; subst hj; exact (Blk.new_ (by simp) _ _).cell 7
  case c2 => intro u hu; simp at hu; rcases hu with rfl | rfl | rfl | rfl | rfl | rfl | rfl | rfl <;> rfl
  case c3 => unfold maxLen; omega
  case c4 => omega
  case c5 => simp; omega
  intro v' w3 hown' hgrow _
  obtain ⟨sa, sn, sc, rfl⟩ := own_slice hown'
  have hS3 := HS.out.append (p := p) (x := x) hown' hgrow
  have d0 : w3.cell? ⟨c, 0, none⟩ = some v := (((HS.out.cell.alloc _).alloc _).grown hgrow (by intro e; have := (HS.out.own.lt c e.symm).1; have := HS.out.lt; omega)).cell 0
  have df : ∀ i, w3.frozen? ⟨c, i, none⟩ = false := (((HS.out.cell.alloc _).alloc _).grown hgrow (by intro e; have := (HS.out.own.lt c e.symm).1; have := HS.out.lt; omega)).frozen
  have H3 := Lib.hid hS3
  clear hown' hgrow hS3
  go_wp2
  go_ret
  exact ⟨rfl, _, H3.out⟩
set_option maxRecDepth 100000 in
set_option maxHeartbeats 2000000 in
theorem give_all (w0 wb : World) (g c : Nat) (s : ByteArray) (i : Nat) (ws : List (Nat × Wd)) (v : Value) (p : Nat) (x : Wd) (wr : World) (hS : LS w0 wb wr g c s i ws v) (hl : ws.length ≤ 400000000) :
    Calls Tryd.prog 50 #[wdV (p : Int) x, .pointer (some ⟨c, 0, none⟩)] wr fun e w' => e = .returned (.bool true) ∧ ∃ v', LS w0 wb w' g c s i (ws ++ [(p, x)]) v' := by
  obtain ⟨i0, hi, hz0, hz1, hz2⟩ := info_parts infoWord
  have c0 : wr.cell? ⟨c, 0, none⟩ = some v := hS.cell.cell 0
  have cf := hS.cell.frozen
  have hcw := hS.cell.lt
  have hgw := hS.rd.lt
  have HS := Lib.hid hS
  clear hS
  unfold wdV wdC
  go_enter Tryd.func50, Tryd.ntmps50
  go_wp2_with (at_builtin; refine wpList_append_own _ rfl _ _ 36 rfl (g + 1) 51 i0 (.agg zeroC) 8 72 Tryd.underlying36 hi hz0 hz1 hz2 rfl (by decide) _ _ _ rfl ((HS.out.own.alloc _).alloc _) ⟨wr.heap.size + 1, 0, none⟩ 1 1 [.int .i64 x.kind, .int .i64 (p : Int), .string ⟨x.text.toArray⟩, .int .u64 (wd x.set 0), .int .u64 (wd x.set 1), .int .u64 (wd x.set 2), .int .u64 (wd x.set 3), .int .i64 x.num] rfl rfl ?c1 ?c2 ?c3 ?c4 ?c5 ?_)
  case c1 =>
    intro j u hj
    match j, hj with
    | 0, hj => simp at hj; subst hj; exact (Blk.new_ (by simp) _ _).cell 0
    | 1, hj => simp at hj; subst hj; exact (Blk.new_ (by simp) _ _).cell 1
    | 2, hj => simp at hj; subst hj; exact (Blk.new_ (by simp) _ _).cell 2
    | 3, hj => simp at hj; subst hj; exact (Blk.new_ (by simp) _ _).cell 3
    | 4, hj => simp at hj; subst hj; exact (Blk.new_ (by simp) _ _).cell 4
    | 5, hj => simp at hj; subst hj; exact (Blk.new_ (by simp) _ _).cell 5
    | 6, hj => simp at hj; subst hj; exact (Blk.new_ (by simp) _ _).cell 6
    | 7, hj => simp at hj; subst hj; exact (Blk.new_ (by simp) _ _).cell 7
  case c2 => intro u hu; simp at hu; rcases hu with rfl | rfl | rfl | rfl | rfl | rfl | rfl | rfl <;> rfl
  case c3 => unfold maxLen; omega
  case c4 => omega
  case c5 => simp; omega
  intro v' w3 hown' hgrow _
  obtain ⟨sa, sn, sc, rfl⟩ := own_slice hown'
  have hS3 := HS.out.append (p := p) (x := x) hown' hgrow
  have d0 : w3.cell? ⟨c, 0, none⟩ = some v := (((HS.out.cell.alloc _).alloc _).grown hgrow (by intro e; have := (HS.out.own.lt c e.symm).1; have := HS.out.lt; omega)).cell 0
  have df : ∀ i, w3.frozen? ⟨c, i, none⟩ = false := (((HS.out.cell.alloc _).alloc _).grown hgrow (by intro e; have := (HS.out.own.lt c e.symm).1; have := HS.out.lt; omega)).frozen
  have H3 := Lib.hid hS3
  clear hown' hgrow hS3
  go_wp2
  go_ret
  exact ⟨rfl, _, H3.out⟩
end Go.Proofs.YtmkidbenndhhjaaDoor.Dx
