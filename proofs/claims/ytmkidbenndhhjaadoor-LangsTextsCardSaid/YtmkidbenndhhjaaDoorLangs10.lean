/-
  WALKS: langs.Names.
-/
import Derived.Test.YtmkidbenndhhjaaDoorLangs9
set_option linter.unusedVariables false
set_option linter.unusedSimpArgs false
namespace Go.Proofs.YtmkidbenndhhjaaDoor.Lx
open Go.RowKit Go.Proofs Mx Bx Go.Shelf
attribute [local go_sem] Oper.semAt_some

theorem blk_kept {W W' : World} {row : Option Nat} {g : Nat} {t : TypeId} {cs : Array Value} (h : Blk W g t cs) (hg : W.grownBy W' row) (hrow : ∀ r, row = some r → ∃ o : Obj, W.heap[r]? = some o ∧ o.isCells = false) : Blk W' g t cs :=
  (grownBy_keeps_cells hg hrow h rfl).trans h
theorem row_kept {W W' : World} {row : Option Nat} {B : Nat} {e : TypeId} {v : Value} {n : Nat} {xs : List Value} (h : W.ownsRow B e 1 v n xs) (hg : W.grownBy W' row) (hrow : ∀ r, row = some r → ∃ o : Obj, W.heap[r]? = some o ∧ o.isCells = false) : W'.ownsRow B e 1 v n xs := by
  rcases h with ⟨h1, h2 | ⟨g, cap, cur, hv, hB, hh, r⟩⟩
  · exact ⟨h1, .inl h2⟩
  · exact ⟨h1, .inr ⟨g, cap, cur, hv, hB, (grownBy_keeps_cells hg hrow hh rfl).trans hh, r⟩⟩

noncomputable def namesL (k : Nat) : List Value := (List.range k).map fun i => .string (nameK i)
theorem namesL_succ (k : Nat) : namesL (k + 1) = namesL k ++ [.string (nameK k)] := by simp [namesL, List.range_succ]
theorem namesL_length (k : Nat) : (namesL k).length = k := by simp [namesL]
theorem infoString : (Tryd.prog.info? 9).map (fun i => (i.zero, i.size, i.bytes)) = some (some (.string ⟨#[]⟩), 1, 16) := by kernel_rfl

/-- Between two rounds: the box of l, the row that it owns. -/
def NamesI (w : World) (k : Nat) (W : World) : Prop :=
  (∃ v, Blk W w.heap.size 24 #[v] ∧ W.ownsRow w.heap.size 9 1 v k (namesL k)) ∧ Below w.heap.size w W

set_option maxRecDepth 100000 in
set_option maxHeartbeats 1000000 in
theorem names_any (w : World) (hT : Tab w) (hg : 0 < w.heap.size) :
    Calls Tryd.prog 13 #[] w fun e w' => ∃ v, e = .returned v ∧ w'.ownsRow w.heap.size 9 1 v 3 (namesL 3) ∧ Below w.heap.size w w' := by
  refine (callsIn_wide (n := 5)).1 ?_
  have hro : Fence.wide.round = none := rfl
  refine callsIn_of_wp_marks Tryd.func13 rfl trivial ?_ hro
  simp only [Tryd.ntmps13, List.size_toArray, List.length_cons, List.length_nil, Nat.reduceAdd, Nat.reduceSub, Array.replicate_succ, Array.replicate_zero, List.push_toArray, List.append_toArray, List.nil_append, List.cons_append]
  gi_wp2_with (refine ⟨trivial, ?_⟩; gi_at_call 15; refine (callsIn_mk (all_any _)).mono ?_; rintro e w1 ⟨rfl, rfl⟩)
  have hB0 : Below w.heap.size w (w.alloc (.cells #[.slice none 0 0] 24)) := (Below.refl _ w).alloc (Nat.le_refl _) _
  refine wpIn_rangeFunc_ownO hro (by decide) (gf := 31) (lb := #[]) rfl trivial (enters_of Tryd.func31 (by kernel_rfl) rfl)
    (iter_any 4 w.heap.size (by decide) _ (hT.below hB0 hg) hg hB0.size) belowK_t (belowK_b hB0.size) (Below.refl _ _) (fun _ _ => rfl)
    (NamesI w) (fun _ _ _ => False)
    (OwnFrom.and (Own.from (fun s A B row ⟨v, h1, h2⟩ hg hr => ⟨v, blk_kept h1 hg hr, row_kept h2 hg hr⟩) _) (ownFrom_below (Nat.le_refl _) (by simp)))
    (fun _ _ _ _ _ hs _ _ => hs)
    ⟨⟨_, Blk.new _ _ _, World.ownsRow_nil _ _ _ _⟩, hB0⟩
    (fun k => { tmps := #[.slice none 0 0, .pointer (some ⟨w.heap.size, 0, none⟩), .string (nameK k), .func (.func 31) #[] #[], .string (nameK k), .string (textK k), undef, undef, undef, undef, undef], defers := [] }) ?assign ?body ?done ?stop
  case assign =>
    intro l k W K hk hK
    gi_wp2
    exact hK
  case body =>
    rintro l k W ⟨⟨v, hb, hrow⟩, hB⟩ hk
    obtain ⟨i0, hi, hz0, hz1, hz2⟩ := info_parts infoString
    have hv : Boxed W w.heap.size 24 v := hb
    clear hb
    have hc := hv.cell
    have hle := hB.size
    gi_wp2_with (gi_at_builtin; refine wpListIn_append_own _ rfl _ _ 24 rfl w.heap.size 9 i0 (.string ⟨#[]⟩) 1 16 Tryd.underlying24 hi hz0 hz1 hz2 rfl (by decide) _ _ _ rfl (hrow.alloc _) ⟨W.heap.size, 0, none⟩ 1 1 [.string (nameK k)] rfl rfl (cell_one_new _ _ _) (by simp [Value.oneCell']) (by unfold maxLen; omega) (by omega) (by have := hB.size; simp; omega) ?_; intro v' w1 hown' hgrow _; obtain ⟨g', cap', rfl⟩ := ownsRow_succ hown'; obtain ⟨hv1, hv2, hr2, hk2, hb2⟩ := hv.appended (by decide) hrow hle (Nat.le_refl _) hown' hgrow; have hc1 := hv1.cell; have hf1 := hv1.frozen)
    exact ⟨hk2, hb2, ⟨_, hv2, by rw [namesL_succ]; exact hr2⟩, hB.trans hb2⟩
  case done =>
    rintro D W hD ⟨⟨v, hb, hrow⟩, hB⟩ hK
    have hc := hb.cell 0
    gi_wp2
    refine ⟨by simp, .inl ⟨_, _, rfl, run_takeDeferred hK, ?_⟩⟩
    exact ⟨_, results_tmp rfl _ _ _, v, rfl, ownsRow_putObj hrow _ hK rfl, hB.trans (belowK_b (w := w) (Nat.le_refl _) W D _ _ (by simp at hD; omega) hK rfl rfl)⟩
  case stop =>
    rintro D c pre W _ _ h _
    exact h.elim
end Go.Proofs.YtmkidbenndhhjaaDoor.Lx
