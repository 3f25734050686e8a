/-
  WALKS: the law's goes.
-/
import Derived.Test.YtmkidbenndhhjaaDoorLangs10
set_option linter.unusedVariables false
set_option linter.unusedSimpArgs false
namespace Go.Proofs.YtmkidbenndhhjaaDoor.Lx
open Go.RowKit Go.Proofs Mx Bx Go.Shelf
attribute [local go_sem] Oper.semAt_some

theorem ne_4_11 : (cs 4).toList ≠ (cs 11).toList := by decide +kernel
theorem ne_4_18 : (cs 4).toList ≠ (cs 18).toList := by decide +kernel
theorem ne_11_18 : (cs 11).toList ≠ (cs 18).toList := by decide +kernel
theorem textS_nameK (k : Nat) (hk : k < 3) : textS (nameK k) = textK k := by
  match k, hk with
  | 0, _ => simp [nameK, textS, textK]
  | 1, _ => simp [nameK, textS, textK, ne_4_11]
  | 2, _ => simp [nameK, textS, textK, ne_4_18, ne_11_18]

noncomputable def names3 : Array Value := #[.string (nameK 0), .string (nameK 1), .string (nameK 2)]
theorem names3_at (k : Nat) (hk : k < 3) : names3[k]? = some (.string (nameK k)) := by
  match k, hk with
  | 0, _ => rfl
  | 1, _ => rfl
  | 2, _ => rfl
theorem names3_eq : (#[.string (cs 4), .string (cs 11), .string (cs 18)] : Array Value) = names3 := by simp [names3, nameK]

theorem func_eql (w : World) : (binOp .eql 29 (.func (.func 31) #[] #[]) .nilFunc).run Tryd.prog w = .ok (.bool false) w := by kernel_rfl
theorem func_neq (w : World) : (binOp .neq 29 (.func (.func 31) #[] #[]) .nilFunc).run Tryd.prog w = .ok (.bool true) w := by kernel_rfl

def GoesI (w : World) (leave : Int) (k : Nat) (W : World) : Prop :=
  (Boxed W w.heap.size 3 (.int .i64 leave) ∧ Boxed W (w.heap.size + 1) 4 (.bool false) ∧ Blk W (w.heap.size + 1 + 1) 9 names3 ∧
    Boxed W (w.heap.size + 1 + 1 + 1) 24 (.slice (some ⟨w.heap.size + 1 + 1, 0, none⟩) 3 3) ∧ Boxed W (w.heap.size + 1 + 1 + 1 + 1) 3 (.int .i64 (k : Int))) ∧ Below w.heap.size w W
def GoesX (w : World) (c : Code) (k : Nat) (W : World) : Prop :=
  (c = .ret ∧ W.cell? ⟨w.heap.size + 1, 0, none⟩ = some (.bool true)) ∧ Below w.heap.size w W

theorem boxed_kept {W W' : World} {row : Option Nat} {g : Nat} {t : TypeId} {v : Value} (h : Boxed W g t v) (hg : W.grownBy W' row) (hrow : ∀ r, row = some r → ∃ o : Obj, W.heap[r]? = some o ∧ o.isCells = false) : Boxed W' g t v :=
  (grownBy_keeps_cells hg hrow h rfl).trans h

set_option maxRecDepth 100000 in
set_option maxHeartbeats 1000000 in
theorem goes_any (leave : Int) (w : World) (hT : Tab w) (hg : 0 < w.heap.size) :
    Calls Tryd.prog 16 #[.func (.func 31) #[] #[], .int .i64 leave] w fun e w' => e = .returned (.bool true) ∧ Below w.heap.size w w' := by
  refine (callsIn_wide (n := 5)).1 ?_
  have hro : Fence.wide.round = none := rfl
  refine callsIn_of_wp_marks Tryd.func16 rfl trivial ?_ hro
  simp only [Tryd.ntmps16, List.size_toArray, List.length_cons, List.length_nil, Nat.reduceAdd, Nat.reduceSub, Array.replicate_succ, Array.replicate_zero, List.push_toArray, List.append_toArray, List.nil_append, List.cons_append]
  have hfe := fun w => func_eql w
  gi_wp2_with (refine ⟨trivial, ?_⟩; gi_at_call 14; refine (callsIn_mk (refNames_any _)).mono ?_; rintro e w1 ⟨rfl, hb, hsz, hN⟩)
  clear hfe
  have hsz' : w1.heap.size = w.heap.size + 1 + 1 + 1 := by simpa using hsz
  have b0 : Boxed w1 w.heap.size 3 (.int .i64 leave) := ((Boxed.new w 3 (.int .i64 leave)).alloc _).kept (row := none) ⟨hb.os, hb.tape, hb.output, hb.size, fun k hk _ => hb.block k hk⟩ (by simp)
  have b1 : Boxed w1 (w.heap.size + 1) 4 (.bool false) := by
    have h := (Boxed.new (w.alloc (.cells #[.int .i64 leave] 3)) 4 (.bool false)).kept (row := none) ⟨hb.os, hb.tape, hb.output, hb.size, fun k hk _ => hb.block k hk⟩ (by simp)
    simpa using h
  have b2 : Blk w1 (w.heap.size + 1 + 1) 9 names3 := by rw [names3_eq] at hN; simpa using hN
  have hB1 : Below w.heap.size w w1 := Below.trans (((Below.refl _ w).alloc (Nat.le_refl _) _).alloc (by simp) _) (hb.mono (by simp; omega))
  have b3 := (Boxed.new w1 24 (.slice (some ⟨w.heap.size + 1 + 1, 0, none⟩) 3 3))
  rw [hsz'] at b3
  have b4 := Boxed.new (w1.alloc (.cells #[.slice (some ⟨w.heap.size + 1 + 1, 0, none⟩) 3 3] 24)) 3 (.int .i64 0)
  rw [World.size_alloc, hsz'] at b4
  have hI0 : GoesI w leave 0 ((w1.alloc (.cells #[.slice (some ⟨w.heap.size + 1 + 1, 0, none⟩) 3 3] 24)).alloc (.cells #[.int .i64 0] 3)) :=
    ⟨⟨(b0.alloc _).alloc _, (b1.alloc _).alloc _, (b2.alloc _).alloc _, b3.alloc _, b4⟩, (hB1.alloc hB1.size _).alloc (by rw [World.size_alloc]; have := hB1.size; omega) _⟩
  clear b0 b1 b2 b3 b4 hB1 hb hsz hN
  obtain ⟨w2, hw2⟩ : ∃ w2, (w1.alloc (.cells #[.slice (some ⟨w.heap.size + 1 + 1, 0, none⟩) 3 3] 24)).alloc (.cells #[.int .i64 0] 3) = w2 := ⟨_, rfl⟩
  have hs2 : w2.heap.size = w.heap.size + 1 + 1 + 1 + 1 + 1 := by rw [← hw2]; simp [hsz']
  rw [hw2] at hI0 ⊢
  clear hw2 hsz'
  have hs2' : w.heap.size ≤ w2.heap.size := by omega
  have HS := Lib.hid hs2
  clear hs2
  refine wpIn_rangeFunc_ownO hro (by decide) (gf := 31) (lb := #[]) rfl trivial (enters_of Tryd.func31 (by kernel_rfl) rfl)
    (iter_any 4 w.heap.size (by decide) _ (hT.below hI0.2 hg) hg hs2') belowK_t (belowK_b hs2') (Below.refl _ _) (fun _ _ => rfl)
    (GoesI w leave) (GoesX w)
    (OwnFrom.and (Own.from (fun s A B row ⟨h1, h2, h3, h4, h5⟩ hg hr => ⟨boxed_kept h1 hg hr, boxed_kept h2 hg hr, blk_kept h3 hg hr, boxed_kept h4 hg hr, boxed_kept h5 hg hr⟩) _) (ownFrom_below (Nat.le_refl _) hs2'))
    (fun c => OwnFrom.and (Own.from (fun s A B row hs hg hr => ⟨hs.1, cell_kept hs.2 hg hr⟩) _) (ownFrom_below (Nat.le_refl _) hs2'))
    hI0
    (fun k => { tmps := #[.func (.func 31) #[] #[], .int .i64 leave, undef, .pointer (some ⟨w.heap.size, 0, none⟩), .pointer (some ⟨w.heap.size + 1, 0, none⟩), .pointer (some ⟨w.heap.size + 1 + 1 + 1, 0, none⟩), .pointer (some ⟨w.heap.size + 1 + 1 + 1 + 1, 0, none⟩), .string (nameK k), .string (textK k), .func (.func 31) #[] #[], .bool false, .slice (some ⟨w.heap.size + 1 + 1, 0, none⟩) 3 3, .func (.func 31) #[] #[], .string (nameK k), .string (textK k), undef, undef, undef, undef, undef, undef, undef, undef, undef, undef, undef, undef, undef, undef, undef, undef, undef, undef, undef, undef, undef, undef, undef, undef, undef, undef, undef], defers := [] }) ?assign ?body ?done ?stop
  case assign =>
    intro l k W K hk hK
    gi_wp2
    exact hK
  case body =>
    rintro l k W ⟨⟨h1, h2, h3, h4, h5⟩, hB⟩ hk
    have c1 := h1.cell
    have c2 := h2.cell
    have f2 := h2.frozen
    have c3 := h3.cell k
    rw [names3_at k hk] at c3
    have c4 := h4.cell
    have c5 := h5.cell
    have f5 := h5.frozen
    have ht := textS_nameK k hk
    have hki : (k : Int) < 3 := by omega
    clear hI0
    gi_wp2_with (refine ⟨trivial, ?_⟩; gi_at_call 12; refine (callsIn_mk (refText_any _ _)).mono ?_; rintro e w1 ⟨rfl, rfl⟩)
    · refine ⟨(KeepsOthers.setCell _ _ _).trans (KeepsOthers.setCell _ _ _), ⟨rfl, ?_⟩, (hB.setCell (p := ⟨w.heap.size + 1 + 1 + 1 + 1, 0, none⟩) (by go_size) _).setCell (p := ⟨w.heap.size + 1, 0, none⟩) (by go_size) _⟩
      exact (Boxed.set (.bool true) (h2.kept (grownBy_setCell' W _ _) (by go_size))).cell
    · refine ⟨KeepsOthers.setCell _ _ _, (Below.refl w.heap.size W).setCell (p := ⟨w.heap.size + 1 + 1 + 1 + 1, 0, none⟩) (by go_size) _, ⟨h1.kept (grownBy_setCell' W _ _) (by go_size), h2.kept (grownBy_setCell' W _ _) (by go_size), ?_, h4.kept (grownBy_setCell' W _ _) (by go_size), ?_⟩, hB.setCell (p := ⟨w.heap.size + 1 + 1 + 1 + 1, 0, none⟩) (by go_size) _⟩
      · exact h3.far (by go_size) _
      · have := Boxed.set (.int .i64 ((k : Int) + 1)) h5
        simpa using this
  case done =>
    rintro D W hD ⟨⟨h1, h2, h3, h4, h5⟩, hB⟩ hK
    have c2 := h2.cell
    have f2 := h2.frozen
    have c4 := h4.cell
    have c5 := h5.cell
    have hDs : w.heap.size + 1 ≠ D := by have := HS.out; omega
    gi_wp2
    have hK' := (KeepsOthers.setCell W ⟨w.heap.size + 1, 0, none⟩ (.bool true)).same D _ hK rfl
    have h2' := (Boxed.set (.bool true) h2).cell
    have hc5 := cell_kept h2' (grownBy_putObj' _ D (.deferred none)) (fun r e => by cases e; exact ⟨_, hK', rfl⟩)
    refine ⟨by simp, .inl ⟨_, _, rfl, run_takeDeferred hK', ?_⟩⟩
    refine ⟨.bool true, ?_, rfl, (hB.setCell (p := ⟨w.heap.size + 1, 0, none⟩) (by go_size) _).trans (belowK_b (w := w) (Nat.le_refl _) _ D _ _ (by omega) hK' rfl rfl)⟩
    simp [results, Tryd.f16, go_sem, hc5]
  case stop =>
    rintro D c k W hD _ ⟨⟨rfl, hc⟩, hB⟩ hK
    gi_wp2
    have hc5 := cell_kept hc (grownBy_putObj' _ D (.deferred none)) (fun r e => by cases e; exact ⟨_, hK, rfl⟩)
    refine ⟨by simp, .inl ⟨_, _, rfl, run_takeDeferred hK, ?_⟩⟩
    refine ⟨.bool true, ?_, rfl, hB.trans (belowK_b (w := w) (Nat.le_refl _) W D _ _ (by omega) hK rfl rfl)⟩
    simp [results, Tryd.f16, go_sem, hc5]
end Go.Proofs.YtmkidbenndhhjaaDoor.Lx
