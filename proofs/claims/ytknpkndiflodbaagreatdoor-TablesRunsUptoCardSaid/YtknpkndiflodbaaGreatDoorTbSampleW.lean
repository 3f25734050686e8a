/-
  WALKS: the sample grammar.
-/
import Derived.Test.YtknpkndiflodbaaGreatDoorTbRefA
import Derived.Test.YtknpkndiflodbaaGreatDoorTbMem
import Derived.Test.YtknpkndiflodbaaGreatDoorTbPureA
import Derived.Test.YtknpkndiflodbaaGreatDoorTbCheckA
import Derived.Test.YtknpkndiflodbaaGreatDoorRowsA
set_option linter.unusedVariables false
set_option linter.unusedSimpArgs false
namespace Go.Proofs.YtknpkndiflodbaaGreatDoor.Tb
open Go Go.RowKit Go.Proofs Go.Maps Mx
/-- A grammar's value; a production's. -/
def grV (sv pv fv lv : Value) (start : Int) : Value := .agg #[sv, pv, .int .i64 start, fv, lv]
def prV (v : Value) (p : Pr) : Value := .agg (encPr (v, p)).toArray
def setS (M : Nat) : Sy := ⟨0, M, 0⟩
def sortS (n : Int) : Sy := ⟨1, 0, n⟩
/-- A slice that was just built. -/
theorem sliceK_built {α : Type} {enc : α → List Value} {k : Nat} (hk : ∀ x, (enc x).length = k) (W : World) (t : TypeId) (l : List α) (n : Nat) (hn : n = l.length) (hm : n ≤ maxLen) {B : Nat} (hB : B ≤ W.heap.size) :
    SliceK (fun b => B ≤ b) enc k (W.alloc (.cells (flatK enc l).toArray t)) (.slice (some ⟨W.heap.size, 0, none⟩) n n) l := by
  subst hn
  refine ⟨_, l.length, rfl, Nat.le_refl _, hm, fun _ => ⟨_, _, rfl, hB, by simp, fun i x hx j u hu => ?_⟩⟩
  have hb : Blk (W.alloc (.cells (flatK enc l).toArray t)) W.heap.size t (flatK enc l).toArray := Blk.new W _ _
  rw [Nat.zero_add, hb.cell]
  have := flatK_get hk l i x j u hx hu
  simpa using this
theorem low_slice {α : Type} {enc : α → List Value} {k : Nat} {B : Nat} {w w' : World} {v : Value} {l : List α} (h : SliceK (fun b => B ≤ b) enc k w v l) (hb : Below w.heap.size w w') : SliceK (fun b => B ≤ b) enc k w' v l := h.all hb
theorem ProdsAt.low {B : Nat} {w w' : World} {v : Value} {l : List Pr} (h : ProdsAt (fun b => B ≤ b) w v l) (hb : Below w.heap.size w w') : ProdsAt (fun b => B ≤ b) w' v l := h.keep (fun g hg hl => ⟨hg, hb.block g hl⟩)
def sampR (B : Nat) (i : Nat) (v : Value) (W : World) : Prop :=
  match i with
  | 0 => SliceK (fun b => B ≤ b) encS 1 W v [[83]]
  | 1 => v = symV (sortS 0)
  | 2 => v = symV (sortS 0)
  | 3 => SliceK (fun b => B ≤ b) encSy 6 W v [sortS 0, sortS 0]
  | 4 => ∃ u, v = prV u (prG [sortS 0, sortS 0]) ∧ SliceK (fun b => B ≤ b) encSy 6 W u [sortS 0, sortS 0]
  | 5 => v = symV (setS (2 ^ 97 + 2 ^ 98))
  | 6 => SliceK (fun b => B ≤ b) encSy 6 W v [setS (2 ^ 97 + 2 ^ 98)]
  | 7 => ∃ u, v = prV u (prG [setS (2 ^ 97 + 2 ^ 98)]) ∧ SliceK (fun b => B ≤ b) encSy 6 W u [setS (2 ^ 97 + 2 ^ 98)]
  | 8 => v = symV (setS (2 ^ 98 + 2 ^ 99))
  | 9 => SliceK (fun b => B ≤ b) encSy 6 W v [setS (2 ^ 98 + 2 ^ 99)]
  | 10 => ∃ u, v = prV u (prG [setS (2 ^ 98 + 2 ^ 99)]) ∧ SliceK (fun b => B ≤ b) encSy 6 W u [setS (2 ^ 98 + 2 ^ 99)]
  | 11 => ProdsAt (fun b => B ≤ b) W v sampleG.prods
  | 12 => ∃ sv pv, v = grV sv pv (.slice none 0 0) (.slice none 0 0) 0 ∧ SliceK (fun b => B ≤ b) encS 1 W sv sampleG.sorts ∧ ProdsAt (fun b => B ≤ b) W pv sampleG.prods
  | _ => True
theorem sampR_stab (B i : Nat) (v : Value) (w w' : World) (h : sampR B i v w) (hb : Below w.heap.size w w') : sampR B i v w' := by
  unfold sampR at h ⊢
  split at h
  · exact low_slice h hb
  · exact h
  · exact h
  · exact low_slice h hb
  · obtain ⟨u, e, h⟩ := h; exact ⟨u, e, low_slice h hb⟩
  · exact h
  · exact low_slice h hb
  · obtain ⟨u, e, h⟩ := h; exact ⟨u, e, low_slice h hb⟩
  · exact h
  · exact low_slice h hb
  · obtain ⟨u, e, h⟩ := h; exact ⟨u, e, low_slice h hb⟩
  · exact h.low hb
  · obtain ⟨sv, pv, e, h1, h2⟩ := h; exact ⟨sv, pv, e, low_slice h1 hb, h2.low hb⟩
  · trivial
set_option maxRecDepth 100000 in
set_option maxHeartbeats 4000000 in
theorem sample_any (w : World) :
    Calls Tryz.prog 30 #[] w fun e w' => ∃ sv pv, e = .returned (grV sv pv (.slice none 0 0) (.slice none 0 0) 0) ∧ SliceK (fun b => w.heap.size ≤ b) encS 1 w' sv sampleG.sorts ∧ ProdsAt (fun b => w.heap.size ≤ b) w' pv sampleG.prods ∧ Below w.heap.size w w' := by
  have hset := set_any
  go_enter Tryz.func30, Tryz.ntmps30
  go_wp2_with fail
  have hB0 : Blk ((w.alloc (.cells #[.slice none 0 0, .slice none 0 0, .int .i64 0, .slice none 0 0, .slice none 0 0] 39)).alloc (.cells #[.int .i64 1, .int .u64 0, .int .u64 0, .int .u64 0, .int .u64 0, .int .i64 0] 28)) w.heap.size 39 #[.slice none 0 0, .slice none 0 0, .int .i64 0, .slice none 0 0, .slice none 0 0] := (Blk.new_ rfl _ _).alloc _
  have hB1 : Blk ((w.alloc (.cells #[.slice none 0 0, .slice none 0 0, .int .i64 0, .slice none 0 0, .slice none 0 0] 39)).alloc (.cells #[.int .i64 1, .int .u64 0, .int .u64 0, .int .u64 0, .int .u64 0, .int .i64 0] 28)) (w.heap.size + 1) 28 #[.int .i64 1, .int .u64 0, .int .u64 0, .int .u64 0, .int .u64 0, .int .i64 0] := Blk.new_ (by simp) _ _
  have hbl := ((Below.refl w.heap.size w).alloc (Nat.le_refl _) (.cells #[.slice none 0 0, .slice none 0 0, .int .i64 0, .slice none 0 0, .slice none 0 0] 39)).alloc (by simp) (.cells #[.int .i64 1, .int .u64 0, .int .u64 0, .int .u64 0, .int .u64 0, .int .i64 0] 28)
  have hz1 : w.heap.size + 2 ≤ ((w.alloc (.cells #[.slice none 0 0, .slice none 0 0, .int .i64 0, .slice none 0 0, .slice none 0 0] 39)).alloc (.cells #[.int .i64 1, .int .u64 0, .int .u64 0, .int .u64 0, .int .u64 0, .int .i64 0] 28)).heap.size := by simp
  generalize ((w.alloc (.cells #[.slice none 0 0, .slice none 0 0, .int .i64 0, .slice none 0 0, .slice none 0 0] 39)).alloc (.cells #[.int .i64 1, .int .u64 0, .int .u64 0, .int .u64 0, .int .u64 0, .int .i64 0] 28)) = W1 at hB0 hB1 hbl hz1 ⊢
  have HB := Lib.hid (And.intro hB0 (And.intro hB1 hbl))
  have hf1 : ∀ W, Below W1.heap.size W1.drew W → W.cell? ⟨w.heap.size + 1, 0, none⟩ = some (.int .i64 1) ∧ W.cell? ⟨w.heap.size + 1, 1, none⟩ = some (.int .u64 0) ∧ W.cell? ⟨w.heap.size + 1, 2, none⟩ = some (.int .u64 0) ∧ W.cell? ⟨w.heap.size + 1, 3, none⟩ = some (.int .u64 0) ∧ W.cell? ⟨w.heap.size + 1, 4, none⟩ = some (.int .u64 0) ∧ W.cell? ⟨w.heap.size + 1, 5, none⟩ = some (.int .i64 0) := fun W h => by
    have h1 := (hB1.drew).below h hB1.lt
    exact ⟨h1.cell 0, h1.cell 1, h1.cell 2, h1.cell 3, h1.cell 4, h1.cell 5⟩
  have HF := Lib.hid hf1
  have hsz0 : ∀ W, Below W1.heap.size W1.drew W → w.heap.size + 2 ≤ W.heap.size := fun W h => Nat.le_trans hz1 h.size
  have HZ := Lib.hid hsz0
  clear hB0 hB1 hbl hf1 hsz0 hz1
  refine wp_region_conc 13 (sampR (w.heap.size + 2)) (fun A W => Below A.heap.size A W) (fun _ _ => True) (by kernel_rfl) (by kernel_rfl) (by kernel_rfl) (by kernel_rfl) (Below.refl _ _) trivial (fun h k => h.trans (k.mono h.size)) ?_ ?_
  · simp only [List.take_succ_cons, List.take_zero]
    refine ⟨?_, ?_, ?_, ?_, ?_, ?_, ?_, ?_, ?_, ?_, ?_, ?_, ?_, trivial⟩
    · intro L T W hG hJ hLs hLi hdeps hframe hvals K hK
      go_simp
      exact hK _ _ ((Below.refl _ W).alloc (Nat.le_refl _) _) (fun j u _ _ _ h => sampR_stab _ j u _ _ h ((Below.refl _ W).alloc (Nat.le_refl _) _)) trivial (sliceK_built encS_len W 9 [[83]] 1 rfl (by decide) (HZ.out W hG))
    · intro L T W hG hJ hLs hLi hdeps hframe hvals K hK
      have h1 := hframe 1 (by decide)
      simp at h1
      obtain ⟨f0, f1, f2, f3, f4, f5⟩ := HF.out W hG
      go_simp
      exact hK _ _ (Below.refl _ W) (fun j u _ _ _ h => h) trivial rfl
    · intro L T W hG hJ hLs hLi hdeps hframe hvals K hK
      have h1 := hframe 1 (by decide)
      simp at h1
      obtain ⟨f0, f1, f2, f3, f4, f5⟩ := HF.out W hG
      go_simp
      exact hK _ _ (Below.refl _ W) (fun j u _ _ _ h => h) trivial rfl
    · intro L T W hG hJ hLs hLi hdeps hframe hvals K hK
      have h1 := hvals ⟨1, .data⟩ (by simp) rfl 4 rfl
      have h2 := hvals ⟨2, .data⟩ (by simp) rfl 5 rfl
      simp only [sampR, symV, sortS] at h1 h2
      simp at h1 h2
      go_simp
      exact hK _ _ ((Below.refl _ W).alloc (Nat.le_refl _) _) (fun j u _ _ _ h => sampR_stab _ j u _ _ h ((Below.refl _ W).alloc (Nat.le_refl _) _)) trivial (sliceK_built encSy_len W 28 [sortS 0, sortS 0] 2 rfl (by decide) (HZ.out W hG))
    · intro L T W hG hJ hLs hLi hdeps hframe hvals K hK
      have h1 := hvals ⟨3, .data⟩ (by simp) rfl 6 rfl
      have H1 := Lib.hid h1
      obtain ⟨ua, uc, e1, _⟩ := h1
      simp at e1
      go_simp
      refine hK _ _ (Below.refl _ W) (fun j u _ _ _ h => h) trivial ⟨_, rfl, ?_⟩
      have := H1.out
      simp only [sampR] at this
      rw [← e1]
      simpa using this
    · intro L T W hG hJ hLs hLi hdeps hframe hvals K hK
      go_simp
      refine (hset 97 98 (by decide) (by decide) _).mono ?_
      rintro e W2 ⟨rfl, hb2⟩
      exact hK _ _ hb2 (fun j u _ _ _ h => sampR_stab _ j u _ _ h hb2) trivial rfl
    · intro L T W hG hJ hLs hLi hdeps hframe hvals K hK
      have h1 := hvals ⟨5, .data⟩ (by simp) rfl 8 rfl
      simp only [sampR, symV, setS] at h1
      simp at h1
      go_simp
      exact hK _ _ ((Below.refl _ W).alloc (Nat.le_refl _) _) (fun j u _ _ _ h => sampR_stab _ j u _ _ h ((Below.refl _ W).alloc (Nat.le_refl _) _)) trivial (sliceK_built encSy_len W 28 [setS (2 ^ 97 + 2 ^ 98)] 1 rfl (by decide) (HZ.out W hG))
    · intro L T W hG hJ hLs hLi hdeps hframe hvals K hK
      have h1 := hvals ⟨6, .data⟩ (by simp) rfl 9 rfl
      have H1 := Lib.hid h1
      obtain ⟨ua, uc, e1, _⟩ := h1
      simp at e1
      go_simp
      refine hK _ _ (Below.refl _ W) (fun j u _ _ _ h => h) trivial ⟨_, rfl, ?_⟩
      have := H1.out
      simp only [sampR] at this
      rw [← e1]
      simpa using this
    · intro L T W hG hJ hLs hLi hdeps hframe hvals K hK
      go_simp
      refine (hset 98 99 (by decide) (by decide) _).mono ?_
      rintro e W2 ⟨rfl, hb2⟩
      exact hK _ _ hb2 (fun j u _ _ _ h => sampR_stab _ j u _ _ h hb2) trivial rfl
    · intro L T W hG hJ hLs hLi hdeps hframe hvals K hK
      have h1 := hvals ⟨8, .data⟩ (by simp) rfl 11 rfl
      simp only [sampR, symV, setS] at h1
      simp at h1
      go_simp
      exact hK _ _ ((Below.refl _ W).alloc (Nat.le_refl _) _) (fun j u _ _ _ h => sampR_stab _ j u _ _ h ((Below.refl _ W).alloc (Nat.le_refl _) _)) trivial (sliceK_built encSy_len W 28 [setS (2 ^ 98 + 2 ^ 99)] 1 rfl (by decide) (HZ.out W hG))
    · intro L T W hG hJ hLs hLi hdeps hframe hvals K hK
      have h1 := hvals ⟨9, .data⟩ (by simp) rfl 12 rfl
      have H1 := Lib.hid h1
      obtain ⟨ua, uc, e1, _⟩ := h1
      simp at e1
      go_simp
      refine hK _ _ (Below.refl _ W) (fun j u _ _ _ h => h) trivial ⟨_, rfl, ?_⟩
      have := H1.out
      simp only [sampR] at this
      rw [← e1]
      simpa using this
    · intro L T W hG hJ hLs hLi hdeps hframe hvals K hK
      obtain ⟨u0, h0, k0⟩ := hvals ⟨4, .data⟩ (by simp) rfl 7 rfl
      obtain ⟨u1, h1, k1⟩ := hvals ⟨7, .data⟩ (by simp) rfl 10 rfl
      obtain ⟨u2, h2, k2⟩ := hvals ⟨10, .data⟩ (by simp) rfl 13 rfl
      have HK := Lib.hid (And.intro k0 (And.intro k1 k2))
      clear k0 k1 k2
      simp only [prV, encPr, prG] at h0 h1 h2
      simp at h0 h1 h2
      go_simp
      have hbn := (Below.refl W.heap.size W).alloc (Nat.le_refl _) (.cells (flatK encPr [(u0, prG [sortS 0, sortS 0]), (u1, prG [setS (2 ^ 97 + 2 ^ 98)]), (u2, prG [setS (2 ^ 98 + 2 ^ 99)])]).toArray 34)
      refine hK _ _ hbn (fun j u _ _ _ h => sampR_stab _ j u _ _ h hbn) trivial ⟨[(u0, prG [sortS 0, sortS 0]), (u1, prG [setS (2 ^ 97 + 2 ^ 98)]), (u2, prG [setS (2 ^ 98 + 2 ^ 99)])], ⟨sliceK_built encPr_len W 34 _ 3 rfl (by decide) (HZ.out W hG), ?_⟩, rfl⟩
      intro x hx
      simp only [List.mem_cons, List.not_mem_nil, or_false] at hx
      rcases hx with rfl | rfl | rfl
      · exact low_slice HK.out.1 hbn
      · exact low_slice HK.out.2.1 hbn
      · exact low_slice HK.out.2.2 hbn
    · intro L T W hG hJ hLs hLi hdeps hframe hvals K hK
      have h1 := hvals ⟨0, .data⟩ (by simp) rfl 3 rfl
      have h2 := hvals ⟨11, .data⟩ (by simp) rfl 14 rfl
      have H := Lib.hid (And.intro h1 h2)
      obtain ⟨ua, uc, e1, _⟩ := h1
      obtain ⟨pl, hpl, _⟩ := h2
      obtain ⟨pa, pc, e2, _⟩ := hpl.row
      simp at e1 e2
      clear hpl
      go_simp
      refine hK _ _ (Below.refl _ W) (fun j u _ _ _ h => h) trivial ⟨_, _, rfl, ?_, ?_⟩
      · rw [← e1]
        have := H.out.1
        simp only [sampR] at this
        simp at this
        exact this
      · rw [← e2]
        have := H.out.2
        simp only [sampR] at this
        simpa using this
  · intro f W hG _ hR
    obtain ⟨sv, pv, e12, h1, h2⟩ := hR 12 15 (by decide) rfl
    obtain ⟨sa, sc, rfl, _⟩ := id h1
    obtain ⟨pa, pc, rfl⟩ : ∃ pa pc, pv = .slice pa 3 pc := by
      obtain ⟨l, hl, e⟩ := id h2
      obtain ⟨pa, pc, e1, _⟩ := hl.row
      have : l.length = 3 := by rw [← List.length_map (f := (·.2)), e]; rfl
      exact ⟨pa, pc, by rw [e1, this]⟩
    rw [show sampleG.sorts.length = 1 from rfl] at e12 h1
    simp only [concDsts]
    have HW := Lib.hid (And.intro hG (And.intro h1 h2))
    have h0 := (HB.out.1.drew).below hG HB.out.1.lt
    have f0 := h0.cell 0
    have f1 := h0.cell 1
    have f2 := h0.cell 2
    have f3 := h0.cell 3
    have f4 := h0.cell 4
    have ff := h0.frozen
    simp at f0 f1 f2 f3 f4
    have A := Lib.hid h0
    clear hG h1 h2 h0 hR
    simp only [List.take_succ_cons, List.take_zero, List.drop_succ_cons, List.drop_zero, List.filterMap_cons, List.filterMap_nil, List.foldl_cons, List.foldl_nil, List.setIfInBounds_toArray, List.set_cons_zero, List.set_cons_succ]
    unfold grV at e12
    rw [e12]
    go_wp2_with fail
    have hbk := ((((A.out.set_ 0 (.slice sa 1 sc)).set_ 1 (.slice pa 3 pc)).set_ 2 (.int .i64 0)).set_ 3 (.slice none 0 0)).set_ 4 (.slice none 0 0)
    refine bodyPost_ret (results_cell_row (by rfl) _ _ w.heap.size 39 _ (0, 0) _ (by rfl) hbk Tryz.underlying39 (by rfl) (by kernel_rfl)) rfl ?_
    have hkeep : ∀ g, w.heap.size + 2 ≤ g → g < W.heap.size → w.heap.size ≤ g ∧ (((((W.setCell ⟨w.heap.size, 0, none⟩ (.slice sa 1 sc)).setCell ⟨w.heap.size, 1, none⟩ (.slice pa 3 pc)).setCell ⟨w.heap.size, 2, none⟩ (.int .i64 0)).setCell ⟨w.heap.size, 3, none⟩ (.slice none 0 0)).setCell ⟨w.heap.size, 4, none⟩ (.slice none 0 0)).heap[g]? = W.heap[g]? := fun g hg _ => by
      refine ⟨by omega, ?_⟩
      rw [Below.heap_setCell _ _ _ g (by simp; omega), Below.heap_setCell _ _ _ g (by simp; omega), Below.heap_setCell _ _ _ g (by simp; omega), Below.heap_setCell _ _ _ g (by simp; omega), Below.heap_setCell _ _ _ g (by simp; omega)]
    refine ⟨_, _, rfl, HW.out.2.1.keep hkeep, HW.out.2.2.keep hkeep, ?_⟩
    have hbW : Below w.heap.size w W := HB.out.2.2.trans (show Below w.heap.size W1 W from (show Below w.heap.size W1 W1.drew from (Below.refl _ _).drew).trans (HW.out.1.mono HB.out.2.2.size))
    refine ((((hbW.setCell ?_ _).setCell ?_ _).setCell ?_ _).setCell ?_ _).setCell ?_ _ <;> simp
end Go.Proofs.YtknpkndiflodbaaGreatDoor.Tb
