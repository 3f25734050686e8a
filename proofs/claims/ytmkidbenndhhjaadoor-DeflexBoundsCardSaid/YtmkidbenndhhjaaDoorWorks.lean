/-
  WALKS: works.
-/
import Derived.Test.YtmkidbenndhhjaaDoorSame
set_option linter.unusedVariables false
set_option linter.unusedSimpArgs false
namespace Go.Proofs.YtmkidbenndhhjaaDoor.Dx
open Go.RowKit Go.Proofs Mx Bx
/-- Words with their places as numbers. -/
def wI (l : List (Nat × Wd)) : List (Int × Wd) := l.map fun q => ((q.1 : Int), q.2)
theorem wI_snd (l : List (Nat × Wd)) : (wI l).map (·.2) = l.map (·.2) := by rw [wI, List.map_map]; rfl
theorem wI_len (l : List (Nat × Wd)) : (wI l).length = l.length := by simp [wI]
theorem wcells_get (l : List (Nat × Wd)) : ∀ (i p : Nat) (v : Wd), l[i]? = some (p, v) → ∀ j u, (wdC (p : Int) v).toList[j]? = some u → (wcells l)[i * 8 + j]? = some u := by
  induction l with
  | nil => intro i p v h; simp at h
  | cons q t ih =>
    obtain ⟨p0, v0⟩ := q
    intro i p v h j u hu
    have hj : j < 8 := by
      have := List.getElem?_eq_some_iff.1 hu
      obtain ⟨h1, _⟩ := this
      simpa [wdC] using h1
    cases i with
    | zero =>
      simp at h
      obtain ⟨rfl, rfl⟩ := h
      rw [wcells, Nat.zero_mul, Nat.zero_add, List.getElem?_append_left (by simp [wdC]; omega)]
      exact hu
    | succ i =>
      simp at h
      have h8 : (wdC (p0 : Int) v0).toList.length = 8 := rfl
      rw [wcells, List.getElem?_append_right (by rw [h8]; omega), h8, show (i + 1) * 8 + j - 8 = i * 8 + j by omega]
      exact ih i p v h j u hu
theorem own_row {w : World} {B g n c : Nat} {o : Nat} {l : List (Nat × Wd)} (h : w.ownsRow B 51 8 (.slice (some ⟨g, o, none⟩) n c) l.length (wcells l)) : o = 0 ∧ n = l.length ∧ B ≤ g ∧ l.length ≤ c ∧ RowW w g 0 (wI l) := by
  obtain ⟨hlen, h2⟩ := h
  rcases h2 with ⟨h0, _⟩ | ⟨g', cap, cur, hv, hg, hh, r⟩
  · cases h0
  · have hown : w.ownsRow B 51 8 (.slice (some ⟨g, o, none⟩) n c) l.length (wcells l) := ⟨hlen, .inr ⟨g', cap, cur, hv, hg, hh, r⟩⟩
    injection hv with e1 e2 e3
    injection e1 with e1
    injection e1 with e4 e5 e6
    subst e4; subst e5; subst e2; subst e3
    refine ⟨rfl, rfl, hg, r.1, (hown.lt g rfl).2, ?_⟩
    intro i p v hi
    rw [wI, List.getElem?_map] at hi
    obtain ⟨⟨p0, v0⟩, h1, h3⟩ := Option.map_eq_some_iff.1 hi
    simp at h3
    obtain ⟨rfl, rfl⟩ := h3
    have hil : i < l.length := (List.getElem?_eq_some_iff.1 h1).1
    have get : ∀ j u, (wdC (p0 : Int) v0).toList[j]? = some u → j < 8 → w.cell? ⟨g, 0 + i * 8 + j, none⟩ = some u := by
      intro j u hu hj
      rw [Nat.zero_add]
      exact (hown.cellAt (i * 8 + j) (by omega)).trans (wcells_get l i p0 v0 h1 j u hu)
    exact ⟨get 0 _ rfl (by decide), get 1 _ rfl (by decide), get 2 _ rfl (by decide), get 3 _ rfl (by decide), get 4 _ rfl (by decide), get 5 _ rfl (by decide), get 6 _ rfl (by decide), get 7 _ rfl (by decide)⟩
theorem own_sliceW {w : World} {B n c : Nat} {a : Option Addr} {l : List (Nat × Wd)} (h : w.ownsRow B 51 8 (.slice a n c) l.length (wcells l)) : n = l.length ∧ SliceW w (.slice a n c) (wI l) := by
  rcases h.2 with ⟨h0, h1⟩ | ⟨g', cap, cur, hv, hg, hh, r⟩
  · injection h0 with e1 e2 e3
    subst e1; subst e2; subst e3
    have : l = [] := List.eq_nil_of_length_eq_zero h1
    subst this
    exact ⟨rfl, .nil⟩
  · injection hv with e1 e2 e3
    subst e1; subst e2; subst e3
    obtain ⟨_, h2, _, h4, h5⟩ := own_row h
    refine ⟨rfl, ?_⟩
    have := SliceW.row h5 (cap := c) (by rw [wI_len]; exact h4)
    rw [wI_len] at this
    exact this
theorem SliceW.below {w w' : World} {V : Value} {l : List (Int × Wd)} (h : SliceW w V l) (hb : Below w.heap.size w w') : SliceW w' V l := by
  cases h with
  | nil => exact .nil
  | row h hc => exact .row (h.below hb h.lt) hc
theorem num_any (n : Int) (w : World) : Calls Tryd.prog 26 #[.int .i64 n] w fun e w' => e = .returned (.int .i64 n) ∧ w' = w := by
  go_enter Tryd.func26, Tryd.ntmps26
  go_wp2_with fail
  go_ret
  exact ⟨rfl, rfl⟩
def wk6 : List (Nat × Wd) := [(0, ⟨1, [97, 49], 0, 0⟩), (2, ⟨5, [61], 0, 0⟩), (3, ⟨2, [120], 0, 0⟩), (6, ⟨3, [], 170141183450565711417404261516691111936, 0⟩), (12, ⟨4, [], 0, 2⟩), (13, ⟨5, [59], 0, 0⟩)]
theorem wk_lex : lexR [97, 49, 61, 34, 120, 34, 91, 92, 93, 45, 126, 93, 50, 59, 47, 47, 120] = (wk6, 0, 0) := by decide +kernel
theorem wk_bad : lexR [98, 32, 34, 97] = ([], 2, 130) := by decide +kernel
theorem wk_print : printF (wk6.map (·.2)) = ([97, 49, 32, 61, 32, 34, 120, 34, 32, 91, 92, 93, 45, 126, 93, 32, 50, 32, 59], 0) := by decide +kernel
theorem wk_name : nameB [97, 49] = true := by decide +kernel
theorem wk_eq : eqW 4 12 ⟨#[]⟩ 0 0 0 0 2 4 12 ⟨#[]⟩ 0 0 0 0 2 = true := by decide +kernel
theorem func_neq (g : Nat) (w : World) : (binOp .neq 43 (.func (.func 49) #[] #[.pointer (some ⟨g, 0, none⟩)]) .nilFunc).run Tryd.prog w = .ok (.bool true) w := by kernel_rfl
theorem func_eql (g : Nat) (w : World) : (binOp .eql 43 (.func (.func 49) #[] #[.pointer (some ⟨g, 0, none⟩)]) .nilFunc).run Tryd.prog w = .ok (.bool false) w := by kernel_rfl
set_option maxRecDepth 100000 in
set_option maxHeartbeats 2000000 in
theorem works_any (w : World) (E : Env w) (R : Bru w) :
    Calls Tryd.prog 18 #[] w fun e w' => e = .returned (.bool true) ∧ Below w.heap.size w w' := by
  have hlex1 := lex_any ⟨#[97, 49, 61, 34, 120, 34, 91, 92, 93, 45, 126, 93, 50, 59, 47, 47, 120]⟩ w E
  rw [wk_lex] at hlex1
  have h10 := E.big
  have HE := Lib.hid (And.intro E R)
  clear E R
  go_enter Tryd.func18, Tryd.ntmps18
  go_wp2_with fail
  refine hlex1.mono ?_
  rintro e w1 ⟨a, n, c, rfl, hown1, hb1⟩
  obtain ⟨rfl, hs1⟩ := own_sliceW hown1
  obtain ⟨g, rfl⟩ : ∃ g, a = some ⟨g, 0, none⟩ := by
    rcases hown1.2 with ⟨_, h0⟩ | ⟨g, cap, cur, hv, _⟩
    · exact absurd h0 (by decide)
    · injection hv with e1 _ _; exact ⟨g, e1⟩
  obtain ⟨_, _, _, _, hrow⟩ := own_row hown1
  have hE1 := HE.out.1.below hb1 (Nat.le_trans (by decide) h10)
  have hR1 := HE.out.2.below hb1 (Nat.le_trans (by decide) h10)
  have hp := print_any (.slice (some ⟨g, 0, none⟩) wk6.length c) (wI wk6) (by decide) (by
    intro q hq
    have : (wI wk6).all (fun q => decide (q.2.set < 2 ^ 256) && decide (q.2.text.length ≤ 400000000)) = true := by decide +kernel
    have := List.all_eq_true.1 this q hq
    simp only [Bool.and_eq_true, decide_eq_true_eq] at this
    exact this) (fun _ => by rw [wI_snd, show tellL (wk6.map (·.2)) = [97, 49, 32, 61, 32, 34, 120, 34, 32, 91, 92, 93, 45, 126, 93, 32, 50, 32, 59] by decide +kernel]; decide) w1 hE1 hR1 hs1
  rw [wI_snd, wk_print] at hp
  have h10' := Nat.le_trans h10 hb1.size
  have H1 := Lib.hid (And.intro hb1 (And.intro hrow (And.intro hE1 hR1)))
  clear hlex1 hown1 hs1 hrow hE1 hR1 hb1
  go_wp2_with fail
  refine hp.mono ?_
  rintro e w2 ⟨rfl, hb2⟩
  have hE2 := H1.out.2.2.1.below hb2 (Nat.le_trans (by decide) h10')
  have hlex2 := lex_any ⟨#[98, 32, 34, 97]⟩ w2 hE2
  rw [wk_bad] at hlex2
  have hr2 := H1.out.2.1.below hb2 H1.out.2.1.lt
  have H2 := Lib.hid (And.intro (H1.out.1.trans (hb2.mono H1.out.1.size)) hr2)
  clear hp hE2 hb2 hr2
  go_wp2_with fail
  refine hlex2.mono ?_
  rintro e w3 ⟨a, n, c3, rfl, hown3, hb3⟩
  have hr3 := H2.out.2.below hb3 H2.out.2.lt
  have hbe3 := H2.out.1.trans (hb3.mono H2.out.1.size)
  have H3 := Lib.hid (And.intro hbe3 hr3)
  clear hlex2 hown3 hb3
  have hc4 : W8 w3 g 32 12 ⟨4, [], 0, 2⟩ := hr3.cells 4 12 ⟨4, [], 0, 2⟩ rfl
  obtain ⟨c0, c1, c2, c3', c4, c5, c6, c7⟩ := hc4
  rw [wd0] at c3' c4 c5 c6
  have heq := eql_word
  have hk := wk_eq
  have hname := name_any ⟨#[97, 49]⟩ (by decide)
  rw [show (⟨#[97, 49]⟩ : ByteArray).data.toList = [97, 49] from rfl, wk_name] at hname
  have hall := all_any ⟨#[]⟩
  clear hr3 hbe3
  rw [show wk6.length = 6 from rfl]
  go_wp2_with fail
  refine (num_any 0 _).mono ?_
  rintro e w4 ⟨rfl, rfl⟩
  go_wp2_with fail
  refine (num_any 0 _).mono ?_
  rintro e w5 ⟨rfl, rfl⟩
  go_wp2_with fail
  refine (num_any 130 _).mono ?_
  rintro e w6 ⟨rfl, rfl⟩
  go_wp2_with fail
  refine (hall _).mono ?_
  rintro e w7 ⟨rfl, rfl⟩
  have hfn := func_neq w6.heap.size (w6.alloc (.cells #[.string ⟨#[]⟩] 9))
  go_wp2_with fail
  refine (hname _).mono ?_
  rintro e w8 ⟨rfl, hb8⟩
  have H8 := Lib.hid ((H3.out.1.alloc H3.out.1.size _).trans (hb8.mono (by have := H3.out.1.size; simp; omega)))
  clear hb8
  go_wp2_with fail
  go_ret
  exact ⟨rfl, H8.out⟩
end Go.Proofs.YtmkidbenndhhjaaDoor.Dx
