/-
  WALKS of package langs: Text, Root, Samples; the reference's Text.
-/
import Derived.Test.YtmkidbenndhhjaaDoorLangs6
set_option linter.unusedVariables false
namespace Go.Proofs.YtmkidbenndhhjaaDoor.Lx
open Go.RowKit Go.Proofs Mx Bx

/-- A language's text; none: empty. -/
noncomputable def textS (s : ByteArray) : ByteArray :=
  if (cs 4).toList = s.toList then rs 1 else if (cs 11).toList = s.toList then rs 2 else if (cs 18).toList = s.toList then rs 3 else ⟨#[]⟩
/-- .. its root's name. -/
noncomputable def rootS (s : ByteArray) : ByteArray :=
  if (cs 4).toList = s.toList then cs 4 else if (cs 11).toList = s.toList then cs 11 else if (cs 18).toList = s.toList then cs 18 else ⟨#[]⟩
theorem which_cases (s : ByteArray) : (which s = 0 ∧ (∀ B, found s B = #[.string (cs 4), .string (cs 5), .string (cs 6), .slice (some ⟨B, 0, none⟩) 4 4]) ∧ textS s = rs 1 ∧ rootS s = cs 4 ∧ (cs 4).toList = s.toList ∧ samples s = #[.string (cs 0), .string (cs 1), .string (cs 2), .string (cs 3)]) ∨
    (which s = 1 ∧ (∀ B, found s B = #[.string (cs 11), .string (cs 12), .string (cs 13), .slice (some ⟨B, 0, none⟩) 4 4]) ∧ textS s = rs 2 ∧ rootS s = cs 11 ∧ (cs 11).toList = s.toList ∧ samples s = #[.string (cs 7), .string (cs 8), .string (cs 9), .string (cs 10)]) ∨
    (which s = 2 ∧ (∀ B, found s B = #[.string (cs 18), .string (cs 19), .string (cs 20), .slice (some ⟨B, 0, none⟩) 4 4]) ∧ textS s = rs 3 ∧ rootS s = cs 18 ∧ (cs 18).toList = s.toList ∧ samples s = #[.string (cs 14), .string (cs 15), .string (cs 16), .string (cs 17)]) ∨
    (which s = -1 ∧ (∀ B, found s B = #[.string ⟨#[]⟩, .string ⟨#[]⟩, .string ⟨#[]⟩, .slice none 0 0]) ∧ textS s = ⟨#[]⟩ ∧ rootS s = ⟨#[]⟩ ∧ ((cs 4).toList ≠ s.toList ∧ (cs 11).toList ≠ s.toList ∧ (cs 18).toList ≠ s.toList)) := by
  by_cases e0 : (cs 4).toList = s.toList
  · left; simp [which, found, textS, rootS, samples, e0]
  by_cases e1 : (cs 11).toList = s.toList
  · right; left; simp [which, found, textS, rootS, samples, e0, e1]
  by_cases e2 : (cs 18).toList = s.toList
  · right; right; left; simp [which, found, textS, rootS, samples, e0, e1, e2]
  · right; right; right; simp [which, found, textS, rootS, e0, e1, e2]

theorem find_at (s : ByteArray) (i : Int) (f : Nat → Array Value) (b : Bool) (h1 : which s = i) (h2 : ∀ B, found s B = f B) (hb : decide (0 ≤ i) = b) (W : World) :
    Calls Tryd.prog 28 #[.string s] W fun e w' => ∃ B, e = .returned (.tuple #[.agg (f B), .bool b]) ∧ Below W.heap.size W w' ∧ W.heap.size ≤ B ∧ (b = true → Blk w' B 9 (samples s)) := by
  refine (find_any s W).mono ?_
  rintro e w1 ⟨B, he, hbw, hB, hs⟩
  rw [h1] at he hs
  rw [h2] at he
  rw [hb] at he
  exact ⟨B, he, hbw, hB, fun h => hs (by rw [h] at hb; simpa using hb)⟩

set_option maxRecDepth 100000 in
theorem text_any (s : ByteArray) (w : World) (hT : Tab w) (hg : 0 < w.heap.size) :
    Calls Tryd.prog 9 #[.string s] w fun e w' => e = .returned (.tuple #[.string (textS s), .bool (decide (0 ≤ which s))]) ∧ Below w.heap.size w w' := by
  rcases which_cases s with ⟨h1, h2, h3, _⟩ | ⟨h1, h2, h3, _⟩ | ⟨h1, h2, h3, _⟩ | ⟨h1, h2, h3, _⟩
  · rw [h1, h3]
    have hF := find_at s _ _ true h1 h2 rfl
    clear h1 h2 h3
    go_enter Tryd.func9, Tryd.ntmps9
    go_wp2_with fail
    refine (hF _).mono ?_
    rintro e w1 ⟨B, rfl, hb, _, _⟩
    go_wp2_with fail
    refine (whole_fine _ _ _ _ _ (hT.below (hb.alloc hb.size _) hg) (by have := hb.size; rw [World.size_alloc]; omega) fine0).mono ?_
    rintro e w2 ⟨rfl, hb2⟩
    rw [same0]
    go_wp2
    go_ret2
    exact ⟨rfl, (hb.alloc hb.size _).trans (hb2.mono (by have := hb.size; rw [World.size_alloc]; omega))⟩
  · rw [h1, h3]
    have hF := find_at s _ _ true h1 h2 rfl
    clear h1 h2 h3
    go_enter Tryd.func9, Tryd.ntmps9
    go_wp2_with fail
    refine (hF _).mono ?_
    rintro e w1 ⟨B, rfl, hb, _, _⟩
    go_wp2_with fail
    refine (whole_fine _ _ _ _ _ (hT.below (hb.alloc hb.size _) hg) (by have := hb.size; rw [World.size_alloc]; omega) fine1).mono ?_
    rintro e w2 ⟨rfl, hb2⟩
    rw [same1]
    go_wp2
    go_ret2
    exact ⟨rfl, (hb.alloc hb.size _).trans (hb2.mono (by have := hb.size; rw [World.size_alloc]; omega))⟩
  · rw [h1, h3]
    have hF := find_at s _ _ true h1 h2 rfl
    clear h1 h2 h3
    go_enter Tryd.func9, Tryd.ntmps9
    go_wp2_with fail
    refine (hF _).mono ?_
    rintro e w1 ⟨B, rfl, hb, _, _⟩
    go_wp2_with fail
    refine (whole_fine _ _ _ _ _ (hT.below (hb.alloc hb.size _) hg) (by have := hb.size; rw [World.size_alloc]; omega) fine2).mono ?_
    rintro e w2 ⟨rfl, hb2⟩
    rw [same2]
    go_wp2
    go_ret2
    exact ⟨rfl, (hb.alloc hb.size _).trans (hb2.mono (by have := hb.size; rw [World.size_alloc]; omega))⟩
  · rw [h1, h3]
    have hF := find_at s _ _ false h1 h2 rfl
    clear h1 h2 h3
    go_enter Tryd.func9, Tryd.ntmps9
    go_wp2_with fail
    refine (hF _).mono ?_
    rintro e w1 ⟨B, rfl, hb, _, _⟩
    go_wp2
    go_ret2
    exact ⟨rfl, hb.alloc hb.size _⟩

set_option maxRecDepth 100000 in
theorem root_any (s : ByteArray) (w : World) :
    Calls Tryd.prog 10 #[.string s] w fun e w' => e = .returned (.tuple #[.string (rootS s), .bool (decide (0 ≤ which s))]) ∧ Below w.heap.size w w' := by
  rcases which_cases s with ⟨h1, h2, _, h3, _⟩ | ⟨h1, h2, _, h3, _⟩ | ⟨h1, h2, _, h3, _⟩ | ⟨h1, h2, _, h3, _⟩
  all_goals
    rw [h1, h3]
    have hF := find_at s _ _ _ h1 h2 rfl
    clear h1 h2 h3
    go_enter Tryd.func10, Tryd.ntmps10
    go_wp2_with fail
    refine (hF _).mono ?_
    rintro e w1 ⟨B, rfl, hb, _, _⟩
    go_wp2
    go_ret2
    exact ⟨rfl, hb.alloc hb.size _⟩

theorem own_weaken {w : World} {B B' : Nat} {e : TypeId} {v : Value} {n : Nat} {xs : List Value} (h : w.ownsRow B e 1 v n xs) (hB : B' ≤ B) : w.ownsRow B' e 1 v n xs := by
  rcases h with ⟨h1, h2 | ⟨g, cap, cur, hv, hg, r⟩⟩
  · exact ⟨h1, .inl h2⟩
  · exact ⟨h1, .inr ⟨g, cap, cur, hv, Nat.le_trans hB hg, r⟩⟩
/-- What Samples hands back: a slice of the call's own, of four samples; none. -/
def IsSamples (B : Nat) (s : ByteArray) (v : Value) (w' : World) : Prop :=
  (which s = -1 ∧ v = .slice none 0 0) ∨ (0 ≤ which s ∧ ∃ s0 s1 s2 s3 g cap, samples s = #[.string s0, .string s1, .string s2, .string s3] ∧ v = .slice (some ⟨g, 0, none⟩) 4 cap ∧ w'.ownsRow B 9 1 v 4 [.string s0, .string s1, .string s2, .string s3])
theorem samples_case {s : ByteArray} {s0 s1 s2 s3 : ByteArray} {B : Nat} {i : Int} {v : Value} {w' : World} (hw : which s = i) (hi : 0 ≤ i) (h : samples s = #[.string s0, .string s1, .string s2, .string s3])
    (ho : w'.ownsRow B 9 1 v 4 [.string s0, .string s1, .string s2, .string s3]) : IsSamples B s v w' := by
  rcases ho.2 with ⟨_, h0⟩ | ⟨g, cap, _, hv, _⟩
  · exact absurd h0 (by decide)
  · exact .inr ⟨by omega, s0, s1, s2, s3, g, cap, h, hv, ho⟩
set_option maxRecDepth 100000 in
theorem samples_any (s : ByteArray) (w : World) :
    Calls Tryd.prog 11 #[.string s] w fun e w' => ∃ v, e = .returned v ∧ Below w.heap.size w w' ∧ IsSamples w.heap.size s v w' := by
  rcases which_cases s with ⟨h1, h2, _, _, _, h3⟩ | ⟨h1, h2, _, _, _, h3⟩ | ⟨h1, h2, _, _, _, h3⟩ | ⟨h1, h2, _⟩
  · have hF := find_at s _ _ _ h1 h2 rfl
    have H1 := Lib.hid h1
    have H3 := Lib.hid h3
    clear h1 h2
    go_enter Tryd.func11, Tryd.ntmps11
    go_wp2_with fail
    refine (hF _).mono ?_
    rintro e w1 ⟨B, rfl, hb, _, hs⟩
    have hs' := (hs rfl).alloc (.cells #[.string (cs 4), .string (cs 5), .string (cs 6), .slice (some ⟨B, 0, none⟩) 4 4] 58)
    rw [h3] at hs'
    clear hF hs h3
    go_wp2_with fail
    refine (Tryd.slices_Clone_string B 0 4 4 [cs 0, cs 1, cs 2, cs 3] _ (by decide) (by decide) (fun j hj => by
      rw [Nat.zero_add, hs'.cell j]
      match j, hj with
      | 0, _ => rfl
      | 1, _ => rfl
      | 2, _ => rfl
      | 3, _ => rfl)).mono ?_
    rintro e w2 ⟨v, rfl, hown, _, hb2⟩
    clear hs'
    go_wp2
    go_ret
    exact ⟨_, rfl, (hb.alloc hb.size _).trans (hb2.mono (by have := hb.size; rw [World.size_alloc]; omega)), samples_case H1.out (by decide) H3.out (own_weaken hown (by have := hb.size; rw [World.size_alloc]; omega))⟩
  · have hF := find_at s _ _ _ h1 h2 rfl
    have H1 := Lib.hid h1
    have H3 := Lib.hid h3
    clear h1 h2
    go_enter Tryd.func11, Tryd.ntmps11
    go_wp2_with fail
    refine (hF _).mono ?_
    rintro e w1 ⟨B, rfl, hb, _, hs⟩
    have hs' := (hs rfl).alloc (.cells #[.string (cs 11), .string (cs 12), .string (cs 13), .slice (some ⟨B, 0, none⟩) 4 4] 58)
    rw [h3] at hs'
    clear hF hs h3
    go_wp2_with fail
    refine (Tryd.slices_Clone_string B 0 4 4 [cs 7, cs 8, cs 9, cs 10] _ (by decide) (by decide) (fun j hj => by
      rw [Nat.zero_add, hs'.cell j]
      match j, hj with
      | 0, _ => rfl
      | 1, _ => rfl
      | 2, _ => rfl
      | 3, _ => rfl)).mono ?_
    rintro e w2 ⟨v, rfl, hown, _, hb2⟩
    clear hs'
    go_wp2
    go_ret
    exact ⟨_, rfl, (hb.alloc hb.size _).trans (hb2.mono (by have := hb.size; rw [World.size_alloc]; omega)), samples_case H1.out (by decide) H3.out (own_weaken hown (by have := hb.size; rw [World.size_alloc]; omega))⟩
  · have hF := find_at s _ _ _ h1 h2 rfl
    have H1 := Lib.hid h1
    have H3 := Lib.hid h3
    clear h1 h2
    go_enter Tryd.func11, Tryd.ntmps11
    go_wp2_with fail
    refine (hF _).mono ?_
    rintro e w1 ⟨B, rfl, hb, _, hs⟩
    have hs' := (hs rfl).alloc (.cells #[.string (cs 18), .string (cs 19), .string (cs 20), .slice (some ⟨B, 0, none⟩) 4 4] 58)
    rw [h3] at hs'
    clear hF hs h3
    go_wp2_with fail
    refine (Tryd.slices_Clone_string B 0 4 4 [cs 14, cs 15, cs 16, cs 17] _ (by decide) (by decide) (fun j hj => by
      rw [Nat.zero_add, hs'.cell j]
      match j, hj with
      | 0, _ => rfl
      | 1, _ => rfl
      | 2, _ => rfl
      | 3, _ => rfl)).mono ?_
    rintro e w2 ⟨v, rfl, hown, _, hb2⟩
    clear hs'
    go_wp2
    go_ret
    exact ⟨_, rfl, (hb.alloc hb.size _).trans (hb2.mono (by have := hb.size; rw [World.size_alloc]; omega)), samples_case H1.out (by decide) H3.out (own_weaken hown (by have := hb.size; rw [World.size_alloc]; omega))⟩
  · have hF := find_at s _ _ _ h1 h2 rfl
    have H1 := Lib.hid h1
    clear h1 h2
    go_enter Tryd.func11, Tryd.ntmps11
    go_wp2_with fail
    refine (hF _).mono ?_
    rintro e w1 ⟨B, rfl, hb, _, _⟩
    clear hF
    go_wp2_with fail
    refine (Tryd.slices_Clone_string_nil _ _ _).mono ?_
    rintro e w2 ⟨rfl, rfl⟩
    go_wp2
    go_ret
    exact ⟨_, rfl, hb.alloc hb.size _, .inl ⟨H1.out, rfl⟩⟩

end Go.Proofs.YtmkidbenndhhjaaDoor.Lx
