/-
  WALKS of package langs: find.
-/
import Derived.Test.YtmkidbenndhhjaaDoorLangs2
import Derived.LoopTactic
set_option linter.unusedVariables false
namespace Go.Proofs.YtmkidbenndhhjaaDoor.Lx
open Go.RowKit Go.Proofs Mx

/-- What find hands back, B the sample block: of a language, or of none. -/
noncomputable def found (s : ByteArray) (B : Nat) : Array Value :=
  if (cs 4).toList = s.toList then #[.string (cs 4), .string (cs 5), .string (cs 6), .slice (some ⟨B, 0, none⟩) 4 4]
  else if (cs 11).toList = s.toList then #[.string (cs 11), .string (cs 12), .string (cs 13), .slice (some ⟨B, 0, none⟩) 4 4]
  else if (cs 18).toList = s.toList then #[.string (cs 18), .string (cs 19), .string (cs 20), .slice (some ⟨B, 0, none⟩) 4 4]
  else #[.string ⟨#[]⟩, .string ⟨#[]⟩, .string ⟨#[]⟩, .slice none 0 0]
noncomputable def samples (s : ByteArray) : Array Value :=
  if (cs 4).toList = s.toList then #[.string (cs 0), .string (cs 1), .string (cs 2), .string (cs 3)]
  else if (cs 11).toList = s.toList then #[.string (cs 7), .string (cs 8), .string (cs 9), .string (cs 10)]
  else #[.string (cs 14), .string (cs 15), .string (cs 16), .string (cs 17)]
set_option maxRecDepth 100000 in
theorem find_any (s : ByteArray) (w : World) :
    Calls Tryd.prog 28 #[.string s] w fun e w' => ∃ B, e = .returned (.tuple #[.agg (found s B), .bool (decide (0 ≤ which s))]) ∧ Below w.heap.size w w' ∧ w.heap.size ≤ B ∧ (0 ≤ which s → Blk w' B 9 (samples s)) := by
  go_enter Tryd.func28, Tryd.ntmps28
  go_wp2_with fail
  refine (languages_any _).mono ?_
  rintro e w1 ⟨rfl, hb, hsz, hB1, hB2, hB3⟩
  simp only [all12]
  go_wp2_with fail
  have hs0 : w1.cell? ⟨w.heap.size, 0, none⟩ = some (.string s) := by
    exact (((Blk.new w 9 #[.string s]).alloc _).below hb (by go_size)).cell 0
  have hsz' : w1.heap.size = w.heap.size + 1 + 1 + 4 := by simpa using hsz
  have hR1 : Blk w1 (w.heap.size + 1) 58 #[.string ⟨#[]⟩, .string ⟨#[]⟩, .string ⟨#[]⟩, .slice none 0 0] := (Blk.new_ (by simp) _ _).below hb (by simp)
  have hbw : Below w.heap.size w w1 := Below.trans (((Below.refl _ w).alloc (Nat.le_refl _) _).alloc (by simp) _) (hb.mono (by simp; omega))
  simp only [World.size_alloc] at hB1 hB2 hB3
  clear hb hsz
  refine (index_any s w.heap.size (w.heap.size + 1 + 1 + 4) (w.heap.size + 1 + 1 + 1) _ (cell_alloc_ hs0 _) (by simpa [all12] using Blk.new_ hsz' 63 (all12 (w.heap.size + 1 + 1 + 1)))).mono ?_
  rintro e w2 ⟨rfl, hb2⟩
  have hA2 : Blk w2 (w.heap.size + 1 + 1 + 4) 63 (all12 (w.heap.size + 1 + 1 + 1)) := (Blk.new_ hsz' _ _).below hb2 (by simp [hsz'])
  have hR2 : Blk w2 (w.heap.size + 1) 58 #[.string ⟨#[]⟩, .string ⟨#[]⟩, .string ⟨#[]⟩, .slice none 0 0] := (hR1.alloc _).below hb2 (by simp [hsz'])
  replace hB1 := (hB1.alloc (.cells (all12 (w.heap.size + 1 + 1 + 1)) 63)).below hb2 (by simp [hsz'])
  replace hB2 := (hB2.alloc (.cells (all12 (w.heap.size + 1 + 1 + 1)) 63)).below hb2 (by simp [hsz'])
  replace hB3 := (hB3.alloc (.cells (all12 (w.heap.size + 1 + 1 + 1)) 63)).below hb2 (by simp [hsz'])
  have hbw2 : Below w.heap.size w w2 := (hbw.alloc (by omega) _).trans (hb2.mono (by simp [hsz']; omega))
  clear hb2 hbw hR1 hs0 hsz'
  obtain ⟨a0, a1, a2, a3, a4, a5, a6, a7, a8, a9, a10, a11, af⟩ := hA2.facts12
  obtain ⟨r0, r1, r2, r3, rf⟩ := hR2.facts4
  by_cases e0 : (cs 4).toList = s.toList
  · have hw : which s = 0 := by rw [which, if_pos e0]
    rw [hw]
    go_wp2
    refine bodyPost_ret (v := .tuple #[.agg #[.string (cs 4), .string (cs 5), .string (cs 6), .slice (some ⟨w.heap.size + 1 + 1 + 1, 0, none⟩) 4 4], .bool true]) (by simp [results, Tryd.results28, go_sem, r0, r1, r2, r3]) rfl ⟨w.heap.size + 1 + 1 + 1, ?_⟩
    rw [found, if_pos e0, hw, samples, if_pos e0]
    refine ⟨rfl, ?_, by omega, fun _ => ?_⟩
    · exact ((((hbw2.setCell (by go_size) _).setCell (by go_size) _).setCell (by go_size) _).setCell (by go_size) _)
    · exact (((hB1.far (by go_size) _).far (by go_size) _).far (by go_size) _).far (by go_size) _
  by_cases e1 : (cs 11).toList = s.toList
  · have hw : which s = 1 := by rw [which, if_neg e0, if_pos e1]
    rw [hw]
    go_wp2
    refine bodyPost_ret (v := .tuple #[.agg #[.string (cs 11), .string (cs 12), .string (cs 13), .slice (some ⟨w.heap.size + 1 + 1 + 1 + 1, 0, none⟩) 4 4], .bool true]) (by simp [results, Tryd.results28, go_sem, r0, r1, r2, r3]) rfl ⟨w.heap.size + 1 + 1 + 1 + 1, ?_⟩
    rw [found, if_neg e0, if_pos e1, hw, samples, if_neg e0, if_pos e1]
    refine ⟨rfl, ?_, by omega, fun _ => ?_⟩
    · exact ((((hbw2.setCell (by go_size) _).setCell (by go_size) _).setCell (by go_size) _).setCell (by go_size) _)
    · exact (((hB2.far (by go_size) _).far (by go_size) _).far (by go_size) _).far (by go_size) _
  by_cases e2 : (cs 18).toList = s.toList
  · have hw : which s = 2 := by rw [which, if_neg e0, if_neg e1, if_pos e2]
    rw [hw]
    go_wp2
    refine bodyPost_ret (v := .tuple #[.agg #[.string (cs 18), .string (cs 19), .string (cs 20), .slice (some ⟨w.heap.size + 1 + 1 + 1 + 1 + 1, 0, none⟩) 4 4], .bool true]) (by simp [results, Tryd.results28, go_sem, r0, r1, r2, r3]) rfl ⟨w.heap.size + 1 + 1 + 1 + 1 + 1, ?_⟩
    rw [found, if_neg e0, if_neg e1, if_pos e2, hw, samples, if_neg e0, if_neg e1]
    refine ⟨rfl, ?_, by omega, fun _ => ?_⟩
    · exact ((((hbw2.setCell (by go_size) _).setCell (by go_size) _).setCell (by go_size) _).setCell (by go_size) _)
    · exact (((hB3.far (by go_size) _).far (by go_size) _).far (by go_size) _).far (by go_size) _
  have hw : which s = -1 := by rw [which, if_neg e0, if_neg e1, if_neg e2]
  rw [hw]
  go_wp2
  refine bodyPost_ret (v := .tuple #[.agg #[.string ⟨#[]⟩, .string ⟨#[]⟩, .string ⟨#[]⟩, .slice none 0 0], .bool false]) (by simp [results, Tryd.results28, go_sem, r0, r1, r2, r3]) rfl ⟨w.heap.size, ?_⟩
  rw [found, if_neg e0, if_neg e1, if_neg e2, hw]
  refine ⟨rfl, ?_, by omega, fun h => absurd h (by decide)⟩
  exact ((((hbw2.setCell (by go_size) _).setCell (by go_size) _).setCell (by go_size) _).setCell (by go_size) _)
end Go.Proofs.YtmkidbenndhhjaaDoor.Lx
