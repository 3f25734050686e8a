/-
  WALKS of package langs: whole.
-/
import Derived.Test.YtmkidbenndhhjaaDoorLangs4
import Derived.Deep.RegionHeld3
import Derived.Lib.LaidTab
set_option linter.unusedVariables false
namespace Go.Proofs.YtmkidbenndhhjaaDoor.Lx
open Go.RowKit Go.Proofs Mx Bx

/-- What strings.Fields leans on. -/
def Tab (w : World) : Prop := Lib.TabIs Tryd.prog w "strings.asciiSpace" .u8 Lib.asciiSpaceTab
theorem gSpace : Tryd.prog.globalNamed "strings.asciiSpace" = some 0 := by kernel_rfl
theorem Tab.below {w w' : World} {B : Nat} (h : Tab w) (hb : Below B w w') (hB : 0 < B) : Tab w' := var?_below hb gSpace hB h
def ascii (s : ByteArray) : Prop := ∀ (j : Nat) b, s.data.toList[j]? = some b → b.toNat < 128
/-- The whole text of a language: its text, then its keywords' lines. -/
def wholeS (t k : ByteArray) : ByteArray := ⟨(t.data.toList ++ kwS (Lib.fields k.data.toList)).toArray⟩

set_option maxRecDepth 100000 in
set_option maxHeartbeats 1000000 in
theorem whole_any (n t k : ByteArray) (v : Value) (w : World) (hT : Tab w) (hg : 0 < w.heap.size) (ha : ascii k) (hk : k.size ≤ 1000) (ht : t.size ≤ 1000000)
    (hn : (Lib.fields k.data.toList).length ≤ 1000) (hl : ∀ j, (kwS ((Lib.fields k.data.toList).take j)).length ≤ 1000000) (h1 : ∀ j, (kw1 ((Lib.fields k.data.toList).getD j [])).length ≤ 1000000) :
    Calls Tryd.prog 29 #[.agg #[.string n, .string t, .string k, v]] w fun e w' => e = .returned (.string (wholeS t k)) ∧ Below w.heap.size w w' := by
  go_enter Tryd.func29, Tryd.ntmps29
  go_wp2
  have hb0 : Below w.heap.size w (w.alloc (.cells #[.string n, .string t, .string k, v] 58)) := (Below.refl _ w).alloc (Nat.le_refl _) _
  have hB0 := Blk.new w 58 #[.string n, .string t, .string k, v]
  obtain ⟨w0, hw0⟩ : ∃ w0, w.alloc (.cells #[.string n, .string t, .string k, v] 58) = w0 := ⟨_, rfl⟩
  rw [hw0] at hb0 hB0 ⊢
  clear hw0
  obtain ⟨c0, c1, c2, c3, cf⟩ := hB0.facts4
  have hks : ∀ W, Below w.heap.size w W → W.cell? ⟨w.heap.size, 1, none⟩ = some (.string t) → W.cell? ⟨w.heap.size, 2, none⟩ = some (.string k) → Calls Tryd.prog 56 #[.string k] W fun e w' => ∃ A, e = .returned (.slice (some ⟨A, 0, none⟩) (Lib.fields k.data.toList).length (Lib.fields k.data.toList).length) ∧ A < w'.heap.size ∧ Below w.heap.size w w' ∧ (∀ i, i < (Lib.fields k.data.toList).length → w'.cell? ⟨A, i, none⟩ = some (.string ⟨((Lib.fields k.data.toList).getD i []).toArray⟩)) ∧ w'.cell? ⟨w.heap.size, 1, none⟩ = some (.string t) ∧ w'.cell? ⟨w.heap.size, 2, none⟩ = some (.string k) := by
    intro W hW e1 e2
    refine (Tryd.strings_Fields k W (by omega) ha (hT.below hW hg)).mono ?_
    rintro e w' ⟨rfl, rfl⟩
    refine ⟨W.heap.size, rfl, by simp, hW.alloc hW.size _, fun i hi => ?_, cell_alloc_ e1 _, cell_alloc_ e2 _⟩
    rw [(Blk.new W 9 _).cell i]
    simp [hi, List.getD]
  have hkl : (kwS (Lib.fields k.data.toList)).length ≤ 1000000 := by have := hl (Lib.fields k.data.toList).length; rwa [List.take_length] at this
  have hcat : ¬ 9223372036854775807 < t.size + (kwS (Lib.fields k.data.toList)).length := by omega
  go_region_held3 (fun W => W.cell? ⟨w.heap.size, 1, none⟩ = some (.string t) ∧ W.cell? ⟨w.heap.size, 2, none⟩ = some (.string k)) (first | exact ⟨‹_›, ‹_›⟩ | go_keep)
    (first | (go_at_call 56; refine (hks w0.drew hb0.drew c1 c2).mono ?_; rintro e w1 ⟨A, rfl, hA, hbA, hc, d1, d2⟩)
           | (go_at_call 55; refine (keywords_any A _ _ w1 hn hl h1 hA hc).mono ?_; rintro e w2 ⟨rfl, hbk⟩; have d3 := (hbk.cell (p := ⟨w.heap.size, 1, none⟩) (World.block_lt_of_cell? _ _ d1)).trans d1; have d4 := (hbk.cell (p := ⟨w.heap.size, 2, none⟩) (World.block_lt_of_cell? _ _ d2)).trans d2))
  go_wp2
  go_ret
  refine ⟨?_, hbA.trans (hbk.mono hbA.size)⟩
  congr 2
end Go.Proofs.YtmkidbenndhhjaaDoor.Lx
