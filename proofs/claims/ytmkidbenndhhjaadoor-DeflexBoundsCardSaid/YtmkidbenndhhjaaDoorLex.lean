/-
  WALKS: Lex, All, Name.
-/
import Derived.Test.YtmkidbenndhhjaaDoorRead
set_option linter.unusedVariables false
set_option linter.unusedSimpArgs false
namespace Go.Proofs.YtmkidbenndhhjaaDoor.Dx
open Go.RowKit Go.Proofs Mx

/-- What Lex answers: the words, a place, an error's number. -/
def lexR (l : List UInt8) : List (Nat × Wd) × Int × Int := if (readR l).2.2 = 0 then ((readR l).1, 0, 0) else ([], (readR l).2.1, (readR l).2.2)
def LexOut (w : World) (r : List (Nat × Wd) × Int × Int) (e : Ending) (w' : World) : Prop :=
  ∃ a n c, e = .returned (.tuple #[.slice a n c, .int .i64 r.2.1, .int .i64 r.2.2]) ∧ w'.ownsRow w.heap.size 51 8 (.slice a n c) r.1.length (wcells r.1) ∧ Below w.heap.size w w'
theorem own_low {w : World} {B B' : Nat} {e : TypeId} {size : Nat} {v : Value} {n : Nat} {xs : List Value} (h : w.ownsRow B e size v n xs) (hB : B' ≤ B) : w.ownsRow B' e size v n xs := by
  refine ⟨h.1, ?_⟩
  rcases h.2 with h | ⟨g, cap, cur, hv, hg, hh, r⟩
  · exact .inl h
  · exact .inr ⟨g, cap, cur, hv, Nat.le_trans hB hg, hh, r⟩

set_option maxRecDepth 100000 in
set_option maxHeartbeats 1000000 in
theorem lex_any (s : ByteArray) (w : World) (E : Env w) :
    Calls Tryd.prog 23 #[.string s] w (LexOut w (lexR s.data.toList)) := by
  have hmf : ∀ (fn : Fn) (first cap : Array Value) (w : World), (Instr.makeFunc fn first cap).run Tryd.prog w = .ok (.func fn first cap) w := fun _ _ _ _ => rfl
  have hread := read_lex w w.heap.size s (w.alloc (.cells #[.slice none 0 0] 36)) (Blk.new_ rfl _ _) ((Below.refl _ w).alloc (Nat.le_refl _) _) (Nat.le_refl _) E
  obtain ⟨R, hR⟩ : ∃ R, readR s.data.toList = R := ⟨_, rfl⟩
  rw [hR] at hread
  obtain ⟨ws, at_, en⟩ := R
  have H := Lib.hid (And.intro hread hR)
  clear hread hR E
  go_enter Tryd.func23, Tryd.ntmps23
  go_wp2_with fail
  refine H.out.1.mono ?_
  rintro e w2 ⟨rfl, v, hX⟩
  obtain ⟨B, hB, ho⟩ := hX.own
  obtain ⟨sa, sn, sc, rfl⟩ := own_slice ho
  have c0 := hX.cell.cell 0
  by_cases h0 : en = 0
  · subst h0
    have HX := Lib.hid (And.intro hX (own_low ho (Nat.le_of_lt hB)))
    clear hX ho
    simp at c0
    go_wp2_with fail
    go_ret3
    refine ⟨sa, sn, sc, ?_, ?_, HX.out.1.bel⟩
    · rw [lexR, H.out.2]; rfl
    · rw [lexR, H.out.2]; exact HX.out.2
  · have hne : (en != 0) = true := by simpa using h0
    have HX := Lib.hid (And.intro hX h0)
    clear hX ho h0
    go_wp2_with fail
    go_ret3
    refine ⟨none, 0, 0, ?_, ?_, HX.out.1.bel⟩
    · rw [lexR, H.out.2, if_neg HX.out.2]; rfl
    · rw [lexR, H.out.2, if_neg HX.out.2]
      exact ⟨rfl, .inl ⟨rfl, rfl⟩⟩
theorem all_any (s : ByteArray) (w : World) :
    Calls Tryd.prog 25 #[.string s] w fun e w' => e = .returned (.func (.func 49) #[] #[.pointer (some ⟨w.heap.size, 0, none⟩)]) ∧ w' = w.alloc (.cells #[.string s] 9) := by
  have hmf : ∀ (fn : Fn) (first cap : Array Value) (w : World), (Instr.makeFunc fn first cap).run Tryd.prog w = .ok (.func fn first cap) w := fun _ _ _ _ => rfl
  go_enter Tryd.func25, Tryd.ntmps25
  go_wp2
  go_ret
  exact ⟨rfl, rfl⟩
end Go.Proofs.YtmkidbenndhhjaaDoor.Dx
