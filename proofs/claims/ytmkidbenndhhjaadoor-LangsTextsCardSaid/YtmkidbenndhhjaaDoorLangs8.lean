/-
  WALKS: the reference's texts and names; langs.All.
-/
import Derived.Test.YtmkidbenndhhjaaDoorLangs7
set_option linter.unusedVariables false
namespace Go.Proofs.YtmkidbenndhhjaaDoor.Lx
open Go.RowKit Go.Proofs Mx Bx

set_option maxRecDepth 100000 in
theorem refText_any (s : ByteArray) (w : World) :
    Calls Tryd.prog 12 #[.string s] w fun e w' => e = .returned (.string (textS s)) ∧ w = w' := by
  have fin : ∀ T, textS s = T → (Calls Tryd.prog 12 #[.string s] w fun e w' => e = .returned (.string T) ∧ w = w') → Calls Tryd.prog 12 #[.string s] w fun e w' => e = .returned (.string (textS s)) ∧ w = w' := by
    intro T h hc; rw [h]; exact hc
  have flip : ∀ (a b : List UInt8), a = b → (b == a) = true := fun a b h => by rw [h]; simp
  have flipn : ∀ (a b : List UInt8), a ≠ b → (b == a) = false := fun a b h => by simp; exact fun e => h e.symm
  by_cases e0 : (cs 4).toList = s.toList
  · refine fin (rs 1) (by rw [textS, if_pos e0]) ?_
    replace e0 := flip _ _ e0
    clear fin flip flipn
    go_enter Tryd.func12, Tryd.ntmps12
    generalize hk : ByteArray.mk (List.toArray (List.append _ _)) = T
    obtain rfl : rs 1 = T := Eq.trans (by kernel_rfl) hk
    clear hk
    generalize hk : ByteArray.mk (List.toArray (List.append _ _)) = T
    obtain rfl : rs 2 = T := Eq.trans (by kernel_rfl) hk
    clear hk
    generalize hk : ByteArray.mk (List.toArray (List.append _ _)) = T
    obtain rfl : rs 3 = T := Eq.trans (by kernel_rfl) hk
    clear hk
    generalize hk : ByteArray.mk (List.toArray (List.cons _ _)) = T
    obtain rfl : cs 4 = T := Eq.trans (by kernel_rfl) hk
    clear hk
    generalize hk : ByteArray.mk (List.toArray (List.cons _ _)) = T
    obtain rfl : cs 11 = T := Eq.trans (by kernel_rfl) hk
    clear hk
    generalize hk : ByteArray.mk (List.toArray (List.cons _ _)) = T
    obtain rfl : cs 18 = T := Eq.trans (by kernel_rfl) hk
    clear hk
    go_wp2
    go_ret
    exact ⟨rfl, rfl⟩
  by_cases e1 : (cs 11).toList = s.toList
  · refine fin (rs 2) (by rw [textS, if_neg e0, if_pos e1]) ?_
    replace e0 := flipn _ _ e0
    replace e1 := flip _ _ e1
    clear fin flip flipn
    go_enter Tryd.func12, Tryd.ntmps12
    generalize hk : ByteArray.mk (List.toArray (List.append _ _)) = T
    obtain rfl : rs 1 = T := Eq.trans (by kernel_rfl) hk
    clear hk
    generalize hk : ByteArray.mk (List.toArray (List.append _ _)) = T
    obtain rfl : rs 2 = T := Eq.trans (by kernel_rfl) hk
    clear hk
    generalize hk : ByteArray.mk (List.toArray (List.append _ _)) = T
    obtain rfl : rs 3 = T := Eq.trans (by kernel_rfl) hk
    clear hk
    generalize hk : ByteArray.mk (List.toArray (List.cons _ _)) = T
    obtain rfl : cs 4 = T := Eq.trans (by kernel_rfl) hk
    clear hk
    generalize hk : ByteArray.mk (List.toArray (List.cons _ _)) = T
    obtain rfl : cs 11 = T := Eq.trans (by kernel_rfl) hk
    clear hk
    generalize hk : ByteArray.mk (List.toArray (List.cons _ _)) = T
    obtain rfl : cs 18 = T := Eq.trans (by kernel_rfl) hk
    clear hk
    go_wp2
    go_ret
    exact ⟨rfl, rfl⟩
  by_cases e2 : (cs 18).toList = s.toList
  · refine fin (rs 3) (by rw [textS, if_neg e0, if_neg e1, if_pos e2]) ?_
    replace e0 := flipn _ _ e0
    replace e1 := flipn _ _ e1
    replace e2 := flip _ _ e2
    clear fin flip flipn
    go_enter Tryd.func12, Tryd.ntmps12
    generalize hk : ByteArray.mk (List.toArray (List.append _ _)) = T
    obtain rfl : rs 1 = T := Eq.trans (by kernel_rfl) hk
    clear hk
    generalize hk : ByteArray.mk (List.toArray (List.append _ _)) = T
    obtain rfl : rs 2 = T := Eq.trans (by kernel_rfl) hk
    clear hk
    generalize hk : ByteArray.mk (List.toArray (List.append _ _)) = T
    obtain rfl : rs 3 = T := Eq.trans (by kernel_rfl) hk
    clear hk
    generalize hk : ByteArray.mk (List.toArray (List.cons _ _)) = T
    obtain rfl : cs 4 = T := Eq.trans (by kernel_rfl) hk
    clear hk
    generalize hk : ByteArray.mk (List.toArray (List.cons _ _)) = T
    obtain rfl : cs 11 = T := Eq.trans (by kernel_rfl) hk
    clear hk
    generalize hk : ByteArray.mk (List.toArray (List.cons _ _)) = T
    obtain rfl : cs 18 = T := Eq.trans (by kernel_rfl) hk
    clear hk
    go_wp2
    go_ret
    exact ⟨rfl, rfl⟩
  · refine fin ⟨#[]⟩ (by rw [textS, if_neg e0, if_neg e1, if_neg e2]) ?_
    replace e0 := flipn _ _ e0
    replace e1 := flipn _ _ e1
    replace e2 := flipn _ _ e2
    clear fin flip flipn
    go_enter Tryd.func12, Tryd.ntmps12
    generalize hk : ByteArray.mk (List.toArray (List.append _ _)) = T
    obtain rfl : rs 1 = T := Eq.trans (by kernel_rfl) hk
    clear hk
    generalize hk : ByteArray.mk (List.toArray (List.append _ _)) = T
    obtain rfl : rs 2 = T := Eq.trans (by kernel_rfl) hk
    clear hk
    generalize hk : ByteArray.mk (List.toArray (List.append _ _)) = T
    obtain rfl : rs 3 = T := Eq.trans (by kernel_rfl) hk
    clear hk
    generalize hk : ByteArray.mk (List.toArray (List.cons _ _)) = T
    obtain rfl : cs 4 = T := Eq.trans (by kernel_rfl) hk
    clear hk
    generalize hk : ByteArray.mk (List.toArray (List.cons _ _)) = T
    obtain rfl : cs 11 = T := Eq.trans (by kernel_rfl) hk
    clear hk
    generalize hk : ByteArray.mk (List.toArray (List.cons _ _)) = T
    obtain rfl : cs 18 = T := Eq.trans (by kernel_rfl) hk
    clear hk
    go_wp2
    go_ret
    exact ⟨rfl, rfl⟩

/-- The names, in a block of their own. -/
theorem refNames_any (w : World) :
    Calls Tryd.prog 14 #[] w fun e w' => e = .returned (.slice (some ⟨w.heap.size, 0, none⟩) 3 3) ∧ Below w.heap.size w w' ∧ w'.heap.size = w.heap.size + 1 ∧ Blk w' w.heap.size 9 #[.string (cs 4), .string (cs 11), .string (cs 18)] := by
  go_enter Tryd.func14, Tryd.ntmps14
  generalize hk : ByteArray.mk (List.toArray (List.cons _ _)) = T
  obtain rfl : cs 4 = T := Eq.trans (by kernel_rfl) hk
  clear hk
  generalize hk : ByteArray.mk (List.toArray (List.cons _ _)) = T
  obtain rfl : cs 11 = T := Eq.trans (by kernel_rfl) hk
  clear hk
  generalize hk : ByteArray.mk (List.toArray (List.cons _ _)) = T
  obtain rfl : cs 18 = T := Eq.trans (by kernel_rfl) hk
  clear hk
  go_wp2
  go_ret
  exact ⟨rfl, by go_grown, by simp, Blk.new_ rfl _ _⟩

theorem all_any (w : World) :
    Calls Tryd.prog 15 #[] w fun e w' => e = .returned (.func (.func 31) #[] #[]) ∧ w = w' := by
  go_enter Tryd.func15, Tryd.ntmps15
  go_wp2
  go_ret
  exact ⟨rfl, rfl⟩
end Go.Proofs.YtmkidbenndhhjaaDoor.Lx
