/-
  WALKS of package langs: the languages, found by name.
-/
import Derived.Test.YtmkidbenndhhjaaDoorProg
import Derived.Test.YtmkidbenndhhjaaDoorMem
import Derived.WalkKit
import Derived.WalkSpells
import Derived.WalkLawsBesides
import Derived.Outline
import Derived.Handy
set_option linter.unusedVariables false
namespace Go.Proofs.YtmkidbenndhhjaaDoor.Lx
open Go.RowKit Go.Proofs Mx

/-- The constants that a code bears as parts of built structs and slices, in the text's order. -/
def opStrs : Op → List ByteArray
  | .build _ ps => ps.toList.filterMap fun p => match p.2 with | .const (.string s) => some s | _ => none
  | .buildSlice _ _ ps => ps.toList.filterMap fun p => match p.2 with | .const (.string s) => some s | _ => none
  | .assign (.const (.string s)) => [s]
  | _ => []
def codeStrs : Code → List ByteArray
  | .seq a b => codeStrs a ++ codeStrs b
  | .block _ c => codeStrs c
  | .cond _ a b => codeStrs a ++ codeStrs b
  | .region _ ops _ => ops.toList.flatMap fun o => opStrs o.op
  | _ => []
noncomputable def strs32 : List ByteArray := codeStrs (Tryd.f32.body.getD .skip)
noncomputable def strs12 : List ByteArray := codeStrs (Tryd.f12.body.getD .skip)
noncomputable def cs (i : Nat) : ByteArray := strs32.getD i ByteArray.empty
noncomputable def rs (i : Nat) : ByteArray := strs12.getD i ByteArray.empty

/-- The cells of all languages; sample slices lie in the three blocks from B on. -/
noncomputable def all12 (B : Nat) : Array Value :=
  #[.string (cs 4), .string (cs 5), .string (cs 6), .slice (some ⟨B, 0, none⟩) 4 4,
    .string (cs 11), .string (cs 12), .string (cs 13), .slice (some ⟨B + 1, 0, none⟩) 4 4,
    .string (cs 18), .string (cs 19), .string (cs 20), .slice (some ⟨B + 1 + 1, 0, none⟩) 4 4]
set_option maxRecDepth 100000 in
theorem languages_any (w : World) :
    Calls Tryd.prog 32 #[] w fun e w' => e = .returned (.agg (all12 (w.heap.size + 1))) ∧ Below w.heap.size w w' ∧ w'.heap.size = w.heap.size + 4 ∧
      Blk w' (w.heap.size + 1) 9 #[.string (cs 0), .string (cs 1), .string (cs 2), .string (cs 3)] ∧
      Blk w' (w.heap.size + 1 + 1) 9 #[.string (cs 7), .string (cs 8), .string (cs 9), .string (cs 10)] ∧
      Blk w' (w.heap.size + 1 + 1 + 1) 9 #[.string (cs 14), .string (cs 15), .string (cs 16), .string (cs 17)] := by
  go_enter Tryd.func32, Tryd.ntmps32
  generalize hk : ByteArray.mk (List.toArray (List.append _ _)) = T
  obtain rfl : cs 2 = T := Eq.trans (by kernel_rfl) hk
  clear hk
  generalize hk : ByteArray.mk (List.toArray (List.append _ _)) = T
  obtain rfl : cs 3 = T := Eq.trans (by kernel_rfl) hk
  clear hk
  generalize hk : ByteArray.mk (List.toArray (List.append _ _)) = T
  obtain rfl : cs 5 = T := Eq.trans (by kernel_rfl) hk
  clear hk
  generalize hk : ByteArray.mk (List.toArray (List.append _ _)) = T
  obtain rfl : cs 6 = T := Eq.trans (by kernel_rfl) hk
  clear hk
  generalize hk : ByteArray.mk (List.toArray (List.append _ _)) = T
  obtain rfl : cs 8 = T := Eq.trans (by kernel_rfl) hk
  clear hk
  generalize hk : ByteArray.mk (List.toArray (List.append _ _)) = T
  obtain rfl : cs 12 = T := Eq.trans (by kernel_rfl) hk
  clear hk
  generalize hk : ByteArray.mk (List.toArray (List.append _ _)) = T
  obtain rfl : cs 15 = T := Eq.trans (by kernel_rfl) hk
  clear hk
  generalize hk : ByteArray.mk (List.toArray (List.append _ _)) = T
  obtain rfl : cs 16 = T := Eq.trans (by kernel_rfl) hk
  clear hk
  generalize hk : ByteArray.mk (List.toArray (List.append _ _)) = T
  obtain rfl : cs 17 = T := Eq.trans (by kernel_rfl) hk
  clear hk
  generalize hk : ByteArray.mk (List.toArray (List.append _ _)) = T
  obtain rfl : cs 19 = T := Eq.trans (by kernel_rfl) hk
  clear hk
  generalize hk : ByteArray.mk (List.toArray (List.append _ _)) = T
  obtain rfl : cs 20 = T := Eq.trans (by kernel_rfl) hk
  clear hk
  generalize hk : ByteArray.mk (List.toArray (List.cons _ _)) = T
  obtain rfl : cs 0 = T := Eq.trans (by kernel_rfl) hk
  clear hk
  generalize hk : ByteArray.mk (List.toArray (List.cons _ _)) = T
  obtain rfl : cs 1 = T := Eq.trans (by kernel_rfl) hk
  clear hk
  generalize hk : ByteArray.mk (List.toArray (List.cons _ _)) = T
  obtain rfl : cs 4 = T := Eq.trans (by kernel_rfl) hk
  clear hk
  generalize hk : ByteArray.mk (List.toArray (List.cons _ _)) = T
  obtain rfl : cs 7 = T := Eq.trans (by kernel_rfl) hk
  clear hk
  generalize hk : ByteArray.mk (List.toArray (List.cons _ _)) = T
  obtain rfl : cs 9 = T := Eq.trans (by kernel_rfl) hk
  clear hk
  generalize hk : ByteArray.mk (List.toArray (List.cons _ _)) = T
  obtain rfl : cs 10 = T := Eq.trans (by kernel_rfl) hk
  clear hk
  generalize hk : ByteArray.mk (List.toArray (List.cons _ _)) = T
  obtain rfl : cs 11 = T := Eq.trans (by kernel_rfl) hk
  clear hk
  generalize hk : ByteArray.mk (List.toArray (List.cons _ _)) = T
  obtain rfl : cs 13 = T := Eq.trans (by kernel_rfl) hk
  clear hk
  generalize hk : ByteArray.mk (List.toArray (List.cons _ _)) = T
  obtain rfl : cs 14 = T := Eq.trans (by kernel_rfl) hk
  clear hk
  generalize hk : ByteArray.mk (List.toArray (List.cons _ _)) = T
  obtain rfl : cs 18 = T := Eq.trans (by kernel_rfl) hk
  clear hk
  go_wp2
  refine bodyPost_ret (v := .agg (all12 (w.heap.size + 1))) (by simp [results, Tryd.results32, go_sem, all12]) rfl ?_
  refine ⟨rfl, by go_grown, by simp, ?_, ?_, ?_⟩
  · exact ((Blk.new_ (by simp) _ _).alloc _).alloc _
  · exact (Blk.new_ (by simp) _ _).alloc _
  · exact Blk.new_ (by simp) _ _

/-- One language's four cells. -/
noncomputable def lang4 (i B : Nat) : Array Value := #[.string (cs (7 * i + 4)), .string (cs (7 * i + 5)), .string (cs (7 * i + 6)), .slice (some ⟨B, 0, none⟩) 4 4]
end Go.Proofs.YtmkidbenndhhjaaDoor.Lx
