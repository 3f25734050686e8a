/-
  What the walks lean on of the library's variables.
-/
import Derived.Test.YtacgnbelcpmjfaaGreatDoorMemA
import Derived.Test.YtacgnbelcpmjfaaGreatDoorProg
import Derived.Lib.LaidTab
import Derived.Lib.ItoaNum
import Derived.WalkSmall
set_option linter.unusedVariables false
namespace Go.Proofs.YtacgnbelcpmjfaaGreatDoor.Dx
open Go.RowKit Go.Proofs Mx

theorem gPow : Tryz.prog.globalNamed "internal/strconv.uint64pow10" = some 0 := by kernel_rfl
theorem gBruijn : Tryz.prog.globalNamed "math/bits.deBruijn64tab" = some 2 := by kernel_rfl
/-- Below it lie the library's variables that the walks read. -/
abbrev LB : Nat := Nat.max (Nat.max 3 4) (Nat.max 0 2) + 1
structure Env (w : World) : Prop where
  synt : ∃ t p, w.cell? ⟨3, 0, none⟩ = some (.iface t p)
  rang : ∃ t p, w.cell? ⟨4, 0, none⟩ = some (.iface t p)
  pow : Lib.TabIs Tryz.prog w "internal/strconv.uint64pow10" .u64 Lib.pow10Tab
  big : LB ≤ w.heap.size
theorem Env.below {w w' : World} {B : Nat} (h : Env w) (hb : Below B w w') (hB : LB ≤ B) : Env w' :=
  ⟨h.synt.imp fun t => Exists.imp fun p e => (hb.cell (p := ⟨3, 0, none⟩) (Nat.lt_of_lt_of_le (by decide) hB)).trans e,
   h.rang.imp fun t => Exists.imp fun p e => (hb.cell (p := ⟨4, 0, none⟩) (Nat.lt_of_lt_of_le (by decide) hB)).trans e,
   var?_below hb gPow (Nat.lt_of_lt_of_le (by decide) hB) h.pow, Nat.le_trans h.big hb.size⟩
theorem Env.grown {w w' : World} {g : Nat} (h : Env w) (hb : w.grownBy w' (some g)) (hg : LB ≤ g) : Env w' :=
  h.below (B := LB) ⟨hb.os, hb.tape, hb.output, hb.size, fun k hk => hb.block k (by have := h.big; omega) (by intro e; injection e with e; omega)⟩ (Nat.le_refl _)
theorem Env.drewN {w : World} (h : Env w) (n : Nat) : Env (w.drewN n) := ⟨h.synt, h.rang, h.pow, h.big⟩
theorem Env.drew {w : World} (h : Env w) : Env w.drew := h.drewN 1
end Go.Proofs.YtacgnbelcpmjfaaGreatDoor.Dx
