/-
  WALK of the law TablesReads: moved, where the item stands in the state.
-/
import Derived.Test.YtknpkndiflodbaaGreatDoorTbItems
set_option linter.unusedVariables false
set_option linter.unusedSimpArgs false
namespace Go.Proofs.YtknpkndiflodbaaGreatDoor.Tb
open Go Go.RowKit Go.Proofs Go.Maps Mx
set_option maxRecDepth 100000 in
set_option maxHeartbeats 8000000 in
theorem moved_ok (g : Gr) (B : Nat) (tv : Value) (sm : List SM) (n : Int) (p d : Nat) (hd : d ≤ 2000000) (w : World) (hT : TabP g B tv sm w) (hm : (p, d + 1) ∈ (stAt sm n).items) :
    Calls Tryz.prog 26 #[tv, .int .i64 n, .agg #[.int .i64 (p : Int), .int .i64 (d : Int)]] w fun e w' => e = .returned (.bool true) ∧ Below w.heap.size w w' := by
  have hit := fun W h => items_any g B tv sm n W h
  have hlen : (stAt sm n).items.length ≤ 10000 := (hT.at_ n).len
  have H := Lib.hid (And.intro hT hm)
  clear hT hm
  go_enter Tryz.func26, Tryz.ntmps26
  go_wp2_with fail
  have hX : Blk (w.alloc (.cells #[.int .i64 (p : Int), .int .i64 (d : Int)] 53)) w.heap.size 53 #[.int .i64 (p : Int), .int .i64 (d : Int)] := Blk.new _ _ _
  have hb1 : Below w.heap.size w (w.alloc (.cells #[.int .i64 (p : Int), .int .i64 (d : Int)] 53)) := (Below.refl _ w).alloc (Nat.le_refl _) _
  generalize (w.alloc (.cells #[.int .i64 (p : Int), .int .i64 (d : Int)] 53)) = w1 at hX hb1 ⊢
  refine (hit w1 (H.out.1.below hb1)).mono ?_
  rintro e w2 ⟨v', rfl, hv', hb2⟩
  obtain ⟨ia, ic, rfl⟩ := own_shape hv'
  have A2 := Lib.hid (And.intro (own_sliceK encIt_len hv') (And.intro (hX.below hb2 hX.lt) (hb1.trans (hb2.mono hb1.size))))
  clear hv' hX hb1 hb2 hit
  go_wp2_with fail
  go_loopg [8] (stAt sm n).items.length (fun m v8 wx => ∃ i q : Nat, i ≤ (stAt sm n).items.length ∧ m = (stAt sm n).items.length - i ∧ v8 = .int .i64 i ∧ (p, d + 1) ∉ (stAt sm n).items.take i ∧ wx = w2.drewN q)
  case atStart => exact ⟨0, 0, by omega, rfl, rfl, by simp, rfl⟩
  case round =>
    obtain ⟨i, q, hi, hm, rfl, hno, rfl⟩ := hrel
    have hil : i < (stAt sm n).items.length := by
      rcases Nat.lt_or_ge i (stAt sm n).items.length with h | h
      · exact h
      · exact absurd (by rw [List.take_of_length_le h]; exact H.out.2) hno
    obtain ⟨⟨n1, d1⟩, hx⟩ : ∃ x, (stAt sm n).items[i]? = some x := ⟨_, List.getElem?_eq_getElem hil⟩
    obtain ⟨ia2, ic2, ei, _, _, hk1⟩ := A2.out.1
    injection ei with ei1 _ ei3
    subst ei1
    subst ei3
    obtain ⟨kg, ko, rfl, hkD, hkr⟩ := hk1 (by rintro h; rw [h] at hil; simp at hil)
    have c0 : (w2.drewN q).cell? _ = _ := hkr.cells i _ hx 0 _ rfl
    have c1 : (w2.drewN q).cell? _ = _ := hkr.cells i _ hx 1 _ rfl
    have x0 : (w2.drewN q).cell? ⟨w.heap.size, 0, none⟩ = some (.int .i64 (p : Int)) := A2.out.2.1.cell 0
    have x1 : (w2.drewN q).cell? ⟨w.heap.size, 1, none⟩ = some (.int .i64 (d : Int)) := A2.out.2.1.cell 1
    simp only [Nat.add_zero] at c0
    have hil1 : (i : Int) < ((stAt sm n).items.length : Int) := by omega
    have hi0 : (0 : Int) ≤ (i : Int) := by omega
    have hw1 : IntKind.i64.wrap ((d : Int) + 1) = (d : Int) + 1 := IntWalk.i64_in _ (by omega)
    have hqe := eql_item n1 d1 p ((d : Int) + 1)
    have hbq : Below w.heap.size w (w2.drewN q) := below_drewN A2.out.2.2 q
    have HM := Lib.hid (And.intro hm (And.intro hno (And.intro hx hbq)))
    generalize hwq : w2.drewN q = wq at c0 c1 x0 x1 ⊢
    have HQ := Lib.hid hwq
    clear hm hno hx hkr hbq hwq hk1
    go_upto_region 5 with fail
    go_quiet (fail)
    by_cases h : n1 = p ∧ d1 = d + 1
    · have h1 : (n1 : Int) = (p : Int) := by omega
      have h2 : (d1 : Int) = (d : Int) + 1 := by omega
      have HB := Lib.hid HM.out.2.2.2
      go_wp2_with fail
      go_ret
      refine ⟨rfl, below_drewN ?_ _⟩
      rw [← HQ.out]
      exact HB.out
    · have HN := Lib.hid h
      by_cases h1 : n1 = p
      · have h2 : ¬ ((d1 : Int) = (d : Int) + 1) := fun e => h ⟨h1, by omega⟩
        clear h
        go_wp2_with fail
        go_roundg ((stAt sm n).items.length - (i + 1))
        case measure => have := HM.out.1; omega
        case rel =>
          refine ⟨i + 1, _, by omega, rfl, rfl, ?_, by rw [← HQ.out, World.drewN_drewN]⟩
          rw [List.take_add_one, HM.out.2.2.1]
          intro h
          rcases List.mem_append.1 h with h | h
          · exact HM.out.2.1 h
          · simp at h; exact HN.out ⟨h.1.symm, h.2.symm⟩
      · have h2 : ¬ ((n1 : Int) = (p : Int)) := by omega
        clear h
        go_wp2_with fail
        go_roundg ((stAt sm n).items.length - (i + 1))
        case measure => have := HM.out.1; omega
        case rel =>
          refine ⟨i + 1, _, by omega, rfl, rfl, ?_, by rw [← HQ.out, World.drewN_drewN]⟩
          rw [List.take_add_one, HM.out.2.2.1]
          intro h
          rcases List.mem_append.1 h with h | h
          · exact HM.out.2.1 h
          · simp at h; exact HN.out ⟨h.1.symm, h.2.symm⟩
end Go.Proofs.YtknpkndiflodbaaGreatDoor.Tb
