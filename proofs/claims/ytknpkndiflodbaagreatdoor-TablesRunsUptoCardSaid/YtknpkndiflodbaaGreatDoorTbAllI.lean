/-
  THE ITERATOR of Tables.All: what a state leads on by, in order.
-/
import Derived.Test.YtknpkndiflodbaaGreatDoorTbStand
import Derived.Test.YtknpkndiflodbaaGreatDoorTbAhead
set_option linter.unusedVariables false
set_option linter.unusedSimpArgs false
namespace Go.Proofs.YtknpkndiflodbaaGreatDoor.Tb
open Go Go.RowKit Go.Proofs Go.Maps Mx
def eK (L : List (Sy × Nat)) (k : Nat) : Sy × Nat := L.getD k (⟨0, 0, 0⟩, 0)
def encY (q : Sy × Nat) : Array Value := #[.agg #[.int .i64 q.1.kind, .int .u64 (wd q.1.set 0), .int .u64 (wd q.1.set 1), .int .u64 (wd q.1.set 2), .int .u64 (wd q.1.set 3), .int .i64 q.1.sort], .int .i64 (q.2 : Int)]
set_option maxRecDepth 100000 in
set_option maxHeartbeats 8000000 in
theorem all_iter (D : Nat → Prop) (l : List (Sy × Nat)) (v : Value) (n : Nat) (hn : 1 ≤ n) (w : World) (hv : SliceK D encEd 7 w v l) (b1 : Nat) (hb1 : Blk w b1 102 #[v]) (hD1 : D b1) :
    SeqO Fence.wide n Tryz.prog 61 #[.pointer (some ⟨b1, 0, none⟩)] (fun k => encY (eK l k)) (KeepD D) l.length w := by
  intro lp J Jx W hW' hJ hJx hY h0
  obtain ⟨va, vc, rfl, hc1, hc2, hk⟩ := hv
  have hmx : l.length ≤ 9223372036854775807 := by unfold maxLen at hc2; omega
  have hK0 : KeepD D w W := KeepD.below hW'
  have hWs : W.heap.size ≤ W.heap.size := Nat.le_refl _
  have hB1 := hb1.below hW' hb1.lt
  have x1 := hB1.cell 0
  have hro : Fence.wide.round = none := rfl
  have HC := Lib.hid (And.intro hk hK0)
  clear hk hK0 hW' hB1
  refine callsIn_of_wp Tryz.func61 rfl trivial ?_ hro
  simp only [Tryz.ntmps61, List.size_toArray, List.length_cons, List.length_nil, Nat.reduceAdd, Nat.reduceSub, Array.replicate_succ, Array.replicate_zero, List.push_toArray, List.append_toArray, List.nil_append, List.cons_append]
  simp at x1
  gi_wp2
  gi_loopw [7] (fun i wr => ∃ k : Nat, k ≤ l.length ∧ i = .int .i64 k ∧ J k wr ∧ KeepD D w wr) (fun i _ => l.length - (intOf i).toNat)
  case atStart => exact ⟨0, Nat.zero_le _, rfl, h0, HC.out.2⟩
  case round =>
    obtain ⟨i, hi, rfl, hJi, hKi⟩ := hrel
    clear h0 x1
    by_cases hlt : i < l.length
    · obtain ⟨⟨s, t⟩, hx⟩ : ∃ x, l[i]? = some x := ⟨_, List.getElem?_eq_getElem hlt⟩
      obtain ⟨kg, ko, rfl, hkD, hkr⟩ := HC.out.1 (by rintro rfl; simp at hlt)
      have k0 := hkr.cells i _ hx 0 _ rfl
      have k1 := hkr.cells i _ hx 1 _ rfl
      have k2 := hkr.cells i _ hx 2 _ rfl
      have k3 := hkr.cells i _ hx 3 _ rfl
      have k4 := hkr.cells i _ hx 4 _ rfl
      have k5 := hkr.cells i _ hx 5 _ rfl
      have k6 := hkr.cells i _ hx 6 _ rfl
      simp only [Nat.add_zero] at k0
      have k0 := (hKi.cell hkD hkr.lt).trans k0
      have k1 := (hKi.cell hkD hkr.lt).trans k1
      have k2 := (hKi.cell hkD hkr.lt).trans k2
      have k3 := (hKi.cell hkD hkr.lt).trans k3
      have k4 := (hKi.cell hkD hkr.lt).trans k4
      have k5 := (hKi.cell hkD hkr.lt).trans k5
      have k6 := (hKi.cell hkD hkr.lt).trans k6
      have hak : eK l i = (s, t) := by unfold eK; simp [List.getD, hx]
      have hlt1 : (i : Int) < (l.length : Int) := by omega
      have hi0 : (0 : Int) ≤ (i : Int) := by omega
      have hbW : Below wr.heap.size wr (wr.alloc (.cells #[.int .i64 s.kind, .int .u64 (wd s.set 0), .int .u64 (wd s.set 1), .int .u64 (wd s.set 2), .int .u64 (wd s.set 3), .int .i64 s.sort, .int .i64 (t : Int)] 125)) := (Below.refl _ wr).alloc (Nat.le_refl _) _
      have hJ2 := abides_below hJ hJi hbW
      have hyk := hY _ _ hJ2 hlt
      rw [hak] at hyk
      unfold encY at hyk
      simp only at hyk
      obtain ⟨fn, tmps, assign, body, hyr, hR⟩ := hyk
      have HX := Lib.hid (And.intro hKi hbW)
      clear hJi hKi hkr hbW hJ2 hx hak
      gi_wp2
      refine hR.mono ?_
      rintro e W' h
      obtain ⟨b, rfl, hb⟩ := yield_bool h
      clear hR hyr
      cases b
      · gi_wp2
        refine bodyPost_ret (results_none rfl _ _ _) rfl ?_
        exact ⟨⟨_, rfl⟩, .inr ⟨i + 1, by omega, hb.out.2 (by trivial)⟩⟩
      · gi_wp2
        have hnn := hb.out.1 (by trivial)
        go_roundw
        case rel => exact ⟨i + 1, by omega, rfl, hnn.1, (HX.out.1.trans (KeepD.below HX.out.2)).trans hnn.2⟩
        case measure => simp [intOf]; omega
    · obtain rfl : i = l.length := by omega
      have HJ := Lib.hid hJi
      clear hJi hKi
      gi_wp2
      refine bodyPost_end (results_none rfl _ _ _) rfl ?_
      exact ⟨⟨_, rfl⟩, .inl HJ.out⟩
end Go.Proofs.YtknpkndiflodbaaGreatDoor.Tb
