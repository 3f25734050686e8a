/-
  WALKS: may.
-/
import Derived.Test.YtmkidbenndhhjaaDoorEq
import Derived.RegionTactic
set_option linter.unusedVariables false
set_option linter.unusedSimpArgs false
namespace Go.Proofs.YtmkidbenndhhjaaDoor.Dx
open Go.RowKit Go.Proofs Mx

theorem keep1 {W : World} {p q0 : Addr} {v0 u : Value} (h : W.cell? q0 = some v0) (n0 : q0.block ≠ p.block ∨ q0.off ≠ p.off) : (W.setCell p u).drew.cell? q0 = some v0 := set_far h n0
theorem keep1' {W : World} {p q0 : Addr} {v0 u : Value} (h : W.cell? q0 = some v0) (n0 : q0.block ≠ p.block ∨ q0.off ≠ p.off) : (W.setCell p u).cell? q0 = some v0 := set_far h n0
set_option maxRecDepth 100000 in
set_option maxHeartbeats 2000000 in
theorem may_other (p k : Int) (t : ByteArray) (s0 s1 s2 s3 n : Int) (w : World) (h1 : (k == 1) = false) (h2 : (k == 2) = false) (h3 : (k == 3) = false) (h4 : (k == 4) = false) (h5 : (k == 5) = false) :
    Calls Tryd.prog 42 #[.agg #[.int .i64 k, .int .i64 p, .string t, .int .u64 s0, .int .u64 s1, .int .u64 s2, .int .u64 s3, .int .i64 n]] w fun e w' => e = .returned (.bool (false)) ∧ Below w.heap.size w w' := by
  have heq := eql_word
  go_enter Tryd.func42, Tryd.ntmps42
  go_wp2_with fail
  go_ret
  exact ⟨rfl, ((Below.refl _ _).alloc (Nat.le_refl _) _).alloc (by simp) _⟩
set_option maxRecDepth 100000 in
set_option maxHeartbeats 2000000 in
theorem may_text (p k : Int) (t : ByteArray) (s0 s1 s2 s3 n : Int) (w : World) (h1 : (k == 1) = false) (h2 : (k == 2) = true) :
    Calls Tryd.prog 42 #[.agg #[.int .i64 k, .int .i64 p, .string t, .int .u64 s0, .int .u64 s1, .int .u64 s2, .int .u64 s3, .int .i64 n]] w fun e w' => e = .returned (.bool (eqW k p t s0 s1 s2 s3 n k p t 0 0 0 0 0)) ∧ Below w.heap.size w w' := by
  have heq := eql_word
  go_enter Tryd.func42, Tryd.ntmps42
  go_wp2_with fail
  go_ret
  exact ⟨rfl, ((Below.refl _ _).alloc (Nat.le_refl _) _).alloc (by simp) _⟩
set_option maxRecDepth 100000 in
set_option maxHeartbeats 2000000 in
theorem may_set (p k : Int) (t : ByteArray) (s0 s1 s2 s3 n : Int) (w : World) (h1 : (k == 1) = false) (h2 : (k == 2) = false) (h3 : (k == 3) = true) :
    Calls Tryd.prog 42 #[.agg #[.int .i64 k, .int .i64 p, .string t, .int .u64 s0, .int .u64 s1, .int .u64 s2, .int .u64 s3, .int .i64 n]] w fun e w' => e = .returned (.bool (eqW k p t s0 s1 s2 s3 n k p ⟨#[]⟩ s0 s1 s2 s3 0)) ∧ Below w.heap.size w w' := by
  have heq := eql_word
  go_enter Tryd.func42, Tryd.ntmps42
  go_wp2_with fail
  go_ret
  exact ⟨rfl, ((Below.refl _ _).alloc (Nat.le_refl _) _).alloc (by simp) _⟩
set_option maxRecDepth 100000 in
set_option maxHeartbeats 2000000 in
theorem may_num (p k : Int) (t : ByteArray) (s0 s1 s2 s3 n : Int) (w : World) (h1 : (k == 1) = false) (h2 : (k == 2) = false) (h3 : (k == 3) = false) (h4 : (k == 4) = true) (f1 : decide (0 ≤ n) = true) (f2 : decide (n ≤ 999999999) = true) :
    Calls Tryd.prog 42 #[.agg #[.int .i64 k, .int .i64 p, .string t, .int .u64 s0, .int .u64 s1, .int .u64 s2, .int .u64 s3, .int .i64 n]] w fun e w' => e = .returned (.bool (eqW k p t s0 s1 s2 s3 n k p ⟨#[]⟩ 0 0 0 0 n)) ∧ Below w.heap.size w w' := by
  have heq := eql_word
  have ba : Blk ((w.alloc (.cells #[.int .i64 k, .int .i64 p, .string t, .int .u64 s0, .int .u64 s1, .int .u64 s2, .int .u64 s3, .int .i64 n] 51)).alloc (.cells #[.int .i64 k, .int .i64 p, .string ⟨#[]⟩, .int .u64 0, .int .u64 0, .int .u64 0, .int .u64 0, .int .i64 0] 51)) w.heap.size 51 #[.int .i64 k, .int .i64 p, .string t, .int .u64 s0, .int .u64 s1, .int .u64 s2, .int .u64 s3, .int .i64 n] := (Blk.new_ rfl _ _).alloc _
  have bb : Blk ((w.alloc (.cells #[.int .i64 k, .int .i64 p, .string t, .int .u64 s0, .int .u64 s1, .int .u64 s2, .int .u64 s3, .int .i64 n] 51)).alloc (.cells #[.int .i64 k, .int .i64 p, .string ⟨#[]⟩, .int .u64 0, .int .u64 0, .int .u64 0, .int .u64 0, .int .i64 0] 51)) (w.heap.size + 1) 51 #[.int .i64 k, .int .i64 p, .string ⟨#[]⟩, .int .u64 0, .int .u64 0, .int .u64 0, .int .u64 0, .int .i64 0] := Blk.new_ (by simp) _ _
  have bl : Below w.heap.size w ((w.alloc (.cells #[.int .i64 k, .int .i64 p, .string t, .int .u64 s0, .int .u64 s1, .int .u64 s2, .int .u64 s3, .int .i64 n] 51)).alloc (.cells #[.int .i64 k, .int .i64 p, .string ⟨#[]⟩, .int .u64 0, .int .u64 0, .int .u64 0, .int .u64 0, .int .i64 0] 51)) := ((Below.refl _ _).alloc (Nat.le_refl _) _).alloc (by simp) _
  go_enter Tryd.func42, Tryd.ntmps42
  go_wp2_with fail
  generalize ((w.alloc (.cells #[.int .i64 k, .int .i64 p, .string t, .int .u64 s0, .int .u64 s1, .int .u64 s2, .int .u64 s3, .int .i64 n] 51)).alloc (.cells #[.int .i64 k, .int .i64 p, .string ⟨#[]⟩, .int .u64 0, .int .u64 0, .int .u64 0, .int .u64 0, .int .i64 0] 51)) = W2 at ba bb bl ⊢
  obtain ⟨x0, x1, x2, x3, x4, x5, x6, x7, xf⟩ := ba.facts8
  obtain ⟨z0, z1, z2, z3, z4, z5, z6, z7, zf⟩ := bb.facts8
  have HB := Lib.hid (And.intro ba (And.intro bb bl))
  have hW2 := bb.lt
  clear ba bb bl
  go_region_held3 (fun W => W.cell? ⟨w.heap.size, 7, none⟩ = some (.int .i64 n)) (first | assumption | exact keep1 (by assumption) (by first | (simp; done) | (simp; omega)) | exact keep1' (by assumption) (by first | (simp; done) | (simp; omega)) | go_keep) (fail)
  go_wp2_with fail
  go_ret
  exact ⟨rfl, Mx.below_drewN (HB.out.2.2.setCell (p := ⟨w.heap.size + 1, 7, none⟩) (Nat.le_succ _) _) 1⟩

set_option maxRecDepth 100000 in
set_option maxHeartbeats 2000000 in
theorem may_num1 (p k : Int) (t : ByteArray) (s0 s1 s2 s3 n : Int) (w : World) (h1 : (k == 1) = false) (h2 : (k == 2) = false) (h3 : (k == 3) = false) (h4 : (k == 4) = true) (f1 : decide (0 ≤ n) = false) :
    Calls Tryd.prog 42 #[.agg #[.int .i64 k, .int .i64 p, .string t, .int .u64 s0, .int .u64 s1, .int .u64 s2, .int .u64 s3, .int .i64 n]] w fun e w' => e = .returned (.bool (false)) ∧ Below w.heap.size w w' := by
  have heq := eql_word
  have ba : Blk ((w.alloc (.cells #[.int .i64 k, .int .i64 p, .string t, .int .u64 s0, .int .u64 s1, .int .u64 s2, .int .u64 s3, .int .i64 n] 51)).alloc (.cells #[.int .i64 k, .int .i64 p, .string ⟨#[]⟩, .int .u64 0, .int .u64 0, .int .u64 0, .int .u64 0, .int .i64 0] 51)) w.heap.size 51 #[.int .i64 k, .int .i64 p, .string t, .int .u64 s0, .int .u64 s1, .int .u64 s2, .int .u64 s3, .int .i64 n] := (Blk.new_ rfl _ _).alloc _
  have bb : Blk ((w.alloc (.cells #[.int .i64 k, .int .i64 p, .string t, .int .u64 s0, .int .u64 s1, .int .u64 s2, .int .u64 s3, .int .i64 n] 51)).alloc (.cells #[.int .i64 k, .int .i64 p, .string ⟨#[]⟩, .int .u64 0, .int .u64 0, .int .u64 0, .int .u64 0, .int .i64 0] 51)) (w.heap.size + 1) 51 #[.int .i64 k, .int .i64 p, .string ⟨#[]⟩, .int .u64 0, .int .u64 0, .int .u64 0, .int .u64 0, .int .i64 0] := Blk.new_ (by simp) _ _
  have bl : Below w.heap.size w ((w.alloc (.cells #[.int .i64 k, .int .i64 p, .string t, .int .u64 s0, .int .u64 s1, .int .u64 s2, .int .u64 s3, .int .i64 n] 51)).alloc (.cells #[.int .i64 k, .int .i64 p, .string ⟨#[]⟩, .int .u64 0, .int .u64 0, .int .u64 0, .int .u64 0, .int .i64 0] 51)) := ((Below.refl _ _).alloc (Nat.le_refl _) _).alloc (by simp) _
  go_enter Tryd.func42, Tryd.ntmps42
  go_wp2_with fail
  generalize ((w.alloc (.cells #[.int .i64 k, .int .i64 p, .string t, .int .u64 s0, .int .u64 s1, .int .u64 s2, .int .u64 s3, .int .i64 n] 51)).alloc (.cells #[.int .i64 k, .int .i64 p, .string ⟨#[]⟩, .int .u64 0, .int .u64 0, .int .u64 0, .int .u64 0, .int .i64 0] 51)) = W2 at ba bb bl ⊢
  obtain ⟨x0, x1, x2, x3, x4, x5, x6, x7, xf⟩ := ba.facts8
  obtain ⟨z0, z1, z2, z3, z4, z5, z6, z7, zf⟩ := bb.facts8
  have HB := Lib.hid (And.intro ba (And.intro bb bl))
  have hW2 := bb.lt
  clear ba bb bl
  go_region
  all_goals
    go_wp2_with fail
    go_ret
    first
      | exact ⟨rfl, Mx.below_drewN (HB.out.2.2.setCell (p := ⟨w.heap.size + 1, 7, none⟩) (Nat.le_succ _) _) 1⟩
      | exact ⟨rfl, (Mx.below_drewN HB.out.2.2 1).setCell (p := ⟨w.heap.size + 1, 7, none⟩) (Nat.le_succ _) _⟩

set_option maxRecDepth 100000 in
set_option maxHeartbeats 2000000 in
theorem may_num2 (p k : Int) (t : ByteArray) (s0 s1 s2 s3 n : Int) (w : World) (h1 : (k == 1) = false) (h2 : (k == 2) = false) (h3 : (k == 3) = false) (h4 : (k == 4) = true) (f1 : decide (0 ≤ n) = true) (f2 : decide (n ≤ 999999999) = false) :
    Calls Tryd.prog 42 #[.agg #[.int .i64 k, .int .i64 p, .string t, .int .u64 s0, .int .u64 s1, .int .u64 s2, .int .u64 s3, .int .i64 n]] w fun e w' => e = .returned (.bool (false)) ∧ Below w.heap.size w w' := by
  have heq := eql_word
  have ba : Blk ((w.alloc (.cells #[.int .i64 k, .int .i64 p, .string t, .int .u64 s0, .int .u64 s1, .int .u64 s2, .int .u64 s3, .int .i64 n] 51)).alloc (.cells #[.int .i64 k, .int .i64 p, .string ⟨#[]⟩, .int .u64 0, .int .u64 0, .int .u64 0, .int .u64 0, .int .i64 0] 51)) w.heap.size 51 #[.int .i64 k, .int .i64 p, .string t, .int .u64 s0, .int .u64 s1, .int .u64 s2, .int .u64 s3, .int .i64 n] := (Blk.new_ rfl _ _).alloc _
  have bb : Blk ((w.alloc (.cells #[.int .i64 k, .int .i64 p, .string t, .int .u64 s0, .int .u64 s1, .int .u64 s2, .int .u64 s3, .int .i64 n] 51)).alloc (.cells #[.int .i64 k, .int .i64 p, .string ⟨#[]⟩, .int .u64 0, .int .u64 0, .int .u64 0, .int .u64 0, .int .i64 0] 51)) (w.heap.size + 1) 51 #[.int .i64 k, .int .i64 p, .string ⟨#[]⟩, .int .u64 0, .int .u64 0, .int .u64 0, .int .u64 0, .int .i64 0] := Blk.new_ (by simp) _ _
  have bl : Below w.heap.size w ((w.alloc (.cells #[.int .i64 k, .int .i64 p, .string t, .int .u64 s0, .int .u64 s1, .int .u64 s2, .int .u64 s3, .int .i64 n] 51)).alloc (.cells #[.int .i64 k, .int .i64 p, .string ⟨#[]⟩, .int .u64 0, .int .u64 0, .int .u64 0, .int .u64 0, .int .i64 0] 51)) := ((Below.refl _ _).alloc (Nat.le_refl _) _).alloc (by simp) _
  go_enter Tryd.func42, Tryd.ntmps42
  go_wp2_with fail
  generalize ((w.alloc (.cells #[.int .i64 k, .int .i64 p, .string t, .int .u64 s0, .int .u64 s1, .int .u64 s2, .int .u64 s3, .int .i64 n] 51)).alloc (.cells #[.int .i64 k, .int .i64 p, .string ⟨#[]⟩, .int .u64 0, .int .u64 0, .int .u64 0, .int .u64 0, .int .i64 0] 51)) = W2 at ba bb bl ⊢
  obtain ⟨x0, x1, x2, x3, x4, x5, x6, x7, xf⟩ := ba.facts8
  obtain ⟨z0, z1, z2, z3, z4, z5, z6, z7, zf⟩ := bb.facts8
  have HB := Lib.hid (And.intro ba (And.intro bb bl))
  have hW2 := bb.lt
  clear ba bb bl
  go_region_held3 (fun W => W.cell? ⟨w.heap.size, 7, none⟩ = some (.int .i64 n)) (first | assumption | exact keep1 (by assumption) (by first | (simp; done) | (simp; omega)) | exact keep1' (by assumption) (by first | (simp; done) | (simp; omega)) | go_keep) (fail)
  go_wp2_with fail
  go_ret
  exact ⟨rfl, Mx.below_drewN (HB.out.2.2.setCell (p := ⟨w.heap.size + 1, 7, none⟩) (Nat.le_succ _) _) 1⟩

set_option maxRecDepth 100000 in
set_option maxHeartbeats 2000000 in
theorem may_name_true (p k : Int) (t : ByteArray) (s0 s1 s2 s3 n : Int) (w : World) (h1 : (k == 1) = true) (hs : t.size ≤ 400000000) (hn : nameB t.data.toList = true) :
    Calls Tryd.prog 42 #[.agg #[.int .i64 k, .int .i64 p, .string t, .int .u64 s0, .int .u64 s1, .int .u64 s2, .int .u64 s3, .int .i64 n]] w fun e w' => e = .returned (.bool (eqW k p t s0 s1 s2 s3 n k p t 0 0 0 0 0)) ∧ Below w.heap.size w w' := by
  have heq := eql_word
  have hcall := name_any t hs
  rw [hn] at hcall
  have HN := Lib.hid hcall
  clear hcall hn
  have ba : Blk ((w.alloc (.cells #[.int .i64 k, .int .i64 p, .string t, .int .u64 s0, .int .u64 s1, .int .u64 s2, .int .u64 s3, .int .i64 n] 51)).alloc (.cells #[.int .i64 k, .int .i64 p, .string ⟨#[]⟩, .int .u64 0, .int .u64 0, .int .u64 0, .int .u64 0, .int .i64 0] 51)) w.heap.size 51 #[.int .i64 k, .int .i64 p, .string t, .int .u64 s0, .int .u64 s1, .int .u64 s2, .int .u64 s3, .int .i64 n] := (Blk.new_ rfl _ _).alloc _
  have bb : Blk ((w.alloc (.cells #[.int .i64 k, .int .i64 p, .string t, .int .u64 s0, .int .u64 s1, .int .u64 s2, .int .u64 s3, .int .i64 n] 51)).alloc (.cells #[.int .i64 k, .int .i64 p, .string ⟨#[]⟩, .int .u64 0, .int .u64 0, .int .u64 0, .int .u64 0, .int .i64 0] 51)) (w.heap.size + 1) 51 #[.int .i64 k, .int .i64 p, .string ⟨#[]⟩, .int .u64 0, .int .u64 0, .int .u64 0, .int .u64 0, .int .i64 0] := Blk.new_ (by simp) _ _
  have bl : Below w.heap.size w ((w.alloc (.cells #[.int .i64 k, .int .i64 p, .string t, .int .u64 s0, .int .u64 s1, .int .u64 s2, .int .u64 s3, .int .i64 n] 51)).alloc (.cells #[.int .i64 k, .int .i64 p, .string ⟨#[]⟩, .int .u64 0, .int .u64 0, .int .u64 0, .int .u64 0, .int .i64 0] 51)) := ((Below.refl _ _).alloc (Nat.le_refl _) _).alloc (by simp) _
  go_enter Tryd.func42, Tryd.ntmps42
  go_wp2_with fail
  generalize ((w.alloc (.cells #[.int .i64 k, .int .i64 p, .string t, .int .u64 s0, .int .u64 s1, .int .u64 s2, .int .u64 s3, .int .i64 n] 51)).alloc (.cells #[.int .i64 k, .int .i64 p, .string ⟨#[]⟩, .int .u64 0, .int .u64 0, .int .u64 0, .int .u64 0, .int .i64 0] 51)) = W2 at ba bb bl ⊢
  obtain ⟨x0, x1, x2, x3, x4, x5, x6, x7, xf⟩ := ba.facts8
  obtain ⟨z0, z1, z2, z3, z4, z5, z6, z7, zf⟩ := bb.facts8
  have HB := Lib.hid (And.intro ba (And.intro bb bl))
  have hW2 := bb.lt
  clear ba bb bl
  go_region_held3 (fun W => W.cell? ⟨w.heap.size, 2, none⟩ = some (.string t)) (first | assumption | exact keep1 (by assumption) (by first | (simp; done) | (simp; omega)) | exact keep1' (by assumption) (by first | (simp; done) | (simp; omega)) | go_keep)
    (first | (go_at_call 21; refine (HN.out _).mono ?_; rintro e w4 ⟨rfl, hb4⟩; have BA := HB.out.1.drew.below hb4 HB.out.1.lt; have BB := HB.out.2.1.drew.below hb4 HB.out.2.1.lt; have BL := (Mx.below_drewN HB.out.2.2 1).trans (hb4.mono (Nat.le_of_lt (Nat.lt_trans (Nat.lt_succ_self _) hW2))); obtain ⟨y0, y1, y2, y3, y4, y5, y6, y7, yf⟩ := BA.facts8; obtain ⟨u0, u1, u2, u3, u4, u5, u6, u7, uf⟩ := BB.facts8; have HL := Lib.hid BL; clear BA BB BL))
  go_wp2_with fail
  go_ret
  exact ⟨rfl, HL.out.setCell (p := ⟨w.heap.size + 1, 2, none⟩) (Nat.le_succ _) _⟩
set_option maxRecDepth 100000 in
set_option maxHeartbeats 2000000 in
theorem may_name_false (p k : Int) (t : ByteArray) (s0 s1 s2 s3 n : Int) (w : World) (h1 : (k == 1) = true) (hs : t.size ≤ 400000000) (hn : nameB t.data.toList = false) :
    Calls Tryd.prog 42 #[.agg #[.int .i64 k, .int .i64 p, .string t, .int .u64 s0, .int .u64 s1, .int .u64 s2, .int .u64 s3, .int .i64 n]] w fun e w' => e = .returned (.bool (false)) ∧ Below w.heap.size w w' := by
  have heq := eql_word
  have hcall := name_any t hs
  rw [hn] at hcall
  have HN := Lib.hid hcall
  clear hcall hn
  have ba : Blk ((w.alloc (.cells #[.int .i64 k, .int .i64 p, .string t, .int .u64 s0, .int .u64 s1, .int .u64 s2, .int .u64 s3, .int .i64 n] 51)).alloc (.cells #[.int .i64 k, .int .i64 p, .string ⟨#[]⟩, .int .u64 0, .int .u64 0, .int .u64 0, .int .u64 0, .int .i64 0] 51)) w.heap.size 51 #[.int .i64 k, .int .i64 p, .string t, .int .u64 s0, .int .u64 s1, .int .u64 s2, .int .u64 s3, .int .i64 n] := (Blk.new_ rfl _ _).alloc _
  have bb : Blk ((w.alloc (.cells #[.int .i64 k, .int .i64 p, .string t, .int .u64 s0, .int .u64 s1, .int .u64 s2, .int .u64 s3, .int .i64 n] 51)).alloc (.cells #[.int .i64 k, .int .i64 p, .string ⟨#[]⟩, .int .u64 0, .int .u64 0, .int .u64 0, .int .u64 0, .int .i64 0] 51)) (w.heap.size + 1) 51 #[.int .i64 k, .int .i64 p, .string ⟨#[]⟩, .int .u64 0, .int .u64 0, .int .u64 0, .int .u64 0, .int .i64 0] := Blk.new_ (by simp) _ _
  have bl : Below w.heap.size w ((w.alloc (.cells #[.int .i64 k, .int .i64 p, .string t, .int .u64 s0, .int .u64 s1, .int .u64 s2, .int .u64 s3, .int .i64 n] 51)).alloc (.cells #[.int .i64 k, .int .i64 p, .string ⟨#[]⟩, .int .u64 0, .int .u64 0, .int .u64 0, .int .u64 0, .int .i64 0] 51)) := ((Below.refl _ _).alloc (Nat.le_refl _) _).alloc (by simp) _
  go_enter Tryd.func42, Tryd.ntmps42
  go_wp2_with fail
  generalize ((w.alloc (.cells #[.int .i64 k, .int .i64 p, .string t, .int .u64 s0, .int .u64 s1, .int .u64 s2, .int .u64 s3, .int .i64 n] 51)).alloc (.cells #[.int .i64 k, .int .i64 p, .string ⟨#[]⟩, .int .u64 0, .int .u64 0, .int .u64 0, .int .u64 0, .int .i64 0] 51)) = W2 at ba bb bl ⊢
  obtain ⟨x0, x1, x2, x3, x4, x5, x6, x7, xf⟩ := ba.facts8
  obtain ⟨z0, z1, z2, z3, z4, z5, z6, z7, zf⟩ := bb.facts8
  have HB := Lib.hid (And.intro ba (And.intro bb bl))
  have hW2 := bb.lt
  clear ba bb bl
  go_region_held3 (fun W => W.cell? ⟨w.heap.size, 2, none⟩ = some (.string t)) (first | assumption | exact keep1 (by assumption) (by first | (simp; done) | (simp; omega)) | exact keep1' (by assumption) (by first | (simp; done) | (simp; omega)) | go_keep)
    (first | (go_at_call 21; refine (HN.out _).mono ?_; rintro e w4 ⟨rfl, hb4⟩; have BA := HB.out.1.drew.below hb4 HB.out.1.lt; have BB := HB.out.2.1.drew.below hb4 HB.out.2.1.lt; have BL := (Mx.below_drewN HB.out.2.2 1).trans (hb4.mono (Nat.le_of_lt (Nat.lt_trans (Nat.lt_succ_self _) hW2))); obtain ⟨y0, y1, y2, y3, y4, y5, y6, y7, yf⟩ := BA.facts8; obtain ⟨u0, u1, u2, u3, u4, u5, u6, u7, uf⟩ := BB.facts8; have HL := Lib.hid BL; clear BA BB BL))
  go_wp2_with fail
  go_ret
  exact ⟨rfl, HL.out.setCell (p := ⟨w.heap.size + 1, 2, none⟩) (Nat.le_succ _) _⟩
set_option maxRecDepth 100000 in
set_option maxHeartbeats 2000000 in
theorem may_sign_long (p k : Int) (t : ByteArray) (s0 s1 s2 s3 n : Int) (w : World) (h1 : (k == 1) = false) (h2 : (k == 2) = false) (h3 : (k == 3) = false) (h4 : (k == 4) = false) (h5 : (k == 5) = true) (f1 : ((t.size : Int) == 1) = false) :
    Calls Tryd.prog 42 #[.agg #[.int .i64 k, .int .i64 p, .string t, .int .u64 s0, .int .u64 s1, .int .u64 s2, .int .u64 s3, .int .i64 n]] w fun e w' => e = .returned (.bool (false)) ∧ Below w.heap.size w w' := by
  have heq := eql_word
  have ba : Blk ((w.alloc (.cells #[.int .i64 k, .int .i64 p, .string t, .int .u64 s0, .int .u64 s1, .int .u64 s2, .int .u64 s3, .int .i64 n] 51)).alloc (.cells #[.int .i64 k, .int .i64 p, .string ⟨#[]⟩, .int .u64 0, .int .u64 0, .int .u64 0, .int .u64 0, .int .i64 0] 51)) w.heap.size 51 #[.int .i64 k, .int .i64 p, .string t, .int .u64 s0, .int .u64 s1, .int .u64 s2, .int .u64 s3, .int .i64 n] := (Blk.new_ rfl _ _).alloc _
  have bb : Blk ((w.alloc (.cells #[.int .i64 k, .int .i64 p, .string t, .int .u64 s0, .int .u64 s1, .int .u64 s2, .int .u64 s3, .int .i64 n] 51)).alloc (.cells #[.int .i64 k, .int .i64 p, .string ⟨#[]⟩, .int .u64 0, .int .u64 0, .int .u64 0, .int .u64 0, .int .i64 0] 51)) (w.heap.size + 1) 51 #[.int .i64 k, .int .i64 p, .string ⟨#[]⟩, .int .u64 0, .int .u64 0, .int .u64 0, .int .u64 0, .int .i64 0] := Blk.new_ (by simp) _ _
  have bl : Below w.heap.size w ((w.alloc (.cells #[.int .i64 k, .int .i64 p, .string t, .int .u64 s0, .int .u64 s1, .int .u64 s2, .int .u64 s3, .int .i64 n] 51)).alloc (.cells #[.int .i64 k, .int .i64 p, .string ⟨#[]⟩, .int .u64 0, .int .u64 0, .int .u64 0, .int .u64 0, .int .i64 0] 51)) := ((Below.refl _ _).alloc (Nat.le_refl _) _).alloc (by simp) _
  go_enter Tryd.func42, Tryd.ntmps42
  go_wp2_with fail
  generalize ((w.alloc (.cells #[.int .i64 k, .int .i64 p, .string t, .int .u64 s0, .int .u64 s1, .int .u64 s2, .int .u64 s3, .int .i64 n] 51)).alloc (.cells #[.int .i64 k, .int .i64 p, .string ⟨#[]⟩, .int .u64 0, .int .u64 0, .int .u64 0, .int .u64 0, .int .i64 0] 51)) = W2 at ba bb bl ⊢
  obtain ⟨x0, x1, x2, x3, x4, x5, x6, x7, xf⟩ := ba.facts8
  obtain ⟨z0, z1, z2, z3, z4, z5, z6, z7, zf⟩ := bb.facts8
  have HB := Lib.hid (And.intro ba (And.intro bb bl))
  have hW2 := bb.lt
  clear ba bb bl
  go_region
  all_goals
    go_wp2_with fail
    go_ret
    first
      | exact ⟨rfl, Mx.below_drewN (HB.out.2.2.setCell (p := ⟨w.heap.size + 1, 2, none⟩) (Nat.le_succ _) _) 1⟩
      | exact ⟨rfl, (Mx.below_drewN HB.out.2.2 1).setCell (p := ⟨w.heap.size + 1, 2, none⟩) (Nat.le_succ _) _⟩

set_option maxRecDepth 100000 in
set_option maxHeartbeats 2000000 in
theorem may_sign_true (p k : Int) (t : ByteArray) (s0 s1 s2 s3 n : Int) (w : World) (h1 : (k == 1) = false) (h2 : (k == 2) = false) (h3 : (k == 3) = false) (h4 : (k == 4) = false) (h5 : (k == 5) = true) (b : UInt8) (hl : 0 < t.size) (hl2 : (0 : Int) < (t.size : Int)) (hb : t[0] = b) (f1 : ((t.size : Int) == 1) = true) (f2 : (classI (b.toNat : Int) == 5) = true) :
    Calls Tryd.prog 42 #[.agg #[.int .i64 k, .int .i64 p, .string t, .int .u64 s0, .int .u64 s1, .int .u64 s2, .int .u64 s3, .int .i64 n]] w fun e w' => e = .returned (.bool (eqW k p t s0 s1 s2 s3 n k p t 0 0 0 0 0)) ∧ Below w.heap.size w w' := by
  have heq := eql_word
  have ba : Blk ((w.alloc (.cells #[.int .i64 k, .int .i64 p, .string t, .int .u64 s0, .int .u64 s1, .int .u64 s2, .int .u64 s3, .int .i64 n] 51)).alloc (.cells #[.int .i64 k, .int .i64 p, .string ⟨#[]⟩, .int .u64 0, .int .u64 0, .int .u64 0, .int .u64 0, .int .i64 0] 51)) w.heap.size 51 #[.int .i64 k, .int .i64 p, .string t, .int .u64 s0, .int .u64 s1, .int .u64 s2, .int .u64 s3, .int .i64 n] := (Blk.new_ rfl _ _).alloc _
  have bb : Blk ((w.alloc (.cells #[.int .i64 k, .int .i64 p, .string t, .int .u64 s0, .int .u64 s1, .int .u64 s2, .int .u64 s3, .int .i64 n] 51)).alloc (.cells #[.int .i64 k, .int .i64 p, .string ⟨#[]⟩, .int .u64 0, .int .u64 0, .int .u64 0, .int .u64 0, .int .i64 0] 51)) (w.heap.size + 1) 51 #[.int .i64 k, .int .i64 p, .string ⟨#[]⟩, .int .u64 0, .int .u64 0, .int .u64 0, .int .u64 0, .int .i64 0] := Blk.new_ (by simp) _ _
  have bl : Below w.heap.size w ((w.alloc (.cells #[.int .i64 k, .int .i64 p, .string t, .int .u64 s0, .int .u64 s1, .int .u64 s2, .int .u64 s3, .int .i64 n] 51)).alloc (.cells #[.int .i64 k, .int .i64 p, .string ⟨#[]⟩, .int .u64 0, .int .u64 0, .int .u64 0, .int .u64 0, .int .i64 0] 51)) := ((Below.refl _ _).alloc (Nat.le_refl _) _).alloc (by simp) _
  go_enter Tryd.func42, Tryd.ntmps42
  go_wp2_with fail
  generalize ((w.alloc (.cells #[.int .i64 k, .int .i64 p, .string t, .int .u64 s0, .int .u64 s1, .int .u64 s2, .int .u64 s3, .int .i64 n] 51)).alloc (.cells #[.int .i64 k, .int .i64 p, .string ⟨#[]⟩, .int .u64 0, .int .u64 0, .int .u64 0, .int .u64 0, .int .i64 0] 51)) = W2 at ba bb bl ⊢
  obtain ⟨x0, x1, x2, x3, x4, x5, x6, x7, xf⟩ := ba.facts8
  obtain ⟨z0, z1, z2, z3, z4, z5, z6, z7, zf⟩ := bb.facts8
  have HB := Lib.hid (And.intro ba (And.intro bb bl))
  have hW2 := bb.lt
  clear ba bb bl
  go_region_held3 (fun W => W.cell? ⟨w.heap.size, 2, none⟩ = some (.string t)) (first | assumption | exact keep1 (by assumption) (by first | (simp; done) | (simp; omega)) | exact keep1' (by assumption) (by first | (simp; done) | (simp; omega)) | go_keep)
    ((first | (go_at_call 34; refine (class_q b _).mono ?_; rintro e w' ⟨rfl, rfl⟩)))
  go_wp2_with fail
  go_ret
  exact ⟨rfl, Mx.below_drewN (HB.out.2.2.setCell (p := ⟨w.heap.size + 1, 2, none⟩) (Nat.le_succ _) _) 1⟩

set_option maxRecDepth 100000 in
set_option maxHeartbeats 2000000 in
theorem may_sign_false (p k : Int) (t : ByteArray) (s0 s1 s2 s3 n : Int) (w : World) (h1 : (k == 1) = false) (h2 : (k == 2) = false) (h3 : (k == 3) = false) (h4 : (k == 4) = false) (h5 : (k == 5) = true) (b : UInt8) (hl : 0 < t.size) (hl2 : (0 : Int) < (t.size : Int)) (hb : t[0] = b) (f1 : ((t.size : Int) == 1) = true) (f2 : (classI (b.toNat : Int) == 5) = false) :
    Calls Tryd.prog 42 #[.agg #[.int .i64 k, .int .i64 p, .string t, .int .u64 s0, .int .u64 s1, .int .u64 s2, .int .u64 s3, .int .i64 n]] w fun e w' => e = .returned (.bool (false)) ∧ Below w.heap.size w w' := by
  have heq := eql_word
  have ba : Blk ((w.alloc (.cells #[.int .i64 k, .int .i64 p, .string t, .int .u64 s0, .int .u64 s1, .int .u64 s2, .int .u64 s3, .int .i64 n] 51)).alloc (.cells #[.int .i64 k, .int .i64 p, .string ⟨#[]⟩, .int .u64 0, .int .u64 0, .int .u64 0, .int .u64 0, .int .i64 0] 51)) w.heap.size 51 #[.int .i64 k, .int .i64 p, .string t, .int .u64 s0, .int .u64 s1, .int .u64 s2, .int .u64 s3, .int .i64 n] := (Blk.new_ rfl _ _).alloc _
  have bb : Blk ((w.alloc (.cells #[.int .i64 k, .int .i64 p, .string t, .int .u64 s0, .int .u64 s1, .int .u64 s2, .int .u64 s3, .int .i64 n] 51)).alloc (.cells #[.int .i64 k, .int .i64 p, .string ⟨#[]⟩, .int .u64 0, .int .u64 0, .int .u64 0, .int .u64 0, .int .i64 0] 51)) (w.heap.size + 1) 51 #[.int .i64 k, .int .i64 p, .string ⟨#[]⟩, .int .u64 0, .int .u64 0, .int .u64 0, .int .u64 0, .int .i64 0] := Blk.new_ (by simp) _ _
  have bl : Below w.heap.size w ((w.alloc (.cells #[.int .i64 k, .int .i64 p, .string t, .int .u64 s0, .int .u64 s1, .int .u64 s2, .int .u64 s3, .int .i64 n] 51)).alloc (.cells #[.int .i64 k, .int .i64 p, .string ⟨#[]⟩, .int .u64 0, .int .u64 0, .int .u64 0, .int .u64 0, .int .i64 0] 51)) := ((Below.refl _ _).alloc (Nat.le_refl _) _).alloc (by simp) _
  go_enter Tryd.func42, Tryd.ntmps42
  go_wp2_with fail
  generalize ((w.alloc (.cells #[.int .i64 k, .int .i64 p, .string t, .int .u64 s0, .int .u64 s1, .int .u64 s2, .int .u64 s3, .int .i64 n] 51)).alloc (.cells #[.int .i64 k, .int .i64 p, .string ⟨#[]⟩, .int .u64 0, .int .u64 0, .int .u64 0, .int .u64 0, .int .i64 0] 51)) = W2 at ba bb bl ⊢
  obtain ⟨x0, x1, x2, x3, x4, x5, x6, x7, xf⟩ := ba.facts8
  obtain ⟨z0, z1, z2, z3, z4, z5, z6, z7, zf⟩ := bb.facts8
  have HB := Lib.hid (And.intro ba (And.intro bb bl))
  have hW2 := bb.lt
  clear ba bb bl
  go_region_held3 (fun W => W.cell? ⟨w.heap.size, 2, none⟩ = some (.string t)) (first | assumption | exact keep1 (by assumption) (by first | (simp; done) | (simp; omega)) | exact keep1' (by assumption) (by first | (simp; done) | (simp; omega)) | go_keep)
    ((first | (go_at_call 34; refine (class_q b _).mono ?_; rintro e w' ⟨rfl, rfl⟩)))
  go_wp2_with fail
  go_ret
  exact ⟨rfl, Mx.below_drewN (HB.out.2.2.setCell (p := ⟨w.heap.size + 1, 2, none⟩) (Nat.le_succ _) _) 1⟩

end Go.Proofs.YtmkidbenndhhjaaDoor.Dx
