/-
  Two words, two sets: whether they are equal.
  WALKS: may.
-/
import Derived.Test.YtacgnbelcpmjfaaGreatDoorReader
import Derived.ChangeKeysEq
import Derived.Laws.StructEq
import Derived.RegionTactic
set_option linter.unusedVariables false
set_option linter.unusedSimpArgs false
namespace Go.Proofs.YtacgnbelcpmjfaaGreatDoor.Dx
open Go.RowKit Go.Proofs Mx

theorem infoU64 : (Tryz.prog.info? 31).map (fun i => (i.zero, i.size, i.bytes)) = some (some (.int .u64 0), 1, 8) := by kernel_rfl
theorem eq_set (d : Nat) (a0 a1 a2 a3 b0 b1 b2 b3 : Int) (w : World) :
    (Op.equalIn (d + 2) 33 (.agg #[.int .u64 a0, .int .u64 a1, .int .u64 a2, .int .u64 a3]) (.agg #[.int .u64 b0, .int .u64 b1, .int .u64 b2, .int .u64 b3])).run Tryz.prog w = .ok (decide (a0 = b0) && decide (a1 = b1) && decide (a2 = b2) && decide (a3 = b3)) w := by
  obtain ⟨i0, hi, hz0, hz1, hz2⟩ := info_parts infoU64
  have hc : Tryz.prog.cellsOf 31 = 1 := by kernel_rfl
  rw [run_equalIn_array w (d + 1) _ _ Tryz.underlying33 hi, hc, show List.range 4 = [0, 1, 2, 3] from rfl]
  have hp : ∀ (xs : Array Value) (k : Nat) (v : Value) (w : World), xs[k]? = some v → (part 31 xs k).run Tryz.prog w = .ok v w := by
    intro xs k v w h
    simp [part, isAgg, run_underlying Tryz.underlying31, go_sem, h]
  have he : ∀ (a b : Int) (w : World), (Op.equalIn (d + 1) 31 (.int .u64 a) (.int .u64 b)).run Tryz.prog w = .ok (a == b) w := fun a b w => run_equalIn_int w d _ .u64 .u64 a b Tryz.underlying31
  have p0 : ∀ (a b c d : Int) (w : World), (part 31 #[.int .u64 a, .int .u64 b, .int .u64 c, .int .u64 d] 0).run Tryz.prog w = .ok (.int .u64 a) w := fun a b c d w => hp _ 0 _ w rfl
  have p1 : ∀ (a b c d : Int) (w : World), (part 31 #[.int .u64 a, .int .u64 b, .int .u64 c, .int .u64 d] 1).run Tryz.prog w = .ok (.int .u64 b) w := fun a b c d w => hp _ 1 _ w rfl
  have p2 : ∀ (a b c d : Int) (w : World), (part 31 #[.int .u64 a, .int .u64 b, .int .u64 c, .int .u64 d] 2).run Tryz.prog w = .ok (.int .u64 c) w := fun a b c d w => hp _ 2 _ w rfl
  have p3 : ∀ (a b c d : Int) (w : World), (part 31 #[.int .u64 a, .int .u64 b, .int .u64 c, .int .u64 d] 3).run Tryz.prog w = .ok (.int .u64 d) w := fun a b c d w => hp _ 3 _ w rfl
  simp only [Op.eqItems, Sem.run_bind, Nat.zero_mul, Nat.mul_one, p0, p1, p2, p3, Result.andThen_ok, he]
  by_cases h0 : a0 = b0
  · by_cases h1 : a1 = b1
    · by_cases h2 : a2 = b2
      · by_cases h3 : a3 = b3 <;> simp [h0, h1, h2, h3, p0, p1, p2, p3, he]
      · simp [h0, h1, h2, p0, p1, p2, p3, he]
    · simp [h0, h1, p0, p1, p2, p3, he]
  · simp [h0, p0, p1, p2, p3, he]
def eqW (k p : Int) (t : ByteArray) (a0 a1 a2 a3 n k' p' : Int) (t' : ByteArray) (b0 b1 b2 b3 n' : Int) : Bool :=
  decide (k = k') && decide (p = p') && decide (t.data.toList = t'.data.toList) && (decide (a0 = b0) && decide (a1 = b1) && decide (a2 = b2) && decide (a3 = b3)) && decide (n = n')
theorem eq_word (d : Nat) (k p : Int) (t : ByteArray) (a0 a1 a2 a3 n k' p' : Int) (t' : ByteArray) (b0 b1 b2 b3 n' : Int) (w : World) :
    (Op.equalIn (d + 3) 35 (.agg #[.int .i64 k, .int .i64 p, .string t, .int .u64 a0, .int .u64 a1, .int .u64 a2, .int .u64 a3, .int .i64 n]) (.agg #[.int .i64 k', .int .i64 p', .string t', .int .u64 b0, .int .u64 b1, .int .u64 b2, .int .u64 b3, .int .i64 n'])).run Tryz.prog w = .ok (eqW k p t a0 a1 a2 a3 n k' p' t' b0 b1 b2 b3 n') w := by
  have hf : (Tryz.prog.fieldsOf 35).toList.map (fun f => (f.name, f.type, f.offset)) = [("Kind", 30, 0), ("At", 3, 1), ("Text", 9, 2), ("Set", 33, 3), ("Number", 3, 7)] := by kernel_rfl
  rw [run_equalIn_struct w (d + 2) _ _ _ (by kernel_rfl) (by kernel_rfl)]
  generalize (Tryz.prog.fieldsOf 35).toList = fs at hf ⊢
  match fs, hf with
  | [⟨m0, y0, o0, _, _, _, _⟩, ⟨m1, y1, o1, _, _, _, _⟩, ⟨m2, y2, o2, _, _, _, _⟩, ⟨m3, y3, o3, _, _, _, _⟩, ⟨m4, y4, o4, _, _, _, _⟩], hf =>
    simp only [List.map_cons, List.map_nil, List.cons.injEq, Prod.mk.injEq, and_true] at hf
    obtain ⟨⟨rfl, rfl, rfl⟩, ⟨rfl, rfl, rfl⟩, ⟨rfl, rfl, rfl⟩, ⟨rfl, rfl, rfl⟩, ⟨rfl, rfl, rfl⟩⟩ := hf
    have hp : ∀ (y : TypeId) (u : TypeDesc), Tryz.prog.underlying y = some u → (match u with | .struct _ | .array _ _ => false | _ => true) = true → ∀ (xs : Array Value) (k : Nat) (v : Value) (w : World), xs[k]? = some v → (part y xs k).run Tryz.prog w = .ok v w := by
      intro y u hu hna xs k v w h
      cases u <;> simp at hna <;> simp [part, isAgg, run_underlying hu, go_sem, h]
    have q0 : ∀ (v0 v1 v2 v3 v4 v5 v6 v7 : Value) (w : World), (part 30 #[v0, v1, v2, v3, v4, v5, v6, v7] 0).run Tryz.prog w = .ok v0 w := fun _ _ _ _ _ _ _ _ w => hp _ _ Tryz.underlying30 rfl _ 0 _ w rfl
    have q1 : ∀ (v0 v1 v2 v3 v4 v5 v6 v7 : Value) (w : World), (part 3 #[v0, v1, v2, v3, v4, v5, v6, v7] 1).run Tryz.prog w = .ok v1 w := fun _ _ _ _ _ _ _ _ w => hp _ _ Tryz.underlying3 rfl _ 1 _ w rfl
    have q2 : ∀ (v0 v1 v2 v3 v4 v5 v6 v7 : Value) (w : World), (part 9 #[v0, v1, v2, v3, v4, v5, v6, v7] 2).run Tryz.prog w = .ok v2 w := fun _ _ _ _ _ _ _ _ w => hp _ _ Tryz.underlying9 rfl _ 2 _ w rfl
    have q4 : ∀ (v0 v1 v2 v3 v4 v5 v6 v7 : Value) (w : World), (part 3 #[v0, v1, v2, v3, v4, v5, v6, v7] 7).run Tryz.prog w = .ok v7 w := fun _ _ _ _ _ _ _ _ w => hp _ _ Tryz.underlying3 rfl _ 7 _ w rfl
    have q3 : ∀ (v0 v1 v2 v3 v4 v5 v6 v7 : Value) (w : World), (part 33 #[v0, v1, v2, v3, v4, v5, v6, v7] 3).run Tryz.prog w = .ok (.agg #[v3, v4, v5, v6]) w := by
      intro v0 v1 v2 v3 v4 v5 v6 v7 w
      simp [part, isAgg, run_underlying Tryz.underlying33, go_sem]
    have e0 : ∀ (a b : Int) (w : World), (Op.equalIn (d + 2) 30 (.int .i64 a) (.int .i64 b)).run Tryz.prog w = .ok (a == b) w := fun a b w => run_equalIn_int w (d + 1) _ .i64 .i64 a b Tryz.underlying30
    have e1 : ∀ (a b : Int) (w : World), (Op.equalIn (d + 2) 3 (.int .i64 a) (.int .i64 b)).run Tryz.prog w = .ok (a == b) w := fun a b w => run_equalIn_int w (d + 1) _ .i64 .i64 a b Tryz.underlying3
    have e2 : ∀ (a b : ByteArray) (w : World), (Op.equalIn (d + 2) 9 (.string a) (.string b)).run Tryz.prog w = .ok (a.toList == b.toList) w := fun a b w => run_equalIn_string w (d + 1) _ a b Tryz.underlying9
    have e3 := eq_set d a0 a1 a2 a3 b0 b1 b2 b3
    simp only [ByteArray.toList_eq] at e2
    unfold eqW
    by_cases h0 : k = k'
    · by_cases h1 : p = p'
      · by_cases h2 : t.data.toList = t'.data.toList
        · by_cases h3 : (decide (a0 = b0) && decide (a1 = b1) && decide (a2 = b2) && decide (a3 = b3)) = true
          · rw [h3] at e3
            by_cases h4 : n = n' <;> simp [Op.eqFields, h0, h1, h2, h3, h4, q0, q1, q2, q3, q4, e0, e1, e2, e3]
          · have h3' : (decide (a0 = b0) && decide (a1 = b1) && decide (a2 = b2) && decide (a3 = b3)) = false := by simpa using h3
            rw [h3'] at e3
            simp [Op.eqFields, h0, h1, h2, h3', q0, q1, q2, q3, q4, e0, e1, e2, e3]
        · have h2' : ¬ t.data = t'.data := fun e => h2 (by rw [e])
          simp [Op.eqFields, h0, h1, h2', q0, q1, q2, q3, q4, e0, e1, e2]
      · simp [Op.eqFields, h0, h1, q0, q1, e0, e1]
    · simp [Op.eqFields, h0, q0, e0]
theorem eql_word (k p : Int) (t : ByteArray) (a0 a1 a2 a3 n k' p' : Int) (t' : ByteArray) (b0 b1 b2 b3 n' : Int) (w : World) :
    (binOp .eql 35 (.agg #[.int .i64 k, .int .i64 p, .string t, .int .u64 a0, .int .u64 a1, .int .u64 a2, .int .u64 a3, .int .i64 n]) (.agg #[.int .i64 k', .int .i64 p', .string t', .int .u64 b0, .int .u64 b1, .int .u64 b2, .int .u64 b3, .int .i64 n'])).run Tryz.prog w = .ok (.bool (eqW k p t a0 a1 a2 a3 n k' p' t' b0 b1 b2 b3 n')) w := by
  rw [run_eql_struct, show (10000 : Nat) = 9997 + 3 from rfl, eq_word]; rfl
theorem neq_word (k p : Int) (t : ByteArray) (a0 a1 a2 a3 n k' p' : Int) (t' : ByteArray) (b0 b1 b2 b3 n' : Int) (w : World) :
    (binOp .neq 35 (.agg #[.int .i64 k, .int .i64 p, .string t, .int .u64 a0, .int .u64 a1, .int .u64 a2, .int .u64 a3, .int .i64 n]) (.agg #[.int .i64 k', .int .i64 p', .string t', .int .u64 b0, .int .u64 b1, .int .u64 b2, .int .u64 b3, .int .i64 n'])).run Tryz.prog w = .ok (.bool (!eqW k p t a0 a1 a2 a3 n k' p' t' b0 b1 b2 b3 n')) w := by
  rw [run_neq_struct, show (10000 : Nat) = 9997 + 3 from rfl, eq_word]; rfl
theorem wd_inj (M N : Nat) (hM : M < 2 ^ 256) (hN : N < 2 ^ 256) (h0 : wd M 0 = wd N 0) (h1 : wd M 1 = wd N 1) (h2 : wd M 2 = wd N 2) (h3 : wd M 3 = wd N 3) : M = N := by
  unfold wd at h0 h1 h2 h3
  have e0 : (2 : Nat) ^ (64 * 0) = 1 := by decide
  have e1 : (2 : Nat) ^ (64 * 1) = 18446744073709551616 := by decide
  have e2 : (2 : Nat) ^ (64 * 2) = 340282366920938463463374607431768211456 := by decide
  have e3 : (2 : Nat) ^ (64 * 3) = 6277101735386680763835789423207666416102355444464034512896 := by decide
  have e4 : (2 : Nat) ^ 256 = 115792089237316195423570985008687907853269984665640564039457584007913129639936 := by decide
  rw [e0] at h0; rw [e1] at h1; rw [e2] at h2; rw [e3] at h3; rw [e4] at hM hN
  omega
/-- Two words, their places aside. -/
theorem eqW_iff (p q : Int) (v x : Wd) (hv : v.set < 2 ^ 256) (hx : x.set < 2 ^ 256) :
    eqW v.kind p ⟨v.text.toArray⟩ (wd v.set 0) (wd v.set 1) (wd v.set 2) (wd v.set 3) v.num x.kind q ⟨x.text.toArray⟩ (wd x.set 0) (wd x.set 1) (wd x.set 2) (wd x.set 3) x.num = true ↔ (p = q ∧ v = x) := by
  unfold eqW
  simp only [Bool.and_eq_true, decide_eq_true_eq]
  constructor
  · rintro ⟨⟨⟨⟨h1, h2⟩, h3⟩, ⟨⟨h4, h5⟩, h6⟩, h7⟩, h8⟩
    exact ⟨h2, Wd.ext_ h1 h3 (wd_inj _ _ hv hx h4 h5 h6 h7) h8⟩
  · rintro ⟨rfl, rfl⟩
    simp
end Go.Proofs.YtacgnbelcpmjfaaGreatDoor.Dx
set_option linter.unusedVariables false
set_option linter.unusedSimpArgs false
namespace Go.Proofs.YtacgnbelcpmjfaaGreatDoor.Dx
open Go.RowKit Go.Proofs Mx

theorem keep1 {W : World} {p q0 : Addr} {v0 u : Value} (h : W.cell? q0 = some v0) (n0 : q0.block ≠ p.block ∨ q0.off ≠ p.off) : (W.setCell p u).drew.cell? q0 = some v0 := set_far h n0
theorem keep1' {W : World} {p q0 : Addr} {v0 u : Value} (h : W.cell? q0 = some v0) (n0 : q0.block ≠ p.block ∨ q0.off ≠ p.off) : (W.setCell p u).cell? q0 = some v0 := set_far h n0
set_option maxRecDepth 100000 in
set_option maxHeartbeats 2000000 in
theorem may_other (p k : Int) (t : ByteArray) (s0 s1 s2 s3 n : Int) (w : World) (h1 : (k == 1) = false) (h2 : (k == 2) = false) (h3 : (k == 3) = false) (h4 : (k == 4) = false) (h5 : (k == 5) = false) :
    Calls Tryz.prog 25 #[.agg #[.int .i64 k, .int .i64 p, .string t, .int .u64 s0, .int .u64 s1, .int .u64 s2, .int .u64 s3, .int .i64 n]] w fun e w' => e = .returned (.bool (false)) ∧ Below w.heap.size w w' := by
  have heq := eql_word
  go_enter Tryz.func25, Tryz.ntmps25
  go_wp2_with fail
  go_ret
  exact ⟨rfl, ((Below.refl _ _).alloc (Nat.le_refl _) _).alloc (by simp) _⟩
set_option maxRecDepth 100000 in
set_option maxHeartbeats 2000000 in
theorem may_text (p k : Int) (t : ByteArray) (s0 s1 s2 s3 n : Int) (w : World) (h1 : (k == 1) = false) (h2 : (k == 2) = true) :
    Calls Tryz.prog 25 #[.agg #[.int .i64 k, .int .i64 p, .string t, .int .u64 s0, .int .u64 s1, .int .u64 s2, .int .u64 s3, .int .i64 n]] w fun e w' => e = .returned (.bool (eqW k p t s0 s1 s2 s3 n k p t 0 0 0 0 0)) ∧ Below w.heap.size w w' := by
  have heq := eql_word
  go_enter Tryz.func25, Tryz.ntmps25
  go_wp2_with fail
  go_ret
  exact ⟨rfl, ((Below.refl _ _).alloc (Nat.le_refl _) _).alloc (by simp) _⟩
set_option maxRecDepth 100000 in
set_option maxHeartbeats 2000000 in
theorem may_set (p k : Int) (t : ByteArray) (s0 s1 s2 s3 n : Int) (w : World) (h1 : (k == 1) = false) (h2 : (k == 2) = false) (h3 : (k == 3) = true) :
    Calls Tryz.prog 25 #[.agg #[.int .i64 k, .int .i64 p, .string t, .int .u64 s0, .int .u64 s1, .int .u64 s2, .int .u64 s3, .int .i64 n]] w fun e w' => e = .returned (.bool (eqW k p t s0 s1 s2 s3 n k p ⟨#[]⟩ s0 s1 s2 s3 0)) ∧ Below w.heap.size w w' := by
  have heq := eql_word
  go_enter Tryz.func25, Tryz.ntmps25
  go_wp2_with fail
  go_ret
  exact ⟨rfl, ((Below.refl _ _).alloc (Nat.le_refl _) _).alloc (by simp) _⟩
set_option maxRecDepth 100000 in
set_option maxHeartbeats 2000000 in
theorem may_num (p k : Int) (t : ByteArray) (s0 s1 s2 s3 n : Int) (w : World) (h1 : (k == 1) = false) (h2 : (k == 2) = false) (h3 : (k == 3) = false) (h4 : (k == 4) = true) (f1 : decide (0 ≤ n) = true) (f2 : decide (n ≤ 999999999) = true) :
    Calls Tryz.prog 25 #[.agg #[.int .i64 k, .int .i64 p, .string t, .int .u64 s0, .int .u64 s1, .int .u64 s2, .int .u64 s3, .int .i64 n]] w fun e w' => e = .returned (.bool (eqW k p t s0 s1 s2 s3 n k p ⟨#[]⟩ 0 0 0 0 n)) ∧ Below w.heap.size w w' := by
  have heq := eql_word
  have ba : Blk ((w.alloc (.cells #[.int .i64 k, .int .i64 p, .string t, .int .u64 s0, .int .u64 s1, .int .u64 s2, .int .u64 s3, .int .i64 n] 35)).alloc (.cells #[.int .i64 k, .int .i64 p, .string ⟨#[]⟩, .int .u64 0, .int .u64 0, .int .u64 0, .int .u64 0, .int .i64 0] 35)) w.heap.size 35 #[.int .i64 k, .int .i64 p, .string t, .int .u64 s0, .int .u64 s1, .int .u64 s2, .int .u64 s3, .int .i64 n] := (Blk.new_ rfl _ _).alloc _
  have bb : Blk ((w.alloc (.cells #[.int .i64 k, .int .i64 p, .string t, .int .u64 s0, .int .u64 s1, .int .u64 s2, .int .u64 s3, .int .i64 n] 35)).alloc (.cells #[.int .i64 k, .int .i64 p, .string ⟨#[]⟩, .int .u64 0, .int .u64 0, .int .u64 0, .int .u64 0, .int .i64 0] 35)) (w.heap.size + 1) 35 #[.int .i64 k, .int .i64 p, .string ⟨#[]⟩, .int .u64 0, .int .u64 0, .int .u64 0, .int .u64 0, .int .i64 0] := Blk.new_ (by simp) _ _
  have bl : Below w.heap.size w ((w.alloc (.cells #[.int .i64 k, .int .i64 p, .string t, .int .u64 s0, .int .u64 s1, .int .u64 s2, .int .u64 s3, .int .i64 n] 35)).alloc (.cells #[.int .i64 k, .int .i64 p, .string ⟨#[]⟩, .int .u64 0, .int .u64 0, .int .u64 0, .int .u64 0, .int .i64 0] 35)) := ((Below.refl _ _).alloc (Nat.le_refl _) _).alloc (by simp) _
  go_enter Tryz.func25, Tryz.ntmps25
  go_wp2_with fail
  generalize ((w.alloc (.cells #[.int .i64 k, .int .i64 p, .string t, .int .u64 s0, .int .u64 s1, .int .u64 s2, .int .u64 s3, .int .i64 n] 35)).alloc (.cells #[.int .i64 k, .int .i64 p, .string ⟨#[]⟩, .int .u64 0, .int .u64 0, .int .u64 0, .int .u64 0, .int .i64 0] 35)) = W2 at ba bb bl ⊢
  obtain ⟨x0, x1, x2, x3, x4, x5, x6, x7, xf⟩ := ba.facts8
  obtain ⟨z0, z1, z2, z3, z4, z5, z6, z7, zf⟩ := bb.facts8
  have HB := Lib.hid (And.intro ba (And.intro bb bl))
  have hW2 := bb.lt
  clear ba bb bl
  go_region_held3 (fun W => W.cell? ⟨w.heap.size, 7, none⟩ = some (.int .i64 n)) (first | assumption | exact keep1 (by assumption) (by first | (simp; done) | (simp; omega)) | exact keep1' (by assumption) (by first | (simp; done) | (simp; omega)) | go_keep) (fail)
  go_wp2_with fail
  go_ret
  exact ⟨rfl, Mx.below_drewN (HB.out.2.2.setCell (p := ⟨w.heap.size + 1, 7, none⟩) (Nat.le_succ _) _) 1⟩

set_option maxRecDepth 100000 in
set_option maxHeartbeats 2000000 in
theorem may_num1 (p k : Int) (t : ByteArray) (s0 s1 s2 s3 n : Int) (w : World) (h1 : (k == 1) = false) (h2 : (k == 2) = false) (h3 : (k == 3) = false) (h4 : (k == 4) = true) (f1 : decide (0 ≤ n) = false) :
    Calls Tryz.prog 25 #[.agg #[.int .i64 k, .int .i64 p, .string t, .int .u64 s0, .int .u64 s1, .int .u64 s2, .int .u64 s3, .int .i64 n]] w fun e w' => e = .returned (.bool (false)) ∧ Below w.heap.size w w' := by
  have heq := eql_word
  have ba : Blk ((w.alloc (.cells #[.int .i64 k, .int .i64 p, .string t, .int .u64 s0, .int .u64 s1, .int .u64 s2, .int .u64 s3, .int .i64 n] 35)).alloc (.cells #[.int .i64 k, .int .i64 p, .string ⟨#[]⟩, .int .u64 0, .int .u64 0, .int .u64 0, .int .u64 0, .int .i64 0] 35)) w.heap.size 35 #[.int .i64 k, .int .i64 p, .string t, .int .u64 s0, .int .u64 s1, .int .u64 s2, .int .u64 s3, .int .i64 n] := (Blk.new_ rfl _ _).alloc _
  have bb : Blk ((w.alloc (.cells #[.int .i64 k, .int .i64 p, .string t, .int .u64 s0, .int .u64 s1, .int .u64 s2, .int .u64 s3, .int .i64 n] 35)).alloc (.cells #[.int .i64 k, .int .i64 p, .string ⟨#[]⟩, .int .u64 0, .int .u64 0, .int .u64 0, .int .u64 0, .int .i64 0] 35)) (w.heap.size + 1) 35 #[.int .i64 k, .int .i64 p, .string ⟨#[]⟩, .int .u64 0, .int .u64 0, .int .u64 0, .int .u64 0, .int .i64 0] := Blk.new_ (by simp) _ _
  have bl : Below w.heap.size w ((w.alloc (.cells #[.int .i64 k, .int .i64 p, .string t, .int .u64 s0, .int .u64 s1, .int .u64 s2, .int .u64 s3, .int .i64 n] 35)).alloc (.cells #[.int .i64 k, .int .i64 p, .string ⟨#[]⟩, .int .u64 0, .int .u64 0, .int .u64 0, .int .u64 0, .int .i64 0] 35)) := ((Below.refl _ _).alloc (Nat.le_refl _) _).alloc (by simp) _
  go_enter Tryz.func25, Tryz.ntmps25
  go_wp2_with fail
  generalize ((w.alloc (.cells #[.int .i64 k, .int .i64 p, .string t, .int .u64 s0, .int .u64 s1, .int .u64 s2, .int .u64 s3, .int .i64 n] 35)).alloc (.cells #[.int .i64 k, .int .i64 p, .string ⟨#[]⟩, .int .u64 0, .int .u64 0, .int .u64 0, .int .u64 0, .int .i64 0] 35)) = W2 at ba bb bl ⊢
  obtain ⟨x0, x1, x2, x3, x4, x5, x6, x7, xf⟩ := ba.facts8
  obtain ⟨z0, z1, z2, z3, z4, z5, z6, z7, zf⟩ := bb.facts8
  have HB := Lib.hid (And.intro ba (And.intro bb bl))
  have hW2 := bb.lt
  clear ba bb bl
  go_region
  all_goals
    go_wp2_with fail
    go_ret
    first
      | exact ⟨rfl, Mx.below_drewN (HB.out.2.2.setCell (p := ⟨w.heap.size + 1, 7, none⟩) (Nat.le_succ _) _) 1⟩
      | exact ⟨rfl, (Mx.below_drewN HB.out.2.2 1).setCell (p := ⟨w.heap.size + 1, 7, none⟩) (Nat.le_succ _) _⟩

set_option maxRecDepth 100000 in
set_option maxHeartbeats 2000000 in
theorem may_num2 (p k : Int) (t : ByteArray) (s0 s1 s2 s3 n : Int) (w : World) (h1 : (k == 1) = false) (h2 : (k == 2) = false) (h3 : (k == 3) = false) (h4 : (k == 4) = true) (f1 : decide (0 ≤ n) = true) (f2 : decide (n ≤ 999999999) = false) :
    Calls Tryz.prog 25 #[.agg #[.int .i64 k, .int .i64 p, .string t, .int .u64 s0, .int .u64 s1, .int .u64 s2, .int .u64 s3, .int .i64 n]] w fun e w' => e = .returned (.bool (false)) ∧ Below w.heap.size w w' := by
  have heq := eql_word
  have ba : Blk ((w.alloc (.cells #[.int .i64 k, .int .i64 p, .string t, .int .u64 s0, .int .u64 s1, .int .u64 s2, .int .u64 s3, .int .i64 n] 35)).alloc (.cells #[.int .i64 k, .int .i64 p, .string ⟨#[]⟩, .int .u64 0, .int .u64 0, .int .u64 0, .int .u64 0, .int .i64 0] 35)) w.heap.size 35 #[.int .i64 k, .int .i64 p, .string t, .int .u64 s0, .int .u64 s1, .int .u64 s2, .int .u64 s3, .int .i64 n] := (Blk.new_ rfl _ _).alloc _
  have bb : Blk ((w.alloc (.cells #[.int .i64 k, .int .i64 p, .string t, .int .u64 s0, .int .u64 s1, .int .u64 s2, .int .u64 s3, .int .i64 n] 35)).alloc (.cells #[.int .i64 k, .int .i64 p, .string ⟨#[]⟩, .int .u64 0, .int .u64 0, .int .u64 0, .int .u64 0, .int .i64 0] 35)) (w.heap.size + 1) 35 #[.int .i64 k, .int .i64 p, .string ⟨#[]⟩, .int .u64 0, .int .u64 0, .int .u64 0, .int .u64 0, .int .i64 0] := Blk.new_ (by simp) _ _
  have bl : Below w.heap.size w ((w.alloc (.cells #[.int .i64 k, .int .i64 p, .string t, .int .u64 s0, .int .u64 s1, .int .u64 s2, .int .u64 s3, .int .i64 n] 35)).alloc (.cells #[.int .i64 k, .int .i64 p, .string ⟨#[]⟩, .int .u64 0, .int .u64 0, .int .u64 0, .int .u64 0, .int .i64 0] 35)) := ((Below.refl _ _).alloc (Nat.le_refl _) _).alloc (by simp) _
  go_enter Tryz.func25, Tryz.ntmps25
  go_wp2_with fail
  generalize ((w.alloc (.cells #[.int .i64 k, .int .i64 p, .string t, .int .u64 s0, .int .u64 s1, .int .u64 s2, .int .u64 s3, .int .i64 n] 35)).alloc (.cells #[.int .i64 k, .int .i64 p, .string ⟨#[]⟩, .int .u64 0, .int .u64 0, .int .u64 0, .int .u64 0, .int .i64 0] 35)) = W2 at ba bb bl ⊢
  obtain ⟨x0, x1, x2, x3, x4, x5, x6, x7, xf⟩ := ba.facts8
  obtain ⟨z0, z1, z2, z3, z4, z5, z6, z7, zf⟩ := bb.facts8
  have HB := Lib.hid (And.intro ba (And.intro bb bl))
  have hW2 := bb.lt
  clear ba bb bl
  go_region_held3 (fun W => W.cell? ⟨w.heap.size, 7, none⟩ = some (.int .i64 n)) (first | assumption | exact keep1 (by assumption) (by first | (simp; done) | (simp; omega)) | exact keep1' (by assumption) (by first | (simp; done) | (simp; omega)) | go_keep) (fail)
  go_wp2_with fail
  go_ret
  exact ⟨rfl, Mx.below_drewN (HB.out.2.2.setCell (p := ⟨w.heap.size + 1, 7, none⟩) (Nat.le_succ _) _) 1⟩

set_option maxRecDepth 100000 in
set_option maxHeartbeats 2000000 in
theorem may_name_true (p k : Int) (t : ByteArray) (s0 s1 s2 s3 n : Int) (w : World) (h1 : (k == 1) = true) (hs : t.size ≤ 400000000) (hn : nameB t.data.toList = true) :
    Calls Tryz.prog 25 #[.agg #[.int .i64 k, .int .i64 p, .string t, .int .u64 s0, .int .u64 s1, .int .u64 s2, .int .u64 s3, .int .i64 n]] w fun e w' => e = .returned (.bool (eqW k p t s0 s1 s2 s3 n k p t 0 0 0 0 0)) ∧ Below w.heap.size w w' := by
  have heq := eql_word
  have hcall := name_any t hs
  rw [hn] at hcall
  have HN := Lib.hid hcall
  clear hcall hn
  have ba : Blk ((w.alloc (.cells #[.int .i64 k, .int .i64 p, .string t, .int .u64 s0, .int .u64 s1, .int .u64 s2, .int .u64 s3, .int .i64 n] 35)).alloc (.cells #[.int .i64 k, .int .i64 p, .string ⟨#[]⟩, .int .u64 0, .int .u64 0, .int .u64 0, .int .u64 0, .int .i64 0] 35)) w.heap.size 35 #[.int .i64 k, .int .i64 p, .string t, .int .u64 s0, .int .u64 s1, .int .u64 s2, .int .u64 s3, .int .i64 n] := (Blk.new_ rfl _ _).alloc _
  have bb : Blk ((w.alloc (.cells #[.int .i64 k, .int .i64 p, .string t, .int .u64 s0, .int .u64 s1, .int .u64 s2, .int .u64 s3, .int .i64 n] 35)).alloc (.cells #[.int .i64 k, .int .i64 p, .string ⟨#[]⟩, .int .u64 0, .int .u64 0, .int .u64 0, .int .u64 0, .int .i64 0] 35)) (w.heap.size + 1) 35 #[.int .i64 k, .int .i64 p, .string ⟨#[]⟩, .int .u64 0, .int .u64 0, .int .u64 0, .int .u64 0, .int .i64 0] := Blk.new_ (by simp) _ _
  have bl : Below w.heap.size w ((w.alloc (.cells #[.int .i64 k, .int .i64 p, .string t, .int .u64 s0, .int .u64 s1, .int .u64 s2, .int .u64 s3, .int .i64 n] 35)).alloc (.cells #[.int .i64 k, .int .i64 p, .string ⟨#[]⟩, .int .u64 0, .int .u64 0, .int .u64 0, .int .u64 0, .int .i64 0] 35)) := ((Below.refl _ _).alloc (Nat.le_refl _) _).alloc (by simp) _
  go_enter Tryz.func25, Tryz.ntmps25
  go_wp2_with fail
  generalize ((w.alloc (.cells #[.int .i64 k, .int .i64 p, .string t, .int .u64 s0, .int .u64 s1, .int .u64 s2, .int .u64 s3, .int .i64 n] 35)).alloc (.cells #[.int .i64 k, .int .i64 p, .string ⟨#[]⟩, .int .u64 0, .int .u64 0, .int .u64 0, .int .u64 0, .int .i64 0] 35)) = W2 at ba bb bl ⊢
  obtain ⟨x0, x1, x2, x3, x4, x5, x6, x7, xf⟩ := ba.facts8
  obtain ⟨z0, z1, z2, z3, z4, z5, z6, z7, zf⟩ := bb.facts8
  have HB := Lib.hid (And.intro ba (And.intro bb bl))
  have hW2 := bb.lt
  clear ba bb bl
  go_region_held3 (fun W => W.cell? ⟨w.heap.size, 2, none⟩ = some (.string t)) (first | assumption | exact keep1 (by assumption) (by first | (simp; done) | (simp; omega)) | exact keep1' (by assumption) (by first | (simp; done) | (simp; omega)) | go_keep)
    (first | (go_at_call 16; refine (HN.out _).mono ?_; rintro e w4 ⟨rfl, hb4⟩; have BA := HB.out.1.drew.below hb4 HB.out.1.lt; have BB := HB.out.2.1.drew.below hb4 HB.out.2.1.lt; have BL := (Mx.below_drewN HB.out.2.2 1).trans (hb4.mono (Nat.le_of_lt (Nat.lt_trans (Nat.lt_succ_self _) hW2))); obtain ⟨y0, y1, y2, y3, y4, y5, y6, y7, yf⟩ := BA.facts8; obtain ⟨u0, u1, u2, u3, u4, u5, u6, u7, uf⟩ := BB.facts8; have HL := Lib.hid BL; clear BA BB BL))
  go_wp2_with fail
  go_ret
  exact ⟨rfl, HL.out.setCell (p := ⟨w.heap.size + 1, 2, none⟩) (Nat.le_succ _) _⟩
set_option maxRecDepth 100000 in
set_option maxHeartbeats 2000000 in
theorem may_name_false (p k : Int) (t : ByteArray) (s0 s1 s2 s3 n : Int) (w : World) (h1 : (k == 1) = true) (hs : t.size ≤ 400000000) (hn : nameB t.data.toList = false) :
    Calls Tryz.prog 25 #[.agg #[.int .i64 k, .int .i64 p, .string t, .int .u64 s0, .int .u64 s1, .int .u64 s2, .int .u64 s3, .int .i64 n]] w fun e w' => e = .returned (.bool (false)) ∧ Below w.heap.size w w' := by
  have heq := eql_word
  have hcall := name_any t hs
  rw [hn] at hcall
  have HN := Lib.hid hcall
  clear hcall hn
  have ba : Blk ((w.alloc (.cells #[.int .i64 k, .int .i64 p, .string t, .int .u64 s0, .int .u64 s1, .int .u64 s2, .int .u64 s3, .int .i64 n] 35)).alloc (.cells #[.int .i64 k, .int .i64 p, .string ⟨#[]⟩, .int .u64 0, .int .u64 0, .int .u64 0, .int .u64 0, .int .i64 0] 35)) w.heap.size 35 #[.int .i64 k, .int .i64 p, .string t, .int .u64 s0, .int .u64 s1, .int .u64 s2, .int .u64 s3, .int .i64 n] := (Blk.new_ rfl _ _).alloc _
  have bb : Blk ((w.alloc (.cells #[.int .i64 k, .int .i64 p, .string t, .int .u64 s0, .int .u64 s1, .int .u64 s2, .int .u64 s3, .int .i64 n] 35)).alloc (.cells #[.int .i64 k, .int .i64 p, .string ⟨#[]⟩, .int .u64 0, .int .u64 0, .int .u64 0, .int .u64 0, .int .i64 0] 35)) (w.heap.size + 1) 35 #[.int .i64 k, .int .i64 p, .string ⟨#[]⟩, .int .u64 0, .int .u64 0, .int .u64 0, .int .u64 0, .int .i64 0] := Blk.new_ (by simp) _ _
  have bl : Below w.heap.size w ((w.alloc (.cells #[.int .i64 k, .int .i64 p, .string t, .int .u64 s0, .int .u64 s1, .int .u64 s2, .int .u64 s3, .int .i64 n] 35)).alloc (.cells #[.int .i64 k, .int .i64 p, .string ⟨#[]⟩, .int .u64 0, .int .u64 0, .int .u64 0, .int .u64 0, .int .i64 0] 35)) := ((Below.refl _ _).alloc (Nat.le_refl _) _).alloc (by simp) _
  go_enter Tryz.func25, Tryz.ntmps25
  go_wp2_with fail
  generalize ((w.alloc (.cells #[.int .i64 k, .int .i64 p, .string t, .int .u64 s0, .int .u64 s1, .int .u64 s2, .int .u64 s3, .int .i64 n] 35)).alloc (.cells #[.int .i64 k, .int .i64 p, .string ⟨#[]⟩, .int .u64 0, .int .u64 0, .int .u64 0, .int .u64 0, .int .i64 0] 35)) = W2 at ba bb bl ⊢
  obtain ⟨x0, x1, x2, x3, x4, x5, x6, x7, xf⟩ := ba.facts8
  obtain ⟨z0, z1, z2, z3, z4, z5, z6, z7, zf⟩ := bb.facts8
  have HB := Lib.hid (And.intro ba (And.intro bb bl))
  have hW2 := bb.lt
  clear ba bb bl
  go_region_held3 (fun W => W.cell? ⟨w.heap.size, 2, none⟩ = some (.string t)) (first | assumption | exact keep1 (by assumption) (by first | (simp; done) | (simp; omega)) | exact keep1' (by assumption) (by first | (simp; done) | (simp; omega)) | go_keep)
    (first | (go_at_call 16; refine (HN.out _).mono ?_; rintro e w4 ⟨rfl, hb4⟩; have BA := HB.out.1.drew.below hb4 HB.out.1.lt; have BB := HB.out.2.1.drew.below hb4 HB.out.2.1.lt; have BL := (Mx.below_drewN HB.out.2.2 1).trans (hb4.mono (Nat.le_of_lt (Nat.lt_trans (Nat.lt_succ_self _) hW2))); obtain ⟨y0, y1, y2, y3, y4, y5, y6, y7, yf⟩ := BA.facts8; obtain ⟨u0, u1, u2, u3, u4, u5, u6, u7, uf⟩ := BB.facts8; have HL := Lib.hid BL; clear BA BB BL))
  go_wp2_with fail
  go_ret
  exact ⟨rfl, HL.out.setCell (p := ⟨w.heap.size + 1, 2, none⟩) (Nat.le_succ _) _⟩
set_option maxRecDepth 100000 in
set_option maxHeartbeats 2000000 in
theorem may_sign_long (p k : Int) (t : ByteArray) (s0 s1 s2 s3 n : Int) (w : World) (h1 : (k == 1) = false) (h2 : (k == 2) = false) (h3 : (k == 3) = false) (h4 : (k == 4) = false) (h5 : (k == 5) = true) (f1 : ((t.size : Int) == 1) = false) :
    Calls Tryz.prog 25 #[.agg #[.int .i64 k, .int .i64 p, .string t, .int .u64 s0, .int .u64 s1, .int .u64 s2, .int .u64 s3, .int .i64 n]] w fun e w' => e = .returned (.bool (false)) ∧ Below w.heap.size w w' := by
  have heq := eql_word
  have ba : Blk ((w.alloc (.cells #[.int .i64 k, .int .i64 p, .string t, .int .u64 s0, .int .u64 s1, .int .u64 s2, .int .u64 s3, .int .i64 n] 35)).alloc (.cells #[.int .i64 k, .int .i64 p, .string ⟨#[]⟩, .int .u64 0, .int .u64 0, .int .u64 0, .int .u64 0, .int .i64 0] 35)) w.heap.size 35 #[.int .i64 k, .int .i64 p, .string t, .int .u64 s0, .int .u64 s1, .int .u64 s2, .int .u64 s3, .int .i64 n] := (Blk.new_ rfl _ _).alloc _
  have bb : Blk ((w.alloc (.cells #[.int .i64 k, .int .i64 p, .string t, .int .u64 s0, .int .u64 s1, .int .u64 s2, .int .u64 s3, .int .i64 n] 35)).alloc (.cells #[.int .i64 k, .int .i64 p, .string ⟨#[]⟩, .int .u64 0, .int .u64 0, .int .u64 0, .int .u64 0, .int .i64 0] 35)) (w.heap.size + 1) 35 #[.int .i64 k, .int .i64 p, .string ⟨#[]⟩, .int .u64 0, .int .u64 0, .int .u64 0, .int .u64 0, .int .i64 0] := Blk.new_ (by simp) _ _
  have bl : Below w.heap.size w ((w.alloc (.cells #[.int .i64 k, .int .i64 p, .string t, .int .u64 s0, .int .u64 s1, .int .u64 s2, .int .u64 s3, .int .i64 n] 35)).alloc (.cells #[.int .i64 k, .int .i64 p, .string ⟨#[]⟩, .int .u64 0, .int .u64 0, .int .u64 0, .int .u64 0, .int .i64 0] 35)) := ((Below.refl _ _).alloc (Nat.le_refl _) _).alloc (by simp) _
  go_enter Tryz.func25, Tryz.ntmps25
  go_wp2_with fail
  generalize ((w.alloc (.cells #[.int .i64 k, .int .i64 p, .string t, .int .u64 s0, .int .u64 s1, .int .u64 s2, .int .u64 s3, .int .i64 n] 35)).alloc (.cells #[.int .i64 k, .int .i64 p, .string ⟨#[]⟩, .int .u64 0, .int .u64 0, .int .u64 0, .int .u64 0, .int .i64 0] 35)) = W2 at ba bb bl ⊢
  obtain ⟨x0, x1, x2, x3, x4, x5, x6, x7, xf⟩ := ba.facts8
  obtain ⟨z0, z1, z2, z3, z4, z5, z6, z7, zf⟩ := bb.facts8
  have HB := Lib.hid (And.intro ba (And.intro bb bl))
  have hW2 := bb.lt
  clear ba bb bl
  go_region
  all_goals
    go_wp2_with fail
    go_ret
    first
      | exact ⟨rfl, Mx.below_drewN (HB.out.2.2.setCell (p := ⟨w.heap.size + 1, 2, none⟩) (Nat.le_succ _) _) 1⟩
      | exact ⟨rfl, (Mx.below_drewN HB.out.2.2 1).setCell (p := ⟨w.heap.size + 1, 2, none⟩) (Nat.le_succ _) _⟩

set_option maxRecDepth 100000 in
set_option maxHeartbeats 2000000 in
theorem may_sign_true (p k : Int) (t : ByteArray) (s0 s1 s2 s3 n : Int) (w : World) (h1 : (k == 1) = false) (h2 : (k == 2) = false) (h3 : (k == 3) = false) (h4 : (k == 4) = false) (h5 : (k == 5) = true) (b : UInt8) (hl : 0 < t.size) (hl2 : (0 : Int) < (t.size : Int)) (hb : t[0] = b) (f1 : ((t.size : Int) == 1) = true) (f2 : (classI (b.toNat : Int) == 5) = true) :
    Calls Tryz.prog 25 #[.agg #[.int .i64 k, .int .i64 p, .string t, .int .u64 s0, .int .u64 s1, .int .u64 s2, .int .u64 s3, .int .i64 n]] w fun e w' => e = .returned (.bool (eqW k p t s0 s1 s2 s3 n k p t 0 0 0 0 0)) ∧ Below w.heap.size w w' := by
  have heq := eql_word
  have ba : Blk ((w.alloc (.cells #[.int .i64 k, .int .i64 p, .string t, .int .u64 s0, .int .u64 s1, .int .u64 s2, .int .u64 s3, .int .i64 n] 35)).alloc (.cells #[.int .i64 k, .int .i64 p, .string ⟨#[]⟩, .int .u64 0, .int .u64 0, .int .u64 0, .int .u64 0, .int .i64 0] 35)) w.heap.size 35 #[.int .i64 k, .int .i64 p, .string t, .int .u64 s0, .int .u64 s1, .int .u64 s2, .int .u64 s3, .int .i64 n] := (Blk.new_ rfl _ _).alloc _
  have bb : Blk ((w.alloc (.cells #[.int .i64 k, .int .i64 p, .string t, .int .u64 s0, .int .u64 s1, .int .u64 s2, .int .u64 s3, .int .i64 n] 35)).alloc (.cells #[.int .i64 k, .int .i64 p, .string ⟨#[]⟩, .int .u64 0, .int .u64 0, .int .u64 0, .int .u64 0, .int .i64 0] 35)) (w.heap.size + 1) 35 #[.int .i64 k, .int .i64 p, .string ⟨#[]⟩, .int .u64 0, .int .u64 0, .int .u64 0, .int .u64 0, .int .i64 0] := Blk.new_ (by simp) _ _
  have bl : Below w.heap.size w ((w.alloc (.cells #[.int .i64 k, .int .i64 p, .string t, .int .u64 s0, .int .u64 s1, .int .u64 s2, .int .u64 s3, .int .i64 n] 35)).alloc (.cells #[.int .i64 k, .int .i64 p, .string ⟨#[]⟩, .int .u64 0, .int .u64 0, .int .u64 0, .int .u64 0, .int .i64 0] 35)) := ((Below.refl _ _).alloc (Nat.le_refl _) _).alloc (by simp) _
  go_enter Tryz.func25, Tryz.ntmps25
  go_wp2_with fail
  generalize ((w.alloc (.cells #[.int .i64 k, .int .i64 p, .string t, .int .u64 s0, .int .u64 s1, .int .u64 s2, .int .u64 s3, .int .i64 n] 35)).alloc (.cells #[.int .i64 k, .int .i64 p, .string ⟨#[]⟩, .int .u64 0, .int .u64 0, .int .u64 0, .int .u64 0, .int .i64 0] 35)) = W2 at ba bb bl ⊢
  obtain ⟨x0, x1, x2, x3, x4, x5, x6, x7, xf⟩ := ba.facts8
  obtain ⟨z0, z1, z2, z3, z4, z5, z6, z7, zf⟩ := bb.facts8
  have HB := Lib.hid (And.intro ba (And.intro bb bl))
  have hW2 := bb.lt
  clear ba bb bl
  go_region_held3 (fun W => W.cell? ⟨w.heap.size, 2, none⟩ = some (.string t)) (first | assumption | exact keep1 (by assumption) (by first | (simp; done) | (simp; omega)) | exact keep1' (by assumption) (by first | (simp; done) | (simp; omega)) | go_keep)
    ((first | (go_at_call 37; refine (class_q b _).mono ?_; rintro e w' ⟨rfl, rfl⟩)))
  go_wp2_with fail
  go_ret
  exact ⟨rfl, Mx.below_drewN (HB.out.2.2.setCell (p := ⟨w.heap.size + 1, 2, none⟩) (Nat.le_succ _) _) 1⟩

set_option maxRecDepth 100000 in
set_option maxHeartbeats 2000000 in
theorem may_sign_false (p k : Int) (t : ByteArray) (s0 s1 s2 s3 n : Int) (w : World) (h1 : (k == 1) = false) (h2 : (k == 2) = false) (h3 : (k == 3) = false) (h4 : (k == 4) = false) (h5 : (k == 5) = true) (b : UInt8) (hl : 0 < t.size) (hl2 : (0 : Int) < (t.size : Int)) (hb : t[0] = b) (f1 : ((t.size : Int) == 1) = true) (f2 : (classI (b.toNat : Int) == 5) = false) :
    Calls Tryz.prog 25 #[.agg #[.int .i64 k, .int .i64 p, .string t, .int .u64 s0, .int .u64 s1, .int .u64 s2, .int .u64 s3, .int .i64 n]] w fun e w' => e = .returned (.bool (false)) ∧ Below w.heap.size w w' := by
  have heq := eql_word
  have ba : Blk ((w.alloc (.cells #[.int .i64 k, .int .i64 p, .string t, .int .u64 s0, .int .u64 s1, .int .u64 s2, .int .u64 s3, .int .i64 n] 35)).alloc (.cells #[.int .i64 k, .int .i64 p, .string ⟨#[]⟩, .int .u64 0, .int .u64 0, .int .u64 0, .int .u64 0, .int .i64 0] 35)) w.heap.size 35 #[.int .i64 k, .int .i64 p, .string t, .int .u64 s0, .int .u64 s1, .int .u64 s2, .int .u64 s3, .int .i64 n] := (Blk.new_ rfl _ _).alloc _
  have bb : Blk ((w.alloc (.cells #[.int .i64 k, .int .i64 p, .string t, .int .u64 s0, .int .u64 s1, .int .u64 s2, .int .u64 s3, .int .i64 n] 35)).alloc (.cells #[.int .i64 k, .int .i64 p, .string ⟨#[]⟩, .int .u64 0, .int .u64 0, .int .u64 0, .int .u64 0, .int .i64 0] 35)) (w.heap.size + 1) 35 #[.int .i64 k, .int .i64 p, .string ⟨#[]⟩, .int .u64 0, .int .u64 0, .int .u64 0, .int .u64 0, .int .i64 0] := Blk.new_ (by simp) _ _
  have bl : Below w.heap.size w ((w.alloc (.cells #[.int .i64 k, .int .i64 p, .string t, .int .u64 s0, .int .u64 s1, .int .u64 s2, .int .u64 s3, .int .i64 n] 35)).alloc (.cells #[.int .i64 k, .int .i64 p, .string ⟨#[]⟩, .int .u64 0, .int .u64 0, .int .u64 0, .int .u64 0, .int .i64 0] 35)) := ((Below.refl _ _).alloc (Nat.le_refl _) _).alloc (by simp) _
  go_enter Tryz.func25, Tryz.ntmps25
  go_wp2_with fail
  generalize ((w.alloc (.cells #[.int .i64 k, .int .i64 p, .string t, .int .u64 s0, .int .u64 s1, .int .u64 s2, .int .u64 s3, .int .i64 n] 35)).alloc (.cells #[.int .i64 k, .int .i64 p, .string ⟨#[]⟩, .int .u64 0, .int .u64 0, .int .u64 0, .int .u64 0, .int .i64 0] 35)) = W2 at ba bb bl ⊢
  obtain ⟨x0, x1, x2, x3, x4, x5, x6, x7, xf⟩ := ba.facts8
  obtain ⟨z0, z1, z2, z3, z4, z5, z6, z7, zf⟩ := bb.facts8
  have HB := Lib.hid (And.intro ba (And.intro bb bl))
  have hW2 := bb.lt
  clear ba bb bl
  go_region_held3 (fun W => W.cell? ⟨w.heap.size, 2, none⟩ = some (.string t)) (first | assumption | exact keep1 (by assumption) (by first | (simp; done) | (simp; omega)) | exact keep1' (by assumption) (by first | (simp; done) | (simp; omega)) | go_keep)
    ((first | (go_at_call 37; refine (class_q b _).mono ?_; rintro e w' ⟨rfl, rfl⟩)))
  go_wp2_with fail
  go_ret
  exact ⟨rfl, Mx.below_drewN (HB.out.2.2.setCell (p := ⟨w.heap.size + 1, 2, none⟩) (Nat.le_succ _) _) 1⟩

end Go.Proofs.YtacgnbelcpmjfaaGreatDoor.Dx
