/-
  Two words, two sets: whether they are equal.
-/
import Derived.Test.YtmkidbenndhhjaaDoorName
import Derived.ChangeKeysEq
import Derived.Laws.StructEq
set_option linter.unusedVariables false
set_option linter.unusedSimpArgs false
namespace Go.Proofs.YtmkidbenndhhjaaDoor.Dx
open Go.RowKit Go.Proofs Mx

theorem infoU64 : (Tryd.prog.info? 47).map (fun i => (i.zero, i.size, i.bytes)) = some (some (.int .u64 0), 1, 8) := by kernel_rfl
theorem eq_set (d : Nat) (a0 a1 a2 a3 b0 b1 b2 b3 : Int) (w : World) :
    (Op.equalIn (d + 2) 49 (.agg #[.int .u64 a0, .int .u64 a1, .int .u64 a2, .int .u64 a3]) (.agg #[.int .u64 b0, .int .u64 b1, .int .u64 b2, .int .u64 b3])).run Tryd.prog w = .ok (decide (a0 = b0) && decide (a1 = b1) && decide (a2 = b2) && decide (a3 = b3)) w := by
  obtain ⟨i0, hi, hz0, hz1, hz2⟩ := info_parts infoU64
  have hc : Tryd.prog.cellsOf 47 = 1 := by kernel_rfl
  rw [run_equalIn_array w (d + 1) _ _ Tryd.underlying49 hi, hc, show List.range 4 = [0, 1, 2, 3] from rfl]
  have hp : ∀ (xs : Array Value) (k : Nat) (v : Value) (w : World), xs[k]? = some v → (part 47 xs k).run Tryd.prog w = .ok v w := by
    intro xs k v w h
    simp [part, isAgg, run_underlying Tryd.underlying47, go_sem, h]
  have he : ∀ (a b : Int) (w : World), (Op.equalIn (d + 1) 47 (.int .u64 a) (.int .u64 b)).run Tryd.prog w = .ok (a == b) w := fun a b w => run_equalIn_int w d _ .u64 .u64 a b Tryd.underlying47
  have p0 : ∀ (a b c d : Int) (w : World), (part 47 #[.int .u64 a, .int .u64 b, .int .u64 c, .int .u64 d] 0).run Tryd.prog w = .ok (.int .u64 a) w := fun a b c d w => hp _ 0 _ w rfl
  have p1 : ∀ (a b c d : Int) (w : World), (part 47 #[.int .u64 a, .int .u64 b, .int .u64 c, .int .u64 d] 1).run Tryd.prog w = .ok (.int .u64 b) w := fun a b c d w => hp _ 1 _ w rfl
  have p2 : ∀ (a b c d : Int) (w : World), (part 47 #[.int .u64 a, .int .u64 b, .int .u64 c, .int .u64 d] 2).run Tryd.prog w = .ok (.int .u64 c) w := fun a b c d w => hp _ 2 _ w rfl
  have p3 : ∀ (a b c d : Int) (w : World), (part 47 #[.int .u64 a, .int .u64 b, .int .u64 c, .int .u64 d] 3).run Tryd.prog w = .ok (.int .u64 d) w := fun a b c d w => hp _ 3 _ w rfl
  simp only [Op.eqItems, Sem.run_bind, Nat.zero_mul, Nat.mul_one, p0, p1, p2, p3, Result.andThen_ok, he]
  by_cases h0 : a0 = b0
  · by_cases h1 : a1 = b1
    · by_cases h2 : a2 = b2
      · by_cases h3 : a3 = b3 <;> simp [h0, h1, h2, h3, p0, p1, p2, p3, he]
      · simp [h0, h1, h2, p0, p1, p2, p3, he]
    · simp [h0, h1, p0, p1, p2, p3, he]
  · simp [h0, p0, p1, p2, p3, he]
def eqW (k p : Int) (t : ByteArray) (a0 a1 a2 a3 n k' p' : Int) (t' : ByteArray) (b0 b1 b2 b3 n' : Int) : Bool :=
  decide (k = k') && decide (p = p') && decide (t.data.toList = t'.data.toList) && (decide (a0 = b0) && decide (a1 = b1) && decide (a2 = b2) && decide (a3 = b3)) && decide (n = n')
theorem eq_word (d : Nat) (k p : Int) (t : ByteArray) (a0 a1 a2 a3 n k' p' : Int) (t' : ByteArray) (b0 b1 b2 b3 n' : Int) (w : World) :
    (Op.equalIn (d + 3) 51 (.agg #[.int .i64 k, .int .i64 p, .string t, .int .u64 a0, .int .u64 a1, .int .u64 a2, .int .u64 a3, .int .i64 n]) (.agg #[.int .i64 k', .int .i64 p', .string t', .int .u64 b0, .int .u64 b1, .int .u64 b2, .int .u64 b3, .int .i64 n'])).run Tryd.prog w = .ok (eqW k p t a0 a1 a2 a3 n k' p' t' b0 b1 b2 b3 n') w := by
  have hf : (Tryd.prog.fieldsOf 51).toList.map (fun f => (f.name, f.type, f.offset)) = [("Kind", 46, 0), ("At", 3, 1), ("Text", 9, 2), ("Set", 49, 3), ("Number", 3, 7)] := by kernel_rfl
  rw [run_equalIn_struct w (d + 2) _ _ _ (by kernel_rfl) (by kernel_rfl)]
  generalize (Tryd.prog.fieldsOf 51).toList = fs at hf ⊢
  match fs, hf with
  | [⟨m0, y0, o0, _, _, _, _⟩, ⟨m1, y1, o1, _, _, _, _⟩, ⟨m2, y2, o2, _, _, _, _⟩, ⟨m3, y3, o3, _, _, _, _⟩, ⟨m4, y4, o4, _, _, _, _⟩], hf =>
    simp only [List.map_cons, List.map_nil, List.cons.injEq, Prod.mk.injEq, and_true] at hf
    obtain ⟨⟨rfl, rfl, rfl⟩, ⟨rfl, rfl, rfl⟩, ⟨rfl, rfl, rfl⟩, ⟨rfl, rfl, rfl⟩, ⟨rfl, rfl, rfl⟩⟩ := hf
    have hp : ∀ (y : TypeId) (u : TypeDesc), Tryd.prog.underlying y = some u → (match u with | .struct _ | .array _ _ => false | _ => true) = true → ∀ (xs : Array Value) (k : Nat) (v : Value) (w : World), xs[k]? = some v → (part y xs k).run Tryd.prog w = .ok v w := by
      intro y u hu hna xs k v w h
      cases u <;> simp at hna <;> simp [part, isAgg, run_underlying hu, go_sem, h]
    have q0 : ∀ (v0 v1 v2 v3 v4 v5 v6 v7 : Value) (w : World), (part 46 #[v0, v1, v2, v3, v4, v5, v6, v7] 0).run Tryd.prog w = .ok v0 w := fun _ _ _ _ _ _ _ _ w => hp _ _ Tryd.underlying46 rfl _ 0 _ w rfl
    have q1 : ∀ (v0 v1 v2 v3 v4 v5 v6 v7 : Value) (w : World), (part 3 #[v0, v1, v2, v3, v4, v5, v6, v7] 1).run Tryd.prog w = .ok v1 w := fun _ _ _ _ _ _ _ _ w => hp _ _ Tryd.underlying3 rfl _ 1 _ w rfl
    have q2 : ∀ (v0 v1 v2 v3 v4 v5 v6 v7 : Value) (w : World), (part 9 #[v0, v1, v2, v3, v4, v5, v6, v7] 2).run Tryd.prog w = .ok v2 w := fun _ _ _ _ _ _ _ _ w => hp _ _ Tryd.underlying9 rfl _ 2 _ w rfl
    have q4 : ∀ (v0 v1 v2 v3 v4 v5 v6 v7 : Value) (w : World), (part 3 #[v0, v1, v2, v3, v4, v5, v6, v7] 7).run Tryd.prog w = .ok v7 w := fun _ _ _ _ _ _ _ _ w => hp _ _ Tryd.underlying3 rfl _ 7 _ w rfl
    have q3 : ∀ (v0 v1 v2 v3 v4 v5 v6 v7 : Value) (w : World), (part 49 #[v0, v1, v2, v3, v4, v5, v6, v7] 3).run Tryd.prog w = .ok (.agg #[v3, v4, v5, v6]) w := by
      intro v0 v1 v2 v3 v4 v5 v6 v7 w
      simp [part, isAgg, run_underlying Tryd.underlying49, go_sem]
    have e0 : ∀ (a b : Int) (w : World), (Op.equalIn (d + 2) 46 (.int .i64 a) (.int .i64 b)).run Tryd.prog w = .ok (a == b) w := fun a b w => run_equalIn_int w (d + 1) _ .i64 .i64 a b Tryd.underlying46
    have e1 : ∀ (a b : Int) (w : World), (Op.equalIn (d + 2) 3 (.int .i64 a) (.int .i64 b)).run Tryd.prog w = .ok (a == b) w := fun a b w => run_equalIn_int w (d + 1) _ .i64 .i64 a b Tryd.underlying3
    have e2 : ∀ (a b : ByteArray) (w : World), (Op.equalIn (d + 2) 9 (.string a) (.string b)).run Tryd.prog w = .ok (a.toList == b.toList) w := fun a b w => run_equalIn_string w (d + 1) _ a b Tryd.underlying9
    have e3 := eq_set d a0 a1 a2 a3 b0 b1 b2 b3
    simp only [ByteArray.toList_eq] at e2
    unfold eqW
    by_cases h0 : k = k'
    · by_cases h1 : p = p'
      · by_cases h2 : t.data.toList = t'.data.toList
        · by_cases h3 : (decide (a0 = b0) && decide (a1 = b1) && decide (a2 = b2) && decide (a3 = b3)) = true
          · rw [h3] at e3
            by_cases h4 : n = n' <;> simp [Op.eqFields, h0, h1, h2, h3, h4, q0, q1, q2, q3, q4, e0, e1, e2, e3]
          · have h3' : (decide (a0 = b0) && decide (a1 = b1) && decide (a2 = b2) && decide (a3 = b3)) = false := by simpa using h3
            rw [h3'] at e3
            simp [Op.eqFields, h0, h1, h2, h3', q0, q1, q2, q3, q4, e0, e1, e2, e3]
        · have h2' : ¬ t.data = t'.data := fun e => h2 (by rw [e])
          simp [Op.eqFields, h0, h1, h2', q0, q1, q2, q3, q4, e0, e1, e2]
      · simp [Op.eqFields, h0, h1, q0, q1, e0, e1]
    · simp [Op.eqFields, h0, q0, e0]
theorem eql_word (k p : Int) (t : ByteArray) (a0 a1 a2 a3 n k' p' : Int) (t' : ByteArray) (b0 b1 b2 b3 n' : Int) (w : World) :
    (binOp .eql 51 (.agg #[.int .i64 k, .int .i64 p, .string t, .int .u64 a0, .int .u64 a1, .int .u64 a2, .int .u64 a3, .int .i64 n]) (.agg #[.int .i64 k', .int .i64 p', .string t', .int .u64 b0, .int .u64 b1, .int .u64 b2, .int .u64 b3, .int .i64 n'])).run Tryd.prog w = .ok (.bool (eqW k p t a0 a1 a2 a3 n k' p' t' b0 b1 b2 b3 n')) w := by
  rw [run_eql_struct, show (10000 : Nat) = 9997 + 3 from rfl, eq_word]; rfl
theorem neq_word (k p : Int) (t : ByteArray) (a0 a1 a2 a3 n k' p' : Int) (t' : ByteArray) (b0 b1 b2 b3 n' : Int) (w : World) :
    (binOp .neq 51 (.agg #[.int .i64 k, .int .i64 p, .string t, .int .u64 a0, .int .u64 a1, .int .u64 a2, .int .u64 a3, .int .i64 n]) (.agg #[.int .i64 k', .int .i64 p', .string t', .int .u64 b0, .int .u64 b1, .int .u64 b2, .int .u64 b3, .int .i64 n'])).run Tryd.prog w = .ok (.bool (!eqW k p t a0 a1 a2 a3 n k' p' t' b0 b1 b2 b3 n')) w := by
  rw [run_neq_struct, show (10000 : Nat) = 9997 + 3 from rfl, eq_word]; rfl
theorem wd_inj (M N : Nat) (hM : M < 2 ^ 256) (hN : N < 2 ^ 256) (h0 : wd M 0 = wd N 0) (h1 : wd M 1 = wd N 1) (h2 : wd M 2 = wd N 2) (h3 : wd M 3 = wd N 3) : M = N := by
  unfold wd at h0 h1 h2 h3
  have e0 : (2 : Nat) ^ (64 * 0) = 1 := by decide
  have e1 : (2 : Nat) ^ (64 * 1) = 18446744073709551616 := by decide
  have e2 : (2 : Nat) ^ (64 * 2) = 340282366920938463463374607431768211456 := by decide
  have e3 : (2 : Nat) ^ (64 * 3) = 6277101735386680763835789423207666416102355444464034512896 := by decide
  have e4 : (2 : Nat) ^ 256 = 115792089237316195423570985008687907853269984665640564039457584007913129639936 := by decide
  rw [e0] at h0; rw [e1] at h1; rw [e2] at h2; rw [e3] at h3; rw [e4] at hM hN
  omega
/-- Two words, their places aside. -/
theorem eqW_iff (p q : Int) (v x : Wd) (hv : v.set < 2 ^ 256) (hx : x.set < 2 ^ 256) :
    eqW v.kind p ⟨v.text.toArray⟩ (wd v.set 0) (wd v.set 1) (wd v.set 2) (wd v.set 3) v.num x.kind q ⟨x.text.toArray⟩ (wd x.set 0) (wd x.set 1) (wd x.set 2) (wd x.set 3) x.num = true ↔ (p = q ∧ v = x) := by
  unfold eqW
  simp only [Bool.and_eq_true, decide_eq_true_eq]
  constructor
  · rintro ⟨⟨⟨⟨h1, h2⟩, h3⟩, ⟨⟨h4, h5⟩, h6⟩, h7⟩, h8⟩
    exact ⟨h2, Wd.ext_ h1 h3 (wd_inj _ _ hv hx h4 h5 h6 h7) h8⟩
  · rintro ⟨rfl, rfl⟩
    simp
end Go.Proofs.YtmkidbenndhhjaaDoor.Dx
