/-
  WALKS: the document's Same.
-/
import Derived.Test.YtacgnbelcpmjfaaGreatDoorPrintA
import Derived.Deep.QuietTactic
import Derived.BigQuiet
set_option linter.unusedVariables false
set_option linter.unusedSimpArgs false
namespace Go.Proofs.YtacgnbelcpmjfaaGreatDoor.Dx
open Go.RowKit Go.Proofs Mx
theorem neq_set (a0 a1 a2 a3 b0 b1 b2 b3 : Int) (w : World) :
    (binOp .neq 33 (.agg #[.int .u64 a0, .int .u64 a1, .int .u64 a2, .int .u64 a3]) (.agg #[.int .u64 b0, .int .u64 b1, .int .u64 b2, .int .u64 b3])).run Tryz.prog w = .ok (.bool (!(decide (a0 = b0) && decide (a1 = b1) && decide (a2 = b2) && decide (a3 = b3)))) w := by
  rw [run_neq_struct, show (10000 : Nat) = 9998 + 2 from rfl, eq_set]; rfl
theorem neq_sets (M N : Nat) (hM : M < 2 ^ 256) (hN : N < 2 ^ 256) (b : Bool) (h : M ≠ N ↔ b = true) (w : World) :
    (binOp .neq 33 (.agg #[.int .u64 (wd M 0), .int .u64 (wd M 1), .int .u64 (wd M 2), .int .u64 (wd M 3)]) (.agg #[.int .u64 (wd N 0), .int .u64 (wd N 1), .int .u64 (wd N 2), .int .u64 (wd N 3)])).run Tryz.prog w = .ok (.bool b) w := by
  rw [neq_set]
  have : (!(decide (wd M 0 = wd N 0) && decide (wd M 1 = wd N 1) && decide (wd M 2 = wd N 2) && decide (wd M 3 = wd N 3))) = b := by
    rw [Bool.eq_iff_iff, ← h]
    simp only [Bool.not_eq_true', Bool.and_eq_false_iff, decide_eq_false_iff_not]
    constructor
    · rintro h rfl
      simp at h
    · intro hne
      by_cases h0 : wd M 0 = wd N 0
      · by_cases h1 : wd M 1 = wd N 1
        · by_cases h2 : wd M 2 = wd N 2
          · exact .inr fun h3 => hne (wd_inj M N hM hN h0 h1 h2 h3)
          · exact .inl (.inr h2)
        · exact .inl (.inl (.inr h1))
      · exact .inl (.inl (.inl h0))
  rw [this]
theorem same_step (l k : List (Int × Wd)) (i : Nat) (p q : Int) (v x : Wd) (hl : l[i]? = some (p, v)) (hk : k[i]? = some (q, x)) (h : (l.take i).map (·.2) = (k.take i).map (·.2)) (hv : v = x) :
    (l.take (i + 1)).map (·.2) = (k.take (i + 1)).map (·.2) := by
  obtain ⟨h1, e1⟩ := List.getElem?_eq_some_iff.1 hl
  obtain ⟨h2, e2⟩ := List.getElem?_eq_some_iff.1 hk
  rw [List.take_succ_eq_append_getElem h1, List.take_succ_eq_append_getElem h2, e1, e2, List.map_append, List.map_append, h, List.map_cons, List.map_cons, hv]
theorem same_not (l k : List (Int × Wd)) (i : Nat) (p q : Int) (v x : Wd) (hl : l[i]? = some (p, v)) (hk : k[i]? = some (q, x)) (hv : v ≠ x) : decide (l.map (·.2) = k.map (·.2)) = false := by
  apply decide_eq_false
  intro h
  have h1 : (l.map (·.2))[i]? = some v := by rw [List.getElem?_map, hl]; rfl
  have h2 : (k.map (·.2))[i]? = some x := by rw [List.getElem?_map, hk]; rfl
  rw [h, h2] at h1
  exact hv (Option.some.inj h1).symm
set_option maxRecDepth 100000 in
set_option maxHeartbeats 8000000 in
theorem rsame_any (V U : Value) (l k : List (Int × Wd)) (hl : l.length ≤ 1000000000) (hk : k.length ≤ 1000000000) (hfl : ∀ q ∈ l, q.2.set < 2 ^ 256) (hfk : ∀ q ∈ k, q.2.set < 2 ^ 256) (w : World) (hV : SliceW w V l) (hU : SliceW w U k) :
    Calls Tryz.prog 15 #[V, U] w fun e w' => e = .returned (.bool (decide (l.map (·.2) = k.map (·.2)))) ∧ Below w.heap.size w w' := by
  obtain ⟨a0, c0, rfl, ho⟩ := hV.opt
  obtain ⟨b0, d0, rfl, hq⟩ := hU.opt
  have H0 := Lib.hid (And.intro ho (And.intro hq (And.intro hfl hfk)))
  clear hV hU ho hq hfl hfk
  by_cases hlen : l.length = k.length
  case neg =>
    have he : ((l.length : Int) != (k.length : Int)) = true := by simp; omega
    have HF := Lib.hid (show decide (l.map (·.2) = k.map (·.2)) = false from decide_eq_false fun h => hlen (by simpa using congrArg List.length h))
    clear hlen
    go_enter Tryz.func15, Tryz.ntmps15
    go_wp2_with fail
    go_ret
    exact ⟨by rw [HF.out]; rfl, Below.refl _ _⟩
  have he : ((l.length : Int) != (k.length : Int)) = false := by simp [hlen]
  have HL := Lib.hid hlen
  clear hlen
  go_enter Tryz.func15, Tryz.ntmps15
  go_wp2_with fail
  go_loopg [5] l.length (fun m v5 wr => ∃ i : Nat, i ≤ l.length ∧ m = l.length - i ∧ v5 = .int .i64 i ∧ (l.take i).map (·.2) = (k.take i).map (·.2) ∧ Below w.heap.size w wr)
  case atStart => exact ⟨0, Nat.zero_le _, rfl, rfl, rfl, Below.refl _ _⟩
  case round =>
    obtain ⟨i, hi, hm, rfl, heq, hbe⟩ := hrel
    by_cases hlt : i < l.length
    · have hlt2 : i < k.length := by have := HL.out; omega
      obtain ⟨y, hy⟩ : ∃ y, l[i]? = some y := ⟨l[i], List.getElem?_eq_getElem hlt⟩
      obtain ⟨z, hz⟩ : ∃ z, k[i]? = some z := ⟨k[i], List.getElem?_eq_getElem hlt2⟩
      obtain ⟨p, vk, vt, vs, vn⟩ := y
      obtain ⟨q, xk, xt, xs, xn⟩ := z
      obtain ⟨g1, o1, rfl, hr1⟩ := H0.out.1.some (by omega)
      obtain ⟨g2, o2, rfl, hr2⟩ := H0.out.2.1.some (by omega)
      have hs1 : vs < 2 ^ 256 := H0.out.2.2.1 (p, ⟨vk, vt, vs, vn⟩) (List.mem_of_getElem? hy)
      have hs2 : xs < 2 ^ 256 := H0.out.2.2.2 (q, ⟨xk, xt, xs, xn⟩) (List.mem_of_getElem? hz)
      have h81 := (hr1.cells i p _ hy).below hbe hr1.lt
      have h82 := (hr2.cells i q _ hz).below hbe hr2.lt
      have hki : (i : Int) < (l.length : Int) := by omega
      have hki2 : (i : Int) < (k.length : Int) := by omega
      have hk0 : (0 : Int) ≤ (i : Int) := by omega
      obtain ⟨x0, x1, x2, x3, x4, x5, x6, x7⟩ := h81
      obtain ⟨y0, y1, y2, y3, y4, y5, y6, y7⟩ := h82
      simp only at x0 x1 x2 x3 x4 x5 x6 x7 y0 y1 y2 y3 y4 y5 y6 y7
      have A := Lib.hid (And.intro hm (And.intro heq (And.intro hbe (And.intro hy hz))))
      clear hm heq hbe hy hz hr1 hr2
      by_cases hkk : vk = xk
      case neg =>
        have b1 : (vk != xk) = true := by simpa using hkk
        have HF := Lib.hid (same_not l k i p q _ _ A.out.2.2.2.1 A.out.2.2.2.2 (fun e => hkk (congrArg Wd.kind e)))
        clear hkk
        go_wp2_with fail
        go_quiet (fail)
        go_wp2_with fail
        go_ret
        exact ⟨by rw [HF.out]; rfl, below_drewN A.out.2.2.1 _⟩
      subst hkk
      have b1 : (vk != vk) = false := by simp
      by_cases htt : vt = xt
      case neg =>
        have htl : (⟨vt.toArray⟩ : ByteArray).toList = vt := by rw [ByteArray.toList_eq]
        have hxl : (⟨xt.toArray⟩ : ByteArray).toList = xt := by rw [ByteArray.toList_eq]
        obtain ⟨T, hT⟩ : ∃ T : ByteArray, (⟨vt.toArray⟩ : ByteArray) = T := ⟨_, rfl⟩
        obtain ⟨X, hX⟩ : ∃ X : ByteArray, (⟨xt.toArray⟩ : ByteArray) = X := ⟨_, rfl⟩
        rw [hT] at htl x2
        rw [hX] at hxl y2
        have b2 : (T.toList == X.toList) = false := by rw [htl, hxl]; simpa using htt
        have b3 : (T.toList != X.toList) = true := by rw [htl, hxl]; simpa using htt
        have HF := Lib.hid (same_not l k i p q _ _ A.out.2.2.2.1 A.out.2.2.2.2 (fun e => htt (congrArg Wd.text e)))
        clear htt hT hX htl hxl
        go_wp2_with fail
        go_quiet (fail)
        go_wp2_with fail
        go_ret
        exact ⟨by rw [HF.out]; rfl, below_drewN A.out.2.2.1 _⟩
      subst htt
      obtain ⟨T, hT⟩ : ∃ T : ByteArray, (⟨vt.toArray⟩ : ByteArray) = T := ⟨_, rfl⟩
      rw [hT] at x2 y2
      have b2 : (T.toList == T.toList) = true := by simp
      have b3 : (T.toList != T.toList) = false := by simp
      clear hT
      by_cases hss : vs = xs
      case neg =>
        have hq := fun W => neq_sets vs xs hs1 hs2 true (by simpa using hss) W
        have HF := Lib.hid (same_not l k i p q _ _ A.out.2.2.2.1 A.out.2.2.2.2 (fun e => hss (congrArg Wd.set e)))
        clear hss
        go_wp2_with fail
        go_quiet (fail)
        go_wp2_with fail
        go_ret
        exact ⟨by rw [HF.out]; rfl, below_drewN A.out.2.2.1 _⟩
      subst hss
      have hq := fun W => neq_sets vs vs hs1 hs1 false (by simp) W
      by_cases hnn : vn = xn
      case neg =>
        have b4 : (vn != xn) = true := by simpa using hnn
        have HF := Lib.hid (same_not l k i p q _ _ A.out.2.2.2.1 A.out.2.2.2.2 (fun e => hnn (congrArg Wd.num e)))
        clear hnn
        go_wp2_with fail
        go_quiet (fail)
        go_wp2_with fail
        go_ret
        exact ⟨by rw [HF.out]; rfl, below_drewN A.out.2.2.1 _⟩
      subst hnn
      have b4 : (vn != vn) = false := by simp
      have HS := Lib.hid (same_step l k i p q _ _ A.out.2.2.2.1 A.out.2.2.2.2 A.out.2.1 rfl)
      go_wp2_with fail
      go_quiet (fail)
      go_wp2_with fail
      go_roundg (l.length - (i + 1))
      case measure => have := A.out.1; omega
      case rel => exact ⟨i + 1, by omega, rfl, rfl, HS.out, below_drewN A.out.2.2.1 _⟩
    · obtain rfl : i = l.length := by omega
      rw [List.take_length, HL.out, List.take_length] at heq
      have A := Lib.hid (And.intro hbe (show decide (l.map (·.2) = k.map (·.2)) = true from decide_eq_true heq))
      clear heq hbe hm
      go_wp2_with fail
      go_ret
      exact ⟨by rw [A.out.2]; rfl, A.out.1⟩
end Go.Proofs.YtacgnbelcpmjfaaGreatDoor.Dx
