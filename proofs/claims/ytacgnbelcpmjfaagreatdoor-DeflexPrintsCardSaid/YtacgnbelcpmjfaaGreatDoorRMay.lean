/-
  WALKS: the document's May.
-/
import Derived.Test.YtacgnbelcpmjfaaGreatDoorRBase
import Derived.Test.YtacgnbelcpmjfaaGreatDoorRQuoteA
import Derived.Test.YtacgnbelcpmjfaaGreatDoorRowW
set_option linter.unusedVariables false
set_option linter.unusedSimpArgs false
namespace Go.Proofs.YtacgnbelcpmjfaaGreatDoor.Dx
open Go.RowKit Go.Proofs Mx
theorem wd_none (M : Nat) (hM : M < 2 ^ 256) : (decide (wd M 0 = 0) && decide (wd M 1 = 0) && decide (wd M 2 = 0) && decide (wd M 3 = 0)) = decide (M = 0) := by
  by_cases h : M = 0
  · subst h; simp [wd0]
  · have : ¬ (wd M 0 = 0 ∧ wd M 1 = 0 ∧ wd M 2 = 0 ∧ wd M 3 = 0) := fun ⟨h0, h1, h2, h3⟩ => h (wd_inj M 0 hM (Nat.pos_of_ne_zero (by decide)) (by rw [h0, wd0]) (by rw [h1, wd0]) (by rw [h2, wd0]) (by rw [h3, wd0]))
    rw [decide_eq_false h]
    simp only [Bool.and_eq_false_iff, decide_eq_false_iff_not]
    by_cases h0 : wd M 0 = 0
    · by_cases h1 : wd M 1 = 0
      · by_cases h2 : wd M 2 = 0
        · exact .inr fun h3 => this ⟨h0, h1, h2, h3⟩
        · exact .inl (.inr h2)
      · exact .inl (.inl (.inr h1))
    · exact .inl (.inl (.inl h0))
theorem eql_none (M : Nat) (hM : M < 2 ^ 256) (w : World) :
    (binOp .eql 33 (.agg #[.int .u64 (wd M 0), .int .u64 (wd M 1), .int .u64 (wd M 2), .int .u64 (wd M 3)]) (.agg #[.int .u64 0, .int .u64 0, .int .u64 0, .int .u64 0])).run Tryz.prog w = .ok (.bool (decide (M = 0))) w := by
  rw [run_eql_struct, show (10000 : Nat) = 9998 + 2 from rfl, eq_set, wd_none M hM]; rfl
theorem sign_none (c : UInt8) : (⟨#[59, 46, 61, 44, 40, 41, 123, 125, 62, 63, 42, 43]⟩ : ByteArray).data.toList.contains c = signB (c.toNat : Int) :=
  all_bytes (p := fun c => (⟨#[59, 46, 61, 44, 40, 41, 123, 125, 62, 63, 42, 43]⟩ : ByteArray).data.toList.contains c = signB (c.toNat : Int)) (by decide +kernel) c
theorem ret_b {a b : Bool} (h : a = b) : Ending.returned (Value.bool a) = .returned (.bool b) := by rw [h]
set_option maxRecDepth 100000 in
set_option maxHeartbeats 4000000 in
theorem rmay_any (p : Int) (v : Wd) (hset : v.set < 2 ^ 256) (ht : v.text.length ≤ 400000000) (w : World) :
    Calls Tryz.prog 33 #[wdV p v] w fun e w' => e = .returned (.bool (mayF v)) ∧ Below w.heap.size w w' := by
  have hq := fun W => eql_none v.set hset W
  obtain ⟨T, hT⟩ : ∃ T : ByteArray, T = ⟨v.text.toArray⟩ := ⟨_, rfl⟩
  have hTl : T.data.toList = v.text := by rw [hT]
  have hsz : T.size ≤ 400000000 := by rw [Lib.size_eq, hTl]; exact ht
  have hname := fun W => rname_any T hsz W
  rw [hTl] at hname
  unfold wdV wdC
  rw [← hT]
  have HT := Lib.hid (And.intro hT hTl)
  clear hT hTl
  by_cases h1 : v.kind = 1
  · have k1 : (v.kind == 1) = true := by simp [h1]
    have HM := Lib.hid (show mayF v = (decide (v.num = 0) && decide (v.set = 0) && nameB v.text) by rw [mayF,  if_pos h1])
    clear h1
    cases hn : (v.num == 0) with
    | false =>
      have n0 : v.num ≠ 0 := by simpa using hn
      have HF := Lib.hid (show false = mayF v by rw [HM.out]; simp [n0])
      clear n0
      go_enter Tryz.func33, Tryz.ntmps33
      go_wp2_with fail
      go_ret
      exact ⟨ret_b HF.out, (Below.refl _ _).alloc (Nat.le_refl _) _⟩
    | true =>
      have n0 : v.num = 0 := by simpa using hn
      have HN := Lib.hid n0
      clear n0
      cases hz : decide (v.set = 0) with
      | false =>
        have HF := Lib.hid (show false = mayF v by rw [HM.out, hz]; simp)
        rw [hz] at hq
        go_enter Tryz.func33, Tryz.ntmps33
        go_wp2_with fail
        go_ret
        exact ⟨ret_b HF.out, (Below.refl _ _).alloc (Nat.le_refl _) _⟩
      | true =>
        rw [hz] at hq
        have HZ := Lib.hid hz
        clear hz
        have HF := Lib.hid (show nameB v.text = mayF v by rw [HM.out, HN.out, HZ.out]; simp)
        go_enter Tryz.func33, Tryz.ntmps33
        go_wp2_with (go_at_call 43; refine (hname _).mono ?_; rintro e w' ⟨rfl, rfl⟩)
        go_ret
        exact ⟨ret_b HF.out, (Below.refl _ _).alloc (Nat.le_refl _) _⟩
  · have k1 : (v.kind == 1) = false := by simp [h1]
    by_cases h2 : v.kind = 2
    · have k2 : (v.kind == 2) = true := by simp [h2]
      have HM := Lib.hid (show mayF v = (decide (v.num = 0) && decide (v.set = 0)) by rw [mayF, if_neg h1, if_pos h2])
      clear h1 h2
      cases hn : (v.num == 0) with
      | false =>
        have n0 : v.num ≠ 0 := by simpa using hn
        have HF := Lib.hid (show false = mayF v by rw [HM.out]; simp [n0])
        clear n0
        go_enter Tryz.func33, Tryz.ntmps33
        go_wp2_with fail
        go_ret
        exact ⟨ret_b HF.out, (Below.refl _ _).alloc (Nat.le_refl _) _⟩
      | true =>
        have n0 : v.num = 0 := by simpa using hn
        have HN := Lib.hid n0
        clear n0
        cases hz : decide (v.set = 0) with
        | false =>
          have HF := Lib.hid (show false = mayF v by rw [HM.out, hz]; simp)
          rw [hz] at hq
          go_enter Tryz.func33, Tryz.ntmps33
          go_wp2_with fail
          go_ret
          exact ⟨ret_b HF.out, (Below.refl _ _).alloc (Nat.le_refl _) _⟩
        | true =>
          rw [hz] at hq
          have HZ := Lib.hid hz
          clear hz
          have HF := Lib.hid (show true = mayF v by rw [HM.out, HN.out, HZ.out]; simp)
          go_enter Tryz.func33, Tryz.ntmps33
          go_wp2_with fail
          go_ret
          exact ⟨ret_b HF.out, (Below.refl _ _).alloc (Nat.le_refl _) _⟩
    · have k2 : (v.kind == 2) = false := by simp [h2]
      by_cases h3 : v.kind = 3
      · have k3 : (v.kind == 3) = true := by simp [h3]
        have HM := Lib.hid (show mayF v = (decide (v.num = 0) && decide (v.text = [])) by rw [mayF, if_neg h1, if_neg h2, if_pos h3])
        clear h1 h2 h3
        cases hn : (v.num == 0) with
        | false =>
          have n0 : v.num ≠ 0 := by simpa using hn
          have HF := Lib.hid (show false = mayF v by rw [HM.out]; simp [n0])
          clear n0
          go_enter Tryz.func33, Tryz.ntmps33
          go_wp2_with fail
          go_ret
          exact ⟨ret_b HF.out, (Below.refl _ _).alloc (Nat.le_refl _) _⟩
        | true =>
          have n0 : v.num = 0 := by simpa using hn
          have HN := Lib.hid n0
          clear n0
          by_cases he : v.text = []
          · have HF := Lib.hid (show true = mayF v by rw [HM.out, HN.out, he]; simp)
            have hTe : T = ⟨#[]⟩ := by rw [HT.out.1, he]
            subst hTe
            go_enter Tryz.func33, Tryz.ntmps33
            go_wp2_with fail
            go_ret
            exact ⟨ret_b HF.out, (Below.refl _ _).alloc (Nat.le_refl _) _⟩
          · have HF := Lib.hid (show false = mayF v by rw [HM.out]; simp [he])
            have t1 : (T.toList == []) = false := by rw [ByteArray.toList_eq, HT.out.2]; simpa using he
            have t2 : T.toList.isEmpty = false := by rw [ByteArray.toList_eq, HT.out.2]; simpa using he
            clear he
            go_enter Tryz.func33, Tryz.ntmps33
            go_wp2_with fail
            go_ret
            exact ⟨ret_b HF.out, (Below.refl _ _).alloc (Nat.le_refl _) _⟩
      · have k3 : (v.kind == 3) = false := by simp [h3]
        by_cases h4 : v.kind = 4
        · have k4 : (v.kind == 4) = true := by simp [h4]
          have HM := Lib.hid (show mayF v = (decide (v.text = []) && decide (v.set = 0) && decide (0 ≤ v.num) && decide (v.num ≤ 999999999)) by rw [mayF, if_neg h1, if_neg h2, if_neg h3, if_pos h4])
          clear h1 h2 h3 h4
          by_cases he : v.text = []
          · have HE := Lib.hid he
            have hTe : T = ⟨#[]⟩ := by rw [HT.out.1, he]
            subst hTe
            clear he
            cases hz : decide (v.set = 0) with
            | false =>
              have HF := Lib.hid (show false = mayF v by rw [HM.out, hz]; simp)
              rw [hz] at hq
              go_enter Tryz.func33, Tryz.ntmps33
              go_wp2_with fail
              go_ret
              exact ⟨ret_b HF.out, (Below.refl _ _).alloc (Nat.le_refl _) _⟩
            | true =>
              rw [hz] at hq
              have HZ := Lib.hid hz
              clear hz
              by_cases a0 : 0 ≤ v.num
              · by_cases a1 : v.num ≤ 999999999
                · have HF := Lib.hid (show true = mayF v by rw [HM.out, HZ.out, HE.out]; simp [a0, a1])
                  go_enter Tryz.func33, Tryz.ntmps33
                  go_wp2_with fail
                  go_ret
                  exact ⟨ret_b HF.out, (Below.refl _ _).alloc (Nat.le_refl _) _⟩
                · have HF := Lib.hid (show false = mayF v by rw [HM.out]; simp [a1])
                  have a2 : decide (v.num ≤ 999999999) = false := by simpa using a1
                  clear a1
                  go_enter Tryz.func33, Tryz.ntmps33
                  go_wp2_with fail
                  go_ret
                  exact ⟨ret_b HF.out, (Below.refl _ _).alloc (Nat.le_refl _) _⟩
              · have HF := Lib.hid (show false = mayF v by rw [HM.out]; simp [a0])
                have a2 : decide (0 ≤ v.num) = false := by simpa using a0
                clear a0
                go_enter Tryz.func33, Tryz.ntmps33
                go_wp2_with fail
                go_ret
                exact ⟨ret_b HF.out, (Below.refl _ _).alloc (Nat.le_refl _) _⟩
          · have HF := Lib.hid (show false = mayF v by rw [HM.out]; simp [he])
            have t1 : (T.toList == []) = false := by rw [ByteArray.toList_eq, HT.out.2]; simpa using he
            have t2 : T.toList.isEmpty = false := by rw [ByteArray.toList_eq, HT.out.2]; simpa using he
            clear he
            go_enter Tryz.func33, Tryz.ntmps33
            go_wp2_with fail
            go_ret
            exact ⟨ret_b HF.out, (Below.refl _ _).alloc (Nat.le_refl _) _⟩
        · have k4 : (v.kind == 4) = false := by simp [h4]
          by_cases h5 : v.kind = 5
          · have k5 : (v.kind == 5) = true := by simp [h5]
            have HM := Lib.hid (show mayF v = (decide (v.num = 0) && decide (v.set = 0) && (match v.text with | [c] => signB (c.toNat : Int) | _ => false)) by rw [mayF, if_neg h1, if_neg h2, if_neg h3, if_neg h4, if_pos h5]; (cases v.text with | nil => rfl | cons c t => cases t <;> rfl))
            clear h1 h2 h3 h4 h5
            cases hn : (v.num == 0) with
            | false =>
              have n0 : v.num ≠ 0 := by simpa using hn
              have HF := Lib.hid (show false = mayF v by rw [HM.out]; simp [n0])
              clear n0
              go_enter Tryz.func33, Tryz.ntmps33
              go_wp2_with fail
              go_ret
              exact ⟨ret_b HF.out, (Below.refl _ _).alloc (Nat.le_refl _) _⟩
            | true =>
              have n0 : v.num = 0 := by simpa using hn
              have HN := Lib.hid n0
              clear n0
              cases hz : decide (v.set = 0) with
              | false =>
                have HF := Lib.hid (show false = mayF v by rw [HM.out, hz]; simp)
                rw [hz] at hq
                go_enter Tryz.func33, Tryz.ntmps33
                go_wp2_with fail
                go_ret
                exact ⟨ret_b HF.out, (Below.refl _ _).alloc (Nat.le_refl _) _⟩
              | true =>
                rw [hz] at hq
                have HZ := Lib.hid hz
                clear hz
                by_cases h1 : ∃ c, v.text = [c]
                · obtain ⟨c, hc⟩ := h1
                  have hTe : T = ⟨#[c]⟩ := by rw [HT.out.1, hc]
                  subst hTe
                  have hin := rin_any c ⟨#[59, 46, 61, 44, 40, 41, 123, 125, 62, 63, 42, 43]⟩ (by decide)
                  rw [sign_none] at hin
                  have HF := Lib.hid (show signB (c.toNat : Int) = mayF v by rw [HM.out, HN.out, HZ.out, hc]; simp)
                  clear hc
                  go_enter Tryz.func33, Tryz.ntmps33
                  go_wp2_with (go_at_call 46; refine (hin _).mono ?_; rintro e w' ⟨rfl, rfl⟩)
                  go_ret
                  exact ⟨ret_b HF.out, (Below.refl _ _).alloc (Nat.le_refl _) _⟩
                · have hl : v.text.length ≠ 1 := fun h => h1 (by
                    match hv : v.text, h with
                    | [c], _ => exact ⟨c, rfl⟩)
                  have HF := Lib.hid (show false = mayF v by
                    rw [HM.out]
                    have : (match v.text with | [c] => signB (c.toNat : Int) | _ => false) = false := by
                      match hv : v.text, hl with
                      | [], _ => rfl
                      | [c], h => exact absurd rfl h
                      | _ :: _ :: _, _ => rfl
                    rw [this]; simp)
                  have hl1 : ((T.size : Int) == 1) = false := by
                    have : T.size ≠ 1 := by rw [Lib.size_eq, HT.out.2]; exact hl
                    simp; omega
                  clear hl h1
                  go_enter Tryz.func33, Tryz.ntmps33
                  go_wp2_with fail
                  go_ret
                  exact ⟨ret_b HF.out, (Below.refl _ _).alloc (Nat.le_refl _) _⟩
          · have k5 : (v.kind == 5) = false := by simp [h5]
            have HF := Lib.hid (show false = mayF v by rw [mayF, if_neg h1, if_neg h2, if_neg h3, if_neg h4, if_neg h5])
            clear h1 h2 h3 h4 h5
            go_enter Tryz.func33, Tryz.ntmps33
            go_wp2_with fail
            go_ret
            exact ⟨ret_b HF.out, (Below.refl _ _).alloc (Nat.le_refl _) _⟩
end Go.Proofs.YtacgnbelcpmjfaaGreatDoor.Dx
