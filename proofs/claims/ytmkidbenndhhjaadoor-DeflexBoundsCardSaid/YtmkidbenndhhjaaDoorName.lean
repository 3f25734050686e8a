/-
  WALKS: Name.
-/
import Derived.Test.YtmkidbenndhhjaaDoorLex
set_option linter.unusedVariables false
set_option linter.unusedSimpArgs false
namespace Go.Proofs.YtmkidbenndhhjaaDoor.Dx
open Go.RowKit Go.Proofs Mx

theorem takeWhile_len (l : List UInt8) : (l.takeWhile wordB).length = l.length ↔ l.all wordB = true := by
  induction l with
  | nil => simp
  | cons c t ih =>
    rw [List.takeWhile_cons, List.all_cons]
    cases hc : wordB c with
    | true => simpa using ih
    | false => simp
theorem letter_cls (b : UInt8) : letterB (b.toNat : Int) = true ↔ classI (b.toNat : Int) = 1 := by
  have := classI_cases (b.toNat : Int) _ (sign_index b) sign_range
  rw [letterB_true]; omega
theorem empty_bytes (s : ByteArray) (h : s.size = 0) : s = ⟨#[]⟩ := by
  cases s with
  | mk d => cases d with
    | mk l => cases l with
      | nil => rfl
      | cons c t => exact absurd h (by show (c :: t).length ≠ 0; simp)
theorem first_byte (s : ByteArray) (h : 0 < s.size) : ∃ t, s.data.toList = s[0] :: t := by
  have := drop_cons s 0 h
  exact ⟨_, this⟩
set_option maxRecDepth 100000 in
set_option maxHeartbeats 1000000 in
theorem name_any (s : ByteArray) (hs : s.size ≤ 400000000) (w : World) :
    Calls Tryd.prog 21 #[.string s] w fun e w' => e = .returned (.bool (nameB s.data.toList)) ∧ Below w.heap.size w w' := by
  by_cases h0 : s.size = 0
  · obtain rfl := empty_bytes s h0
    have hq : ((⟨#[]⟩ : ByteArray).toList != []) = false := by rw [ByteArray.toList_eq]; rfl
    go_enter Tryd.func21, Tryd.ntmps21
    go_wp2_with fail
    go_ret
    exact ⟨rfl, (Below.refl _ _).alloc (Nat.le_refl _) _⟩
  · obtain ⟨t, ht⟩ := first_byte s (by omega)
    obtain ⟨b, hb⟩ : ∃ b, s[0] = b := ⟨_, rfl⟩
    rw [hb] at ht
    have hx0 : (0 : Int) < (s.size : Int) := by omega
    have hne : s.toList ≠ [] := by rw [ByteArray.toList_eq, ht]; simp
    have hq : (s.toList != []) = true := by simpa using hne
    have hq2 : s.toList.isEmpty = false := by rw [ByteArray.toList_eq, ht]; rfl
    have hcl := letter_cls b
    have hR : Rd (w.alloc (.cells #[.string s, .int .i64 0] 69)) w.heap.size s 0 := Blk.new_ rfl _ _
    have hrun := run_any w.heap.size s 0 (w.alloc (.cells #[.string s, .int .i64 0] 69)) (by omega) (Nat.zero_le _) hR
    have htl := takeWhile_len s.data.toList
    have hrs := run_size s 0
    rw [Nat.zero_add] at hrun hrs
    obtain ⟨r, hr⟩ : ∃ r, s.extract 0 (tw s 0) = r := ⟨_, rfl⟩
    rw [hr] at hrun hrs
    have htw : tw s 0 = (s.data.toList.takeWhile wordB).length := by rw [tw, List.drop_zero]
    have hsz : s.size = s.data.toList.length := Lib.size_eq s
    have hbl : Below w.heap.size w (w.alloc (.cells #[.string s, .int .i64 0] 69)) := (Below.refl _ w).alloc (Nat.le_refl _) _
    have H := Lib.hid (And.intro hrun hbl)
    have HT := Lib.hid ht
    clear hrun hr hR hbl hne ht
    by_cases h1 : classI (b.toNat : Int) = 1
    · have hc1 : (classI (b.toNat : Int) == 1) = true := by rw [h1]; rfl
      have HL := Lib.hid (hcl.2 h1)
      clear h1 hcl
      by_cases h2 : tw s 0 = s.size
      · have hr1 : ((r.size : Int) == (s.size : Int)) = true := by simp; omega
        have HA := Lib.hid (htl.1 (by omega))
        by_cases h3 : s.size ≤ 64
        · have hl : decide ((s.size : Int) ≤ 64) = true := by simp; omega
          have HR := Lib.hid (show nameB s.data.toList = true by
            have ha := HA.out
            rw [HT.out] at ha hsz ⊢
            simp only [nameB, HL.out, ha, Bool.and_self, Bool.true_and, decide_eq_true_eq]
            omega)
          clear h2 h3 htl hrs htw hsz
          go_enter Tryd.func21, Tryd.ntmps21
          go_wp2_with fail
          refine (class_q b _).mono ?_
          rintro e w1 ⟨rfl, rfl⟩
          go_wp2_with fail
          refine H.out.1.mono ?_
          rintro e w2 ⟨rfl, _, hg2⟩
          go_wp2_with fail
          go_ret
          rw [HR.out]
          exact ⟨rfl, H.out.2.trans (below_of_grown hg2 (by simp) (Nat.le_refl _))⟩
        · have hl : decide ((s.size : Int) ≤ 64) = false := by simp; omega
          have HR := Lib.hid (show nameB s.data.toList = false by
            rw [HT.out] at hsz ⊢
            have : decide ((b :: t).length ≤ 64) = false := by simp only [decide_eq_false_iff_not]; omega
            simp only [nameB, this, Bool.and_false])
          clear h2 h3 htl hrs htw hsz
          go_enter Tryd.func21, Tryd.ntmps21
          go_wp2_with fail
          refine (class_q b _).mono ?_
          rintro e w1 ⟨rfl, rfl⟩
          go_wp2_with fail
          refine H.out.1.mono ?_
          rintro e w2 ⟨rfl, _, hg2⟩
          go_wp2_with fail
          go_ret
          rw [HR.out]
          exact ⟨rfl, H.out.2.trans (below_of_grown hg2 (by simp) (Nat.le_refl _))⟩
      · have hr1 : ((r.size : Int) == (s.size : Int)) = false := by simp; omega
        have HR := Lib.hid (show nameB s.data.toList = false by
          have : s.data.toList.all wordB = false := by
            cases ha : s.data.toList.all wordB with
            | false => rfl
            | true => exact absurd (htl.2 ha) (by omega)
          simp only [nameB, this, Bool.and_false, Bool.false_and])
        clear h2 htl hrs htw hsz
        go_enter Tryd.func21, Tryd.ntmps21
        go_wp2_with fail
        refine (class_q b _).mono ?_
        rintro e w1 ⟨rfl, rfl⟩
        go_wp2_with fail
        refine H.out.1.mono ?_
        rintro e w2 ⟨rfl, _, hg2⟩
        go_wp2_with fail
        go_ret
        rw [HR.out]
        exact ⟨rfl, H.out.2.trans (below_of_grown hg2 (by simp) (Nat.le_refl _))⟩
    · have hc1 : (classI (b.toNat : Int) == 1) = false := by simpa using h1
      have HR := Lib.hid (show nameB s.data.toList = false by
        have : letterB (b.toNat : Int) = false := by
          cases ha : letterB (b.toNat : Int) with
          | false => rfl
          | true => exact absurd (hcl.1 ha) h1
        rw [HT.out]
        simp only [nameB, this, Bool.false_and])
      clear h1 hcl htl hrs htw hsz
      go_enter Tryd.func21, Tryd.ntmps21
      go_wp2_with fail
      refine (class_q b _).mono ?_
      rintro e w1 ⟨rfl, rfl⟩
      go_wp2_with fail
      go_ret
      rw [HR.out]
      exact ⟨rfl, H.out.2⟩
end Go.Proofs.YtmkidbenndhhjaaDoor.Dx
