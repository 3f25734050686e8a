/-
  WALKS: the document's in, hex, skip.
  WALKS: the document's Has, With, Not.
  WALKS: the document's one.
  WALKS: the document's Byte.
-/
import Derived.Test.YtacgnbelcpmjfaaGreatDoorRPureN
import Derived.Test.YtacgnbelcpmjfaaGreatDoorLeaf
import Derived.Test.YtacgnbelcpmjfaaGreatDoorCountA
import Derived.Test.YtacgnbelcpmjfaaGreatDoorMake
import Derived.RegionTactic
import Derived.Test.YtacgnbelcpmjfaaGreatDoorRQuoteA
import Derived.Deep.QuietTactic
import Derived.BigQuiet
set_option linter.unusedVariables false
set_option linter.unusedSimpArgs false
namespace Go.Proofs.YtacgnbelcpmjfaaGreatDoor.Dx
open Go.RowKit Go.Proofs Mx
theorem hexI_digit (b : UInt8) (h : digitB (b.toNat : Int) = true) : hexI b = (b.toNat : Int) - 48 := by
  revert h
  exact all_bytes (p := fun b => digitB (b.toNat : Int) = true → hexI b = (b.toNat : Int) - 48) (by decide +kernel) b
theorem hexI_low (b : UInt8) (h0 : 97 ≤ b.toNat) (h1 : b.toNat ≤ 102) : hexI b = (b.toNat : Int) - 97 + 10 := by
  have h : 97 ≤ b.toNat ∧ b.toNat ≤ 102 := ⟨h0, h1⟩
  clear h0 h1
  revert h
  exact all_bytes (p := fun b => 97 ≤ b.toNat ∧ b.toNat ≤ 102 → hexI b = (b.toNat : Int) - 97 + 10) (by decide +kernel) b
theorem hexI_up (b : UInt8) (h0 : 65 ≤ b.toNat) (h1 : b.toNat ≤ 70) : hexI b = (b.toNat : Int) - 65 + 10 := by
  have h : 65 ≤ b.toNat ∧ b.toNat ≤ 70 := ⟨h0, h1⟩
  clear h0 h1
  revert h
  exact all_bytes (p := fun b => 65 ≤ b.toNat ∧ b.toNat ≤ 70 → hexI b = (b.toNat : Int) - 65 + 10) (by decide +kernel) b
theorem hexI_not (b : UInt8) (h0 : digitB (b.toNat : Int) = false) (h1 : ¬ (97 ≤ b.toNat ∧ b.toNat ≤ 102)) (h2 : ¬ (65 ≤ b.toNat ∧ b.toNat ≤ 70)) : hexI b = -1 := by
  have h : digitB (b.toNat : Int) = false ∧ ¬ (97 ≤ b.toNat ∧ b.toNat ≤ 102) ∧ ¬ (65 ≤ b.toNat ∧ b.toNat ≤ 70) := ⟨h0, h1, h2⟩
  clear h0 h1 h2
  revert h
  exact all_bytes (p := fun b => digitB (b.toNat : Int) = false ∧ ¬ (97 ≤ b.toNat ∧ b.toNat ≤ 102) ∧ ¬ (65 ≤ b.toNat ∧ b.toNat ≤ 70) → hexI b = -1) (by decide +kernel) b
theorem digitB_iff (b : UInt8) : digitB (b.toNat : Int) = true ↔ 48 ≤ b.toNat ∧ b.toNat ≤ 57 := by
  unfold digitB; simp; omega
theorem wrap_sub (x k : Int) (h0 : k ≤ x) (h1 : 0 ≤ k) (h2 : x ≤ 255) : IntKind.u8.wrap (x - k) = x - k := by
  rw [IntKind.wrap_u8]; omega
set_option maxRecDepth 100000 in
theorem rhex_any (b : UInt8) (w : World) :
    Calls Tryz.prog 59 #[.int .u8 (b.toNat : Int)] w fun e w' => e = .returned (.int .i64 (hexI b)) ∧ w' = w := by
  have hb := b.toNat_lt
  have hdig := digit_any (b.toNat : Int)
  by_cases hd : digitB (b.toNat : Int) = true
  · have hx := hexI_digit b hd
    have hr := (digitB_iff b).1 hd
    have HX := Lib.hid hx
    rw [hd] at hdig
    clear hx hd
    have hwr := wrap_sub (b.toNat : Int) 48 (by omega) (by omega) (by omega)
    go_enter Tryz.func59, Tryz.ntmps59
    go_wp2_with fail
    refine (hdig _).mono ?_
    rintro e w2 ⟨rfl, rfl⟩
    go_wp2_with fail
    go_ret
    exact ⟨ret_int (by rw [HX.out] <;> omega), rfl⟩
  have hdf : digitB (b.toNat : Int) = false := by simpa using hd
  rw [hdf] at hdig
  by_cases h1 : 97 ≤ b.toNat ∧ b.toNat ≤ 102
  · have HX := Lib.hid (hexI_low b h1.1 h1.2)
    have g1 : (97 : Int) ≤ (b.toNat : Int) := by omega
    have g2 : (b.toNat : Int) ≤ 102 := by omega
    clear hd hdf
    go_enter Tryz.func59, Tryz.ntmps59
    go_wp2_with fail
    refine (hdig _).mono ?_
    rintro e w2 ⟨rfl, rfl⟩
    go_wp2_with fail
    go_ret
    exact ⟨ret_int (by rw [HX.out] <;> omega), rfl⟩
  by_cases h2 : 65 ≤ b.toNat ∧ b.toNat ≤ 70
  · have HX := Lib.hid (hexI_up b h2.1 h2.2)
    have g1 : (65 : Int) ≤ (b.toNat : Int) := by omega
    have g2 : (b.toNat : Int) ≤ 70 := by omega
    have g3 : ¬ (97 : Int) ≤ (b.toNat : Int) := by omega
    clear hd hdf
    go_enter Tryz.func59, Tryz.ntmps59
    go_wp2_with fail
    refine (hdig _).mono ?_
    rintro e w2 ⟨rfl, rfl⟩
    go_wp2_with fail
    go_ret
    exact ⟨ret_int (by rw [HX.out] <;> omega), rfl⟩
  · have HX := Lib.hid (hexI_not b hdf h1 h2)
    have g1 : (¬ (97 : Int) ≤ (b.toNat : Int)) ∨ ((97 : Int) ≤ (b.toNat : Int) ∧ ¬ (b.toNat : Int) ≤ 102) := by omega
    have g2 : (¬ (65 : Int) ≤ (b.toNat : Int)) ∨ ((65 : Int) ≤ (b.toNat : Int) ∧ ¬ (b.toNat : Int) ≤ 70) := by omega
    clear hd hdf h1 h2
    rcases g1 with g1 | ⟨g1, g3⟩ <;> rcases g2 with g2 | ⟨g2, g4⟩
    all_goals first
      | (exfalso; omega)
      | (go_enter Tryz.func59, Tryz.ntmps59
         go_wp2_with fail
         refine (hdig _).mono ?_
         rintro e w2 ⟨rfl, rfl⟩
         go_wp2_with fail
         go_ret
         exact ⟨ret_int (by rw [HX.out]), rfl⟩)
set_option maxRecDepth 100000 in
theorem rhex2_any (b : UInt8) (w : World) :
    Calls Tryz.prog 75 #[.int .u8 (b.toNat : Int)] w fun e w' => e = .returned (.int .i64 (hexI b)) ∧ w = w' := by
  have hb := b.toNat_lt
  by_cases hd : digitB (b.toNat : Int) = true
  · have HX := Lib.hid (hexI_digit b hd)
    have hr := (digitB_iff b).1 hd
    have g1 : (48 : Int) ≤ (b.toNat : Int) := by omega
    have g2 : (b.toNat : Int) ≤ 57 := by omega
    clear hd hr
    go_enter Tryz.func75, Tryz.ntmps75
    go_wp2_with fail
    go_ret
    exact ⟨ret_int (by rw [HX.out] <;> omega), rfl⟩
  have hdf : digitB (b.toNat : Int) = false := by simpa using hd
  have g0 : ¬ (48 ≤ b.toNat ∧ b.toNat ≤ 57) := fun h => hd ((digitB_iff b).2 h)
  have g0' : (¬ (48 : Int) ≤ (b.toNat : Int)) ∨ ((48 : Int) ≤ (b.toNat : Int) ∧ ¬ (b.toNat : Int) ≤ 57) := by omega
  by_cases h1 : 97 ≤ b.toNat ∧ b.toNat ≤ 102
  · have HX := Lib.hid (hexI_low b h1.1 h1.2)
    have g1 : (97 : Int) ≤ (b.toNat : Int) := by omega
    have g2 : (b.toNat : Int) ≤ 102 := by omega
    have g3 : (48 : Int) ≤ (b.toNat : Int) := by omega
    have g4 : ¬ (b.toNat : Int) ≤ 57 := by omega
    clear hd hdf g0 g0'
    go_enter Tryz.func75, Tryz.ntmps75
    go_wp2_with fail
    go_ret
    exact ⟨ret_int (by rw [HX.out] <;> omega), rfl⟩
  by_cases h2 : 65 ≤ b.toNat ∧ b.toNat ≤ 70
  · have HX := Lib.hid (hexI_up b h2.1 h2.2)
    have g1 : (65 : Int) ≤ (b.toNat : Int) := by omega
    have g2 : (b.toNat : Int) ≤ 70 := by omega
    have g3 : ¬ (97 : Int) ≤ (b.toNat : Int) := by omega
    have g4 : (48 : Int) ≤ (b.toNat : Int) := by omega
    have g5 : ¬ (b.toNat : Int) ≤ 57 := by omega
    clear hd hdf g0 g0'
    go_enter Tryz.func75, Tryz.ntmps75
    go_wp2_with fail
    go_ret
    exact ⟨ret_int (by rw [HX.out] <;> omega), rfl⟩
  · have HX := Lib.hid (hexI_not b hdf h1 h2)
    have g1 : (¬ (97 : Int) ≤ (b.toNat : Int)) ∨ ((97 : Int) ≤ (b.toNat : Int) ∧ ¬ (b.toNat : Int) ≤ 102) := by omega
    have g2 : (¬ (65 : Int) ≤ (b.toNat : Int)) ∨ ((65 : Int) ≤ (b.toNat : Int) ∧ ¬ (b.toNat : Int) ≤ 70) := by omega
    clear hd hdf h1 h2 g0
    rcases g0' with g0 | ⟨g0, g5⟩ <;> rcases g1 with g1 | ⟨g1, g3⟩ <;> rcases g2 with g2 | ⟨g2, g4⟩
    all_goals first
      | (exfalso; omega)
      | (go_enter Tryz.func75, Tryz.ntmps75
         go_wp2_with fail
         go_ret
         exact ⟨ret_int (by rw [HX.out]), rfl⟩)
def signS : ByteArray := ⟨#[59, 46, 61, 44, 40, 41, 123, 125, 62, 63, 42, 43]⟩
theorem signS_list : signS.data.toList = signL := rfl
set_option maxRecDepth 100000 in
theorem rin_any (c : UInt8) (t : ByteArray) (ht : t.size ≤ 4000000000) (w : World) :
    Calls Tryz.prog 46 #[.int .u8 (c.toNat : Int), .string t] w fun e w' => e = .returned (.bool (t.data.toList.contains c)) ∧ w' = w := by
  go_enter Tryz.func46, Tryz.ntmps46
  go_wp2_with fail
  go_loopg [5] t.size (fun m v wr => ∃ i : Nat, i ≤ t.size ∧ m = t.size - i ∧ v = .int .i64 i ∧ wr = w ∧ t.data.toList.contains c = (t.data.toList.drop i).contains c)
  case atStart => exact ⟨0, by omega, by omega, rfl, rfl, by rw [List.drop_zero]⟩
  case round =>
    obtain ⟨i, hi, hm, rfl, rfl, hall⟩ := hrel
    have A := Lib.hid (And.intro hm hall)
    clear hm hall
    by_cases hlt : i < t.size
    · obtain ⟨d, hd⟩ : ∃ d, t[i] = d := ⟨_, rfl⟩
      have HD := Lib.hid (show t.data.toList.drop i = d :: t.data.toList.drop (i + 1) by rw [drop_cons t i hlt, hd])
      have hlt' : (i : Int) < (t.size : Int) := by omega
      have hi0 : (0 : Int) ≤ (i : Int) := by omega
      by_cases he : d = c
      · subst he
        go_wp2_with fail
        go_ret
        refine ⟨ret_bool ?_, rfl⟩
        rw [A.out.2, HD.out]; simp
      · have he' : ((d.toNat : Int) == (c.toNat : Int)) = false := beq_false_of_ne (u8_ne he)
        go_wp2_with fail
        go_roundg (t.size - (i + 1))
        case measure => have := A.out.1; omega
        case rel =>
          refine ⟨i + 1, by omega, by omega, rfl, rfl, ?_⟩
          rw [A.out.2, HD.out, List.contains_cons]
          have : (c == d) = false := beq_false_of_ne (fun e => he e.symm)
          rw [this, Bool.false_or]
    · obtain rfl : i = t.size := by omega
      go_wp2_with fail
      go_ret
      refine ⟨ret_bool ?_, rfl⟩
      rw [A.out.2, drop_all t _ (Nat.le_refl _)]; rfl
theorem sk_some (s : ByteArray) (i : Nat) (h : i < s.size) (c : UInt8) (hc : s[i] = c) (m : Bool) : skM m (s.data.toList.drop i) = skM m (c :: s.data.toList.drop (i + 1)) := by
  rw [drop_cons s i h, hc]
theorem skT_ten (t : List UInt8) : skM true (10 :: t) = skM false (10 :: t) := by simp [skM, blankB, blankL]
theorem skT_other (c : UInt8) (t : List UInt8) (h : c ≠ 10) : skM true (c :: t) = skM true t + 1 := by rw [skM, if_neg h]
theorem skF_blank (c : UInt8) (t : List UInt8) (h : blankB c = true) : skM false (c :: t) = skM false t + 1 := by rw [skM, if_pos h]
theorem skF_two (t : List UInt8) : skM false (47 :: 47 :: t) = skM true (47 :: 47 :: t) := by
  rw [skT_other 47 _ (by decide)]
  show (if blankB 47 = true then _ else if (47 : UInt8) = 47 ∧ (47 :: t).head? = some 47 then skM true (47 :: t) + 1 else 0) = _
  rw [if_neg (by decide), if_pos ⟨rfl, rfl⟩]
theorem skF_none (c : UInt8) (t : List UInt8) (h : blankB c = false) (h2 : c = 47 → t.head? ≠ some 47) : skM false (c :: t) = 0 := by
  rw [skM, if_neg (by simp [h]), if_neg]
  rintro ⟨h3, h4⟩
  exact h2 h3 h4
theorem blank_cases (c : UInt8) (h : blankB c = true) : c = 32 ∨ c = 9 ∨ c = 10 ∨ c = 13 := by
  simpa [blankB, blankL] using h
theorem blank_nots (c : UInt8) (h : blankB c = false) : c ≠ 32 ∧ c ≠ 9 ∧ c ≠ 10 ∧ c ≠ 13 := by
  simpa [blankB, blankL] using h
theorem u8_beq (c d : UInt8) (h : c ≠ d) : ((c.toNat : Int) == (d.toNat : Int)) = false := beq_false_of_ne (u8_ne h)
set_option maxRecDepth 100000 in
set_option maxHeartbeats 1000000 in
theorem rskip_any (s : ByteArray) (k : Nat) (hs : s.size ≤ 4000000000) (hk : k ≤ s.size) (w : World) :
    Calls Tryz.prog 19 #[.string s, .int .i64 (k : Int)] w fun e w' => e = .returned (.int .i64 ((k + sk s k : Nat) : Int)) ∧ w' = w := by
  go_enter Tryz.func19, Tryz.ntmps19
  go_wp2_with fail
  go_loopg [1] (s.size - k) (fun m v wr => ∃ i : Nat, i ≤ s.size ∧ m = s.size - i ∧ v = .int .i64 i ∧ wr = w ∧ k + sk s k = i + skM false (s.data.toList.drop i))
  case atStart => exact ⟨k, hk, rfl, rfl, rfl, rfl⟩
  case round =>
    obtain ⟨i, hi, hm, rfl, rfl, hsk⟩ := hrel
    have A := Lib.hid (And.intro hm hsk)
    clear hm hsk
    by_cases hlt : i < s.size
    · obtain ⟨c, hc⟩ : ∃ c, s[i] = c := ⟨_, rfl⟩
      have HD := Lib.hid (sk_some s i hlt c hc)
      have hlt' : (i : Int) < (s.size : Int) := by omega
      have hi0 : (0 : Int) ≤ (i : Int) := by omega
      by_cases hb : blankB c = true
      · have HB := Lib.hid (skF_blank c (s.data.toList.drop (i + 1)) hb)
        rcases blank_cases c hb with rfl | rfl | rfl | rfl
        all_goals
          go_wp2_with fail
          go_roundg (s.size - (i + 1))
          case measure => have := A.out.1; omega
          case rel =>
            refine ⟨i + 1, by omega, by omega, rfl, rfl, ?_⟩
            rw [A.out.2, HD.out, HB.out]; omega
      have hbf : blankB c = false := by simpa using hb
      obtain ⟨n1, n2, n3, n4⟩ := blank_nots c hbf
      have m1 : ((c.toNat : Int) == 32) = false := u8_beq c 32 n1
      have m2 : ((c.toNat : Int) == 9) = false := u8_beq c 9 n2
      have m3 : ((c.toNat : Int) == 10) = false := u8_beq c 10 n3
      have m4 : ((c.toNat : Int) == 13) = false := u8_beq c 13 n4
      clear n1 n2 n3 n4 hb
      by_cases hcm : c = 47 ∧ (s.data.toList.drop (i + 1)).head? = some 47
      · obtain ⟨rfl, h2⟩ := hcm
        have h2s : i + 1 < s.size := by
          rcases Nat.lt_or_ge (i + 1) s.size with h | h
          · exact h
          · rw [drop_all s _ h] at h2; cases h2
        have h2c : s[i + 1] = 47 := by
          rw [drop_cons s (i + 1) h2s] at h2
          simpa using h2
        have HT := Lib.hid (show skM false (s.data.toList.drop i) = skM true (s.data.toList.drop i) by
          rw [drop_cons s i hlt, hc, drop_cons s (i + 1) h2s, h2c, skF_two])
        have g1 : (2 : Int) ≤ (s.size : Int) - (i : Int) := by omega
        have g2 : (i : Int) + 1 < (s.size : Int) := by omega
        go_wp2_with fail
        go_loopg [1] (s.size - i) (fun m v wx => ∃ j : Nat, i ≤ j ∧ j ≤ s.size ∧ m = s.size - j ∧ v = .int .i64 j ∧ wx = wr ∧ k + sk s k = j + skM true (s.data.toList.drop j))
        case atStart => exact ⟨i, Nat.le_refl _, by omega, rfl, rfl, rfl, by rw [A.out.2, HT.out]⟩
        case round =>
          obtain ⟨j, hij, hj, hm2, rfl, rfl, hs2⟩ := hrel
          have A2 := Lib.hid (And.intro hm2 hs2)
          clear hm2 hs2
          by_cases hjl : j < s.size
          · obtain ⟨d, hd⟩ : ∃ d, s[j] = d := ⟨_, rfl⟩
            have HD2 := Lib.hid (sk_some s j hjl d hd)
            have hjl' : (j : Int) < (s.size : Int) := by omega
            have hj0 : (0 : Int) ≤ (j : Int) := by omega
            by_cases h10 : d = 10
            · subst h10
              have hne : i ≠ j := by rintro rfl; rw [hc] at hd; exact absurd hd (by decide)
              go_wp2_with fail
              go_roundg (s.size - j)
              case measure => have := A.out.1; omega
              case rel =>
                refine ⟨j, hj, rfl, rfl, rfl, ?_⟩
                rw [A2.out.2, HD2.out, HD2.out, skT_ten]
            · have h10' : ((d.toNat : Int) == 10) = false := u8_beq d 10 h10
              have HT2 := Lib.hid (skT_other d (s.data.toList.drop (j + 1)) h10)
              go_wp2_with fail
              go_roundg (s.size - (j + 1))
              case measure => have := A2.out.1; omega
              case rel =>
                refine ⟨j + 1, by omega, by omega, rfl, rfl, rfl, ?_⟩
                rw [A2.out.2, HD2.out, HT2.out]; omega
          · obtain rfl : j = s.size := by omega
            go_wp2_with fail
            go_roundg 0
            case measure => have := A.out.1; omega
            case rel =>
              refine ⟨s.size, Nat.le_refl _, by omega, rfl, rfl, ?_⟩
              rw [A2.out.2, drop_all s _ (Nat.le_refl _)]; rfl
      · have HN := Lib.hid (skF_none c (s.data.toList.drop (i + 1)) hbf (fun h1 h2 => hcm ⟨h1, h2⟩))
        have fin : k + sk s k = i := by rw [A.out.2, HD.out, HN.out]; rfl
        have HF := Lib.hid fin
        clear fin
        by_cases h2 : i + 1 < s.size
        · have g1 : (2 : Int) ≤ (s.size : Int) - (i : Int) := by omega
          have g2 : (i : Int) + 1 < (s.size : Int) := by omega
          by_cases h47 : c = 47
          · subst h47
            obtain ⟨d, hd⟩ : ∃ d, s[i + 1] = d := ⟨_, rfl⟩
            have hd47 : d ≠ 47 := by
              rintro rfl
              exact hcm ⟨rfl, by rw [drop_cons s (i + 1) h2, hd]; rfl⟩
            have hd' : ((d.toNat : Int) == 47) = false := u8_beq d 47 hd47
            clear hcm hd47 m1 m2 m3 m4
            go_wp2_with fail
            go_ret
            exact ⟨ret_int (by have := HF.out; omega), rfl⟩
          · have h47' : ((c.toNat : Int) == 47) = false := u8_beq c 47 h47
            clear hcm h47
            go_wp2_with fail
            go_ret
            exact ⟨ret_int (by have := HF.out; omega), rfl⟩
        · have g1 : ¬ (2 : Int) ≤ (s.size : Int) - (i : Int) := by omega
          clear hcm
          go_wp2_with fail
          go_ret
          exact ⟨ret_int (by have := HF.out; omega), rfl⟩
    · obtain rfl : i = s.size := by omega
      have h0 := A.out.2
      rw [drop_all s _ (Nat.le_refl _)] at h0
      have HE := Lib.hid h0
      clear A h0
      go_wp2_with fail
      go_ret
      exact ⟨ret_int (by rw [HE.out]; simp [skM]), rfl⟩
end Go.Proofs.YtacgnbelcpmjfaaGreatDoor.Dx
set_option linter.unusedVariables false
set_option linter.unusedSimpArgs false
namespace Go.Proofs.YtacgnbelcpmjfaaGreatDoor.Dx
open Go.RowKit Go.Proofs Mx
theorem wd_test (M b q m : Nat) (hq : b / 64 = q) (hm : b % 64 = m) : ((wd M q / 2 ^ m).tmod 2 == 1) = M.testBit b := by
  obtain ⟨N, hN⟩ : ∃ N : Nat, M / 2 ^ (64 * q) % 18446744073709551616 = N := ⟨_, rfl⟩
  have h1 : wd M q = (N : Int) := by rw [wd, hN]
  have h2 : M.testBit b = N.testBit m := by
    rw [← hN, two64, Nat.testBit_mod_two_pow, Nat.testBit_div_two_pow]
    have : m < 64 := by omega
    simp only [this, decide_true, Bool.true_and]
    congr 1
    omega
  rw [h1, h2, Nat.testBit_eq_decide_div_mod_eq]
  have h3 : ((N : Int) / 2 ^ m).tmod 2 = ((N / 2 ^ m % 2 : Nat) : Int) := by
    rw [show ((2 : Int) ^ m) = ((2 ^ m : Nat) : Int) by simp, ← Int.natCast_ediv, show (2 : Int) = ((2 : Nat) : Int) from rfl, ← Int.ofNat_tmod]
  rw [h3]
  have h4 : N / 2 ^ m % 2 < 2 := Nat.mod_lt _ (by decide)
  generalize N / 2 ^ m % 2 = x at h4 ⊢
  match x, h4 with
  | 0, _ => rfl
  | 1, _ => rfl
set_option maxRecDepth 100000 in
theorem has_any (M b : Nat) (hb : b < 256) (w : World) :
    Calls Tryz.prog 76 #[.agg #[.int .u64 (wd M 0), .int .u64 (wd M 1), .int .u64 (wd M 2), .int .u64 (wd M 3)], .int .i64 (b : Int)] w fun e w' => e = .returned (.bool (M.testBit b)) ∧ Below w.heap.size w w' := by
  have hb0 : (0 : Int) ≤ (b : Int) := by omega
  obtain ⟨m, hm⟩ : ∃ m : Nat, b % 64 = m := ⟨_, rfl⟩
  have hm' : (b : Int) % 64 = (m : Int) := by omega
  have hm64 : (m : Int) < 64 := by omega
  have hm0 : (0 : Int) ≤ (m : Int) := by omega
  have w0 := wd_range M 0
  have w1 := wd_range M 1
  have w2 := wd_range M 2
  have w3 := wd_range M 3
  rcases (show b / 64 = 0 ∨ b / 64 = 1 ∨ b / 64 = 2 ∨ b / 64 = 3 by omega) with hq | hq | hq | hq
  · have hq' : (b : Int) / 64 = 0 := by omega
    have HX := Lib.hid (wd_test M b 0 m hq hm)
    clear hm hq
    go_enter Tryz.func76, Tryz.ntmps76
    go_wp2_with fail
    go_ret
    exact ⟨ret_bool HX.out, (Below.refl _ w).alloc (Nat.le_refl _) _⟩
  · have hq' : (b : Int) / 64 = 1 := by omega
    have HX := Lib.hid (wd_test M b 1 m hq hm)
    clear hm hq
    go_enter Tryz.func76, Tryz.ntmps76
    go_wp2_with fail
    go_ret
    exact ⟨ret_bool HX.out, (Below.refl _ w).alloc (Nat.le_refl _) _⟩
  · have hq' : (b : Int) / 64 = 2 := by omega
    have HX := Lib.hid (wd_test M b 2 m hq hm)
    clear hm hq
    go_enter Tryz.func76, Tryz.ntmps76
    go_wp2_with fail
    go_ret
    exact ⟨ret_bool HX.out, (Below.refl _ w).alloc (Nat.le_refl _) _⟩
  · have hq' : (b : Int) / 64 = 3 := by omega
    have HX := Lib.hid (wd_test M b 3 m hq hm)
    clear hm hq
    go_enter Tryz.func76, Tryz.ntmps76
    go_wp2_with fail
    go_ret
    exact ⟨ret_bool HX.out, (Below.refl _ w).alloc (Nat.le_refl _) _⟩
theorem or_same (M b : Nat) (h : M.testBit b = true) : M ||| 2 ^ b = M := by
  apply Nat.eq_of_testBit_eq
  intro i
  rw [Nat.testBit_or, Nat.testBit_two_pow]
  by_cases hi : b = i
  · subst hi; simp [h]
  · simp [hi]
theorem add_bit (M b q m : Nat) (hb : b < 256) (hq : b / 64 = q) (hm : b % 64 = m) (h : M.testBit b = false) : IntKind.u64.wrap (wd M q + IntKind.u64.wrap ((2 : Int) ^ m)) = wd (M ||| 2 ^ b) q := by
  have hm64 : m < 64 := by omega
  obtain ⟨N, hN⟩ : ∃ N : Nat, M / 2 ^ (64 * q) % 18446744073709551616 = N := ⟨_, rfl⟩
  have h1 : wd M q = (N : Int) := by rw [wd, hN]
  have hlt : N < 2 ^ 64 := by rw [← hN]; exact Nat.mod_lt _ (by decide)
  have h2 : N.testBit m = false := by
    rw [← h, ← hN, two64, Nat.testBit_mod_two_pow, Nat.testBit_div_two_pow]
    simp only [hm64, decide_true, Bool.true_and]
    congr 1
    omega
  rw [wd_set M b q hb (by omega), if_pos hq.symm, hm, wrap_pow m hm64, h1]
  have hp : (2 : Nat) ^ m < 2 ^ 64 := Nat.pow_lt_pow_right (by decide) hm64
  rw [show ((2 : Int) ^ m) = ((2 ^ m : Nat) : Int) by simp, or_nat _ _ hlt hp]
  have hor : N ||| 2 ^ m < 2 ^ 64 := Nat.or_lt_two_pow hlt hp
  have hadd : N + 2 ^ m = N ||| 2 ^ m := by
    have hb0 : BitVec.ofNat 64 N &&& BitVec.ofNat 64 (2 ^ m) = 0#64 := by
      apply BitVec.eq_of_getLsbD_eq
      intro i hi
      rw [BitVec.getLsbD_and, BitVec.getLsbD_ofNat, BitVec.getLsbD_ofNat, Nat.testBit_two_pow]
      by_cases him : m = i
      · subst him; simp [h2]
      · simp [him]
    have h5 := congrArg BitVec.toNat (BitVec.add_eq_or_of_and_eq_zero _ _ hb0)
    rw [BitVec.toNat_add, BitVec.toNat_or, BitVec.toNat_ofNat, BitVec.toNat_ofNat, Nat.mod_eq_of_lt hlt, Nat.mod_eq_of_lt hp] at h5
    have h6 : N + 2 ^ m < 2 ^ 64 := by
      have e1 : N = 2 ^ (m + 1) * (N / 2 ^ (m + 1)) + N % 2 ^ (m + 1) := (Nat.div_add_mod _ _).symm
      have e2 : N % 2 ^ (m + 1) < 2 ^ m := by
        apply Nat.lt_pow_two_of_testBit
        intro i hi
        rw [Nat.testBit_mod_two_pow]
        by_cases him : i = m
        · subst him; simp [h2]
        · simp; omega
      have e3 : N / 2 ^ (m + 1) < 2 ^ (63 - m) := by
        rw [Nat.div_lt_iff_lt_mul (Nat.two_pow_pos _), ← Nat.pow_add, show 63 - m + (m + 1) = 64 by omega]; exact hlt
      have e4 : 2 ^ (m + 1) * (N / 2 ^ (m + 1)) + 2 ^ (m + 1) ≤ 2 ^ 64 := by
        have : 2 ^ (m + 1) * (N / 2 ^ (m + 1) + 1) ≤ 2 ^ (m + 1) * 2 ^ (63 - m) := Nat.mul_le_mul_left _ e3
        rw [← Nat.pow_add, show m + 1 + (63 - m) = 64 by omega, Nat.mul_add, Nat.mul_one] at this
        exact this
      have e5 : (2 : Nat) ^ (m + 1) = 2 * 2 ^ m := by rw [Nat.pow_succ]; omega
      omega
    rw [Nat.mod_eq_of_lt h6] at h5
    exact h5
  rw [← hadd, IntKind.wrap_u64]
  have : N + 2 ^ m < 2 ^ 64 := by rw [hadd]; exact hor
  have h64 : (2 : Nat) ^ 64 = 18446744073709551616 := by decide
  rw [h64] at this
  generalize (2 : Nat) ^ m = x at this ⊢
  omega
theorem setV_bit (M b q m : Nat) (hb : b < 256) (hq : b / 64 = q) (hm : b % 64 = m) (h : M.testBit b = false) :
    (setC M).setIfInBounds q (.int .u64 (IntKind.u64.wrap (wd M q + IntKind.u64.wrap ((2 : Int) ^ m)))) = setC (M ||| 2 ^ b) := by
  rw [add_bit M b q m hb hq hm h]
  have hw : ∀ j, j < 4 → j ≠ q → wd (M ||| 2 ^ b) j = wd M j := fun j hj hne => by rw [wd_set M b j hb hj, if_neg (by omega)]
  unfold setC
  rcases (show q = 0 ∨ q = 1 ∨ q = 2 ∨ q = 3 by omega) with rfl | rfl | rfl | rfl
  · rw [hw 1 (by decide) (by decide), hw 2 (by decide) (by decide), hw 3 (by decide) (by decide)]; rfl
  · rw [hw 0 (by decide) (by decide), hw 2 (by decide) (by decide), hw 3 (by decide) (by decide)]; rfl
  · rw [hw 0 (by decide) (by decide), hw 1 (by decide) (by decide), hw 3 (by decide) (by decide)]; rfl
  · rw [hw 0 (by decide) (by decide), hw 1 (by decide) (by decide), hw 2 (by decide) (by decide)]; rfl
set_option maxRecDepth 100000 in
set_option maxHeartbeats 1000000 in
theorem with_any (M b : Nat) (hb : b < 256) (w : World) :
    Calls Tryz.prog 61 #[.agg #[.int .u64 (wd M 0), .int .u64 (wd M 1), .int .u64 (wd M 2), .int .u64 (wd M 3)], .int .i64 (b : Int)] w fun e w' => e = .returned (setV (M ||| 2 ^ b)) ∧ Below w.heap.size w w' := by
  have hb0 : (0 : Int) ≤ (b : Int) := by omega
  obtain ⟨m, hm⟩ : ∃ m : Nat, b % 64 = m := ⟨_, rfl⟩
  have hm' : (b : Int) % 64 = (m : Int) := by omega
  have hm64 : (m : Int) < 64 := by omega
  have hm0 : (0 : Int) ≤ (m : Int) := by omega
  have HB := Lib.hid (And.intro hb hm)
  clear hm
  go_enter Tryz.func61, Tryz.ntmps61
  go_wp2_with fail
  have hB0 : Blk ((w.alloc (.cells #[.int .u64 (wd M 0), .int .u64 (wd M 1), .int .u64 (wd M 2), .int .u64 (wd M 3)] 33)).alloc (.cells #[.int .u64 0, .int .u64 0, .int .u64 0, .int .u64 0] 33)) w.heap.size 33 (setC M) :=
    (Blk.new_ rfl _ _).alloc _
  have hB1 : Blk ((w.alloc (.cells #[.int .u64 (wd M 0), .int .u64 (wd M 1), .int .u64 (wd M 2), .int .u64 (wd M 3)] 33)).alloc (.cells #[.int .u64 0, .int .u64 0, .int .u64 0, .int .u64 0] 33)) (w.heap.size + 1) 33 (setC 0) :=
    Blk.new_ (by simp) _ _
  have hbl := ((Below.refl w.heap.size w).alloc (Nat.le_refl _) (.cells #[.int .u64 (wd M 0), .int .u64 (wd M 1), .int .u64 (wd M 2), .int .u64 (wd M 3)] 33)).alloc (by simp) (.cells #[.int .u64 0, .int .u64 0, .int .u64 0, .int .u64 0] 33)
  generalize ((w.alloc (.cells #[.int .u64 (wd M 0), .int .u64 (wd M 1), .int .u64 (wd M 2), .int .u64 (wd M 3)] 33)).alloc (.cells #[.int .u64 0, .int .u64 0, .int .u64 0, .int .u64 0] 33)) = W1 at hB0 hB1 hbl ⊢
  refine (has_any M b hb _).mono ?_
  rintro e w2 ⟨rfl, hb2⟩
  replace hB0 := hB0.below hb2 hB0.lt
  replace hB1 := hB1.below hb2 hB1.lt
  replace hbl := hbl.trans (hb2.mono hbl.size)
  clear hb2 W1
  obtain ⟨e0, e1, e2, e3, ef⟩ := hB0.facts4
  obtain ⟨f0, f1, f2, f3, ff⟩ := hB1.facts4
  have H := Lib.hid (And.intro hB0 (And.intro hB1 hbl))
  clear hB0 hB1 hbl
  cases hx : M.testBit b with
  | true =>
    have HM := Lib.hid (or_same M b hx)
    clear hx
    go_wp2_with fail
    have hbk := (((H.out.2.1.set_ 0 (.int .u64 (wd M 0))).set_ 1 (.int .u64 (wd M 1))).set_ 2 (.int .u64 (wd M 2))).set_ 3 (.int .u64 (wd M 3))
    refine bodyPost_ret (results_cell_row (by rfl) _ _ (w.heap.size + 1) 33 _ (0, 0) _ (by rfl) hbk Tryz.underlying33 (by rfl) (by kernel_rfl)) rfl ?_
    rw [HM.out]
    refine ⟨rfl, (((H.out.2.2.setCell ?_ _).setCell ?_ _).setCell ?_ _).setCell ?_ _⟩ <;> simp
  | false =>
    have HM := Lib.hid (fun q hq => setV_bit M b q m hb hq HB.out.2 hx)
    clear hx
    rcases (show b / 64 = 0 ∨ b / 64 = 1 ∨ b / 64 = 2 ∨ b / 64 = 3 by omega) with hq | hq | hq | hq
    · have hq' : (b : Int) / 64 = 0 := by omega
      have HQ := Lib.hid hq
      clear hq
      go_wp2_with fail
      go_region
      go_wp2_with fail
      have hbk := (((((((H.out.2.1.far (p := ⟨w.heap.size, 0, none⟩) (by simp) (.int .u64 (IntKind.u64.wrap (wd M 0 + IntKind.u64.wrap ((2 : Int) ^ m)))))).set_ 0 (.int .u64 (IntKind.u64.wrap (wd M 0 + IntKind.u64.wrap ((2 : Int) ^ m))))).set_ 1 (.int .u64 (wd M 1))).set_ 2 (.int .u64 (wd M 2))).set_ 3 (.int .u64 (wd M 3)))).drew
      refine bodyPost_ret (results_cell_row (by rfl) _ _ (w.heap.size + 1) 33 _ (0, 0) _ (by rfl) hbk Tryz.underlying33 (by rfl) (by kernel_rfl)) rfl ?_
      have hv := HM.out 0 HQ.out
      refine ⟨?_, (((((H.out.2.2.setCell (p := ⟨w.heap.size, 0, none⟩) ?_ _).setCell ?_ _).setCell ?_ _).setCell ?_ _).setCell ?_ _).drew⟩
      · unfold setV
        have hv' := congrArg (fun a => Ending.returned (Value.agg a)) hv
        exact hv'
      all_goals simp
    · have hq' : (b : Int) / 64 = 1 := by omega
      have HQ := Lib.hid hq
      clear hq
      go_wp2_with fail
      go_region
      go_wp2_with fail
      have hbk := (((((((H.out.2.1.far (p := ⟨w.heap.size, 1, none⟩) (by simp) (.int .u64 (IntKind.u64.wrap (wd M 1 + IntKind.u64.wrap ((2 : Int) ^ m)))))).set_ 0 (.int .u64 (wd M 0))).set_ 1 (.int .u64 (IntKind.u64.wrap (wd M 1 + IntKind.u64.wrap ((2 : Int) ^ m))))).set_ 2 (.int .u64 (wd M 2))).set_ 3 (.int .u64 (wd M 3)))).drew
      refine bodyPost_ret (results_cell_row (by rfl) _ _ (w.heap.size + 1) 33 _ (0, 0) _ (by rfl) hbk Tryz.underlying33 (by rfl) (by kernel_rfl)) rfl ?_
      have hv := HM.out 1 HQ.out
      refine ⟨?_, (((((H.out.2.2.setCell (p := ⟨w.heap.size, 1, none⟩) ?_ _).setCell ?_ _).setCell ?_ _).setCell ?_ _).setCell ?_ _).drew⟩
      · unfold setV
        have hv' := congrArg (fun a => Ending.returned (Value.agg a)) hv
        exact hv'
      all_goals simp
    · have hq' : (b : Int) / 64 = 2 := by omega
      have HQ := Lib.hid hq
      clear hq
      go_wp2_with fail
      go_region
      go_wp2_with fail
      have hbk := (((((((H.out.2.1.far (p := ⟨w.heap.size, 2, none⟩) (by simp) (.int .u64 (IntKind.u64.wrap (wd M 2 + IntKind.u64.wrap ((2 : Int) ^ m)))))).set_ 0 (.int .u64 (wd M 0))).set_ 1 (.int .u64 (wd M 1))).set_ 2 (.int .u64 (IntKind.u64.wrap (wd M 2 + IntKind.u64.wrap ((2 : Int) ^ m))))).set_ 3 (.int .u64 (wd M 3)))).drew
      refine bodyPost_ret (results_cell_row (by rfl) _ _ (w.heap.size + 1) 33 _ (0, 0) _ (by rfl) hbk Tryz.underlying33 (by rfl) (by kernel_rfl)) rfl ?_
      have hv := HM.out 2 HQ.out
      refine ⟨?_, (((((H.out.2.2.setCell (p := ⟨w.heap.size, 2, none⟩) ?_ _).setCell ?_ _).setCell ?_ _).setCell ?_ _).setCell ?_ _).drew⟩
      · unfold setV
        have hv' := congrArg (fun a => Ending.returned (Value.agg a)) hv
        exact hv'
      all_goals simp
    · have hq' : (b : Int) / 64 = 3 := by omega
      have HQ := Lib.hid hq
      clear hq
      go_wp2_with fail
      go_region
      go_wp2_with fail
      have hbk := (((((((H.out.2.1.far (p := ⟨w.heap.size, 3, none⟩) (by simp) (.int .u64 (IntKind.u64.wrap (wd M 3 + IntKind.u64.wrap ((2 : Int) ^ m)))))).set_ 0 (.int .u64 (wd M 0))).set_ 1 (.int .u64 (wd M 1))).set_ 2 (.int .u64 (wd M 2))).set_ 3 (.int .u64 (IntKind.u64.wrap (wd M 3 + IntKind.u64.wrap ((2 : Int) ^ m)))))).drew
      refine bodyPost_ret (results_cell_row (by rfl) _ _ (w.heap.size + 1) 33 _ (0, 0) _ (by rfl) hbk Tryz.underlying33 (by rfl) (by kernel_rfl)) rfl ?_
      have hv := HM.out 3 HQ.out
      refine ⟨?_, (((((H.out.2.2.setCell (p := ⟨w.heap.size, 3, none⟩) ?_ _).setCell ?_ _).setCell ?_ _).setCell ?_ _).setCell ?_ _).drew⟩
      · unfold setV
        have hv' := congrArg (fun a => Ending.returned (Value.agg a)) hv
        exact hv'
      all_goals simp
theorem has_bit (M b : Nat) (x : Nat) : (M ||| 2 ^ b).testBit x = (M.testBit x || decide (b = x)) := by
  rw [Nat.testBit_or, Nat.testBit_two_pow]
/-- The first i bits of a set's complement. -/
theorem notM_low (M x : Nat) (hx : x < 256) : (notM M).testBit x = !M.testBit x := by
  unfold notM fullM
  rw [Nat.testBit_xor, Nat.testBit_two_pow_sub_one]
  simp [hx]
theorem notM_big (M x : Nat) (hM : M < 2 ^ 256) (hx : 256 ≤ x) : (notM M).testBit x = false := by
  unfold notM fullM
  rw [Nat.testBit_xor, Nat.testBit_two_pow_sub_one, Nat.testBit_lt_two_pow (Nat.lt_of_lt_of_le hM (Nat.pow_le_pow_right (by decide) hx))]
  simp; omega
set_option maxRecDepth 100000 in
set_option maxHeartbeats 1000000 in
theorem rnot_any (M : Nat) (hM : M < 2 ^ 256) (w : World) :
    Calls Tryz.prog 62 #[.agg #[.int .u64 (wd M 0), .int .u64 (wd M 1), .int .u64 (wd M 2), .int .u64 (wd M 3)]] w fun e w' => e = .returned (setV (notM M)) ∧ Below w.heap.size w w' := by
  go_enter Tryz.func62, Tryz.ntmps62
  go_wp2_with fail
  have hB0 : Blk (((w.alloc (.cells #[.int .u64 (wd M 0), .int .u64 (wd M 1), .int .u64 (wd M 2), .int .u64 (wd M 3)] 33)).alloc (.cells #[.int .u64 0, .int .u64 0, .int .u64 0, .int .u64 0] 33)).alloc (.cells #[.int .u64 0, .int .u64 0, .int .u64 0, .int .u64 0] 33)) w.heap.size 33 (setC M) :=
    ((Blk.new_ rfl _ _).alloc _).alloc _
  have hB1 : Blk (((w.alloc (.cells #[.int .u64 (wd M 0), .int .u64 (wd M 1), .int .u64 (wd M 2), .int .u64 (wd M 3)] 33)).alloc (.cells #[.int .u64 0, .int .u64 0, .int .u64 0, .int .u64 0] 33)).alloc (.cells #[.int .u64 0, .int .u64 0, .int .u64 0, .int .u64 0] 33)) (w.heap.size + 1) 33 (setC 0) :=
    (Blk.new_ (by simp) _ _).alloc _
  have hB2 : Blk (((w.alloc (.cells #[.int .u64 (wd M 0), .int .u64 (wd M 1), .int .u64 (wd M 2), .int .u64 (wd M 3)] 33)).alloc (.cells #[.int .u64 0, .int .u64 0, .int .u64 0, .int .u64 0] 33)).alloc (.cells #[.int .u64 0, .int .u64 0, .int .u64 0, .int .u64 0] 33)) (w.heap.size + 1 + 1) 33 (setC 0) :=
    Blk.new_ (by simp) _ _
  have hbl := (((Below.refl w.heap.size w).alloc (Nat.le_refl _) (.cells #[.int .u64 (wd M 0), .int .u64 (wd M 1), .int .u64 (wd M 2), .int .u64 (wd M 3)] 33)).alloc (by simp) (.cells #[.int .u64 0, .int .u64 0, .int .u64 0, .int .u64 0] 33)).alloc (by simp; omega) (.cells #[.int .u64 0, .int .u64 0, .int .u64 0, .int .u64 0] 33)
  generalize (((w.alloc (.cells #[.int .u64 (wd M 0), .int .u64 (wd M 1), .int .u64 (wd M 2), .int .u64 (wd M 3)] 33)).alloc (.cells #[.int .u64 0, .int .u64 0, .int .u64 0, .int .u64 0] 33)).alloc (.cells #[.int .u64 0, .int .u64 0, .int .u64 0, .int .u64 0] 33)) = W1 at hB0 hB1 hB2 hbl ⊢
  go_loopg [4] 256 (fun m v wr => ∃ (i N : Nat), i ≤ 256 ∧ m = 256 - i ∧ v = .int .i64 i ∧ Blk wr w.heap.size 33 (setC M) ∧ Blk wr (w.heap.size + 1) 33 (setC 0) ∧ Blk wr (w.heap.size + 1 + 1) 33 (setC N) ∧ Below w.heap.size w wr ∧ (∀ x, N.testBit x = (decide (x < i) && !M.testBit x)))
  case atStart => exact ⟨0, 0, by omega, rfl, rfl, hB0, hB1, hB2, hbl, by simp⟩
  case round =>
    obtain ⟨i, N, hi, hm, rfl, h0, h1, h2, h3, hN⟩ := hrel
    obtain ⟨e0, e1, e2, e3, ef⟩ := h0.facts4
    obtain ⟨f0, f1, f2, f3, ff⟩ := h1.facts4
    obtain ⟨g0, g1, g2, g3, gf⟩ := h2.facts4
    have A := Lib.hid (And.intro hm (And.intro h0 (And.intro h1 (And.intro h2 (And.intro h3 hN)))))
    clear hB0 hB1 hB2 hbl hm h0 h1 h2 h3 hN
    by_cases hlt : i < 256
    · have hlt' : (i : Int) < 256 := by omega
      go_wp2_with fail
      refine (has_any M i hlt _).mono ?_
      rintro e w2 ⟨rfl, hb2⟩
      have h0 := A.out.2.1.below hb2 A.out.2.1.lt
      have h1 := A.out.2.2.1.below hb2 A.out.2.2.1.lt
      have h2 := A.out.2.2.2.1.below hb2 A.out.2.2.2.1.lt
      have h3 := A.out.2.2.2.2.1.trans (hb2.mono A.out.2.2.2.2.1.size)
      clear hb2 e0 e1 e2 e3 ef f0 f1 f2 f3 ff g0 g1 g2 g3 gf
      obtain ⟨g0, g1, g2, g3, gf⟩ := h2.facts4
      have A2 := Lib.hid (And.intro h0 (And.intro h1 (And.intro h2 h3)))
      clear h0 h1 h2 h3
      cases hx : M.testBit i with
      | true =>
        have HX := Lib.hid hx
        clear hx
        go_wp2_with fail
        go_roundg (256 - (i + 1))
        case measure => have := A.out.1; omega
        case rel =>
          refine ⟨i + 1, N, by omega, rfl, rfl, A2.out.1, A2.out.2.1, A2.out.2.2.1, A2.out.2.2.2, ?_⟩
          intro x
          rw [A.out.2.2.2.2.2]
          by_cases h : x = i
          · subst h; simp [HX.out]
          · have : x < i ↔ x < i + 1 := by omega
            simp [this]
      | false =>
        have HX := Lib.hid hx
        clear hx
        go_wp2_with fail
        refine (with_any N i hlt _).mono ?_
        rintro e w3 ⟨rfl, hb3⟩
        have h0 := A2.out.1.below hb3 A2.out.1.lt
        have h1 := A2.out.2.1.below hb3 A2.out.2.1.lt
        have h2 := A2.out.2.2.1.below hb3 A2.out.2.2.1.lt
        have h3 := A2.out.2.2.2.trans (hb3.mono A2.out.2.2.2.size)
        clear hb3 g0 g1 g2 g3 gf
        obtain ⟨g0, g1, g2, g3, gf⟩ := h2.facts4
        have A3 := Lib.hid (And.intro h0 (And.intro h1 (And.intro h2 h3)))
        clear h0 h1 h2 h3
        unfold setV
        go_wp2_with fail
        go_roundg (256 - (i + 1))
        case measure => have := A.out.1; omega
        case rel =>
          refine ⟨i + 1, N ||| 2 ^ i, by omega, rfl, rfl, (((A3.out.1.far (p := ⟨w.heap.size + 1 + 1, 0, none⟩) (by simp; omega) _).far (p := ⟨w.heap.size + 1 + 1, 1, none⟩) (by simp; omega) _).far (p := ⟨w.heap.size + 1 + 1, 2, none⟩) (by simp; omega) _).far (p := ⟨w.heap.size + 1 + 1, 3, none⟩) (by simp; omega) _,
            (((A3.out.2.1.far (p := ⟨w.heap.size + 1 + 1, 0, none⟩) (by simp) _).far (p := ⟨w.heap.size + 1 + 1, 1, none⟩) (by simp) _).far (p := ⟨w.heap.size + 1 + 1, 2, none⟩) (by simp) _).far (p := ⟨w.heap.size + 1 + 1, 3, none⟩) (by simp) _,
            (((A3.out.2.2.1.set_ 0 (.int .u64 (wd (N ||| 2 ^ i) 0))).set_ 1 (.int .u64 (wd (N ||| 2 ^ i) 1))).set_ 2 (.int .u64 (wd (N ||| 2 ^ i) 2))).set_ 3 (.int .u64 (wd (N ||| 2 ^ i) 3)), ?_, ?_⟩
          · refine (((A3.out.2.2.2.setCell ?_ _).setCell ?_ _).setCell ?_ _).setCell ?_ _ <;> (simp; try omega)
          · intro x
            rw [has_bit, A.out.2.2.2.2.2]
            by_cases h : i = x
            · subst h; simp [HX.out]
            · have : x < i ↔ x < i + 1 := by omega
              simp [this, h]
    · obtain rfl : i = 256 := by omega
      have hNn : N = notM M := by
        apply Nat.eq_of_testBit_eq
        intro x
        rw [A.out.2.2.2.2.2]
        by_cases hx : x < 256
        · rw [notM_low M x hx]; simp [hx]
        · rw [notM_big M x hM (by omega)]; simp [hx]
      subst hNn
      have A2 := Lib.hid A.out.2
      clear A
      go_wp2_with fail
      have hbk := (((A2.out.2.1.set_ 0 (.int .u64 (wd (notM M) 0))).set_ 1 (.int .u64 (wd (notM M) 1))).set_ 2 (.int .u64 (wd (notM M) 2))).set_ 3 (.int .u64 (wd (notM M) 3))
      refine bodyPost_ret (results_cell_row (by rfl) _ _ (w.heap.size + 1) 33 _ (0, 0) _ (by rfl) hbk Tryz.underlying33 (by rfl) (by kernel_rfl)) rfl ?_
      refine ⟨rfl, (((A2.out.2.2.2.1.setCell ?_ _).setCell ?_ _).setCell ?_ _).setCell ?_ _⟩ <;> simp
end Go.Proofs.YtacgnbelcpmjfaaGreatDoor.Dx
set_option linter.unusedVariables false
set_option linter.unusedSimpArgs false
namespace Go.Proofs.YtacgnbelcpmjfaaGreatDoor.Dx
open Go.RowKit Go.Proofs Mx
open Go.Lib (byteCells)
set_option maxRecDepth 100000 in
theorem conv_one (W : World) (g : Nat) (x : UInt8) (h : Blk W g 5 #[.int .u8 (x.toNat : Int)]) :
    (convert 56 9 (.slice (some ⟨g, 0, none⟩) 1 1)).run Tryz.prog W = .ok (.string ⟨#[x]⟩) W := by
  have ho : W.ownsRow 0 5 1 (.slice (some ⟨g, 0, none⟩) 1 1) [x].length (byteCells [x]) :=
    ⟨rfl, .inr ⟨g, 1, #[.int .u8 (x.toNat : Int)], rfl, Nat.zero_le _, h, Nat.le_refl 1, by unfold maxLen; omega, rfl, rfl⟩⟩
  exact conv_own (P := Tryz.prog) (src := 56) (dst := 9) (by rfl) (by rfl) (by rfl) ho
theorem str_eq (t : ByteArray) (l : List UInt8) (h : t.data.toList = l) : t = ⟨l.toArray⟩ := by
  apply ByteArray.ext
  apply Array.toList_inj.1
  rw [h]
set_option maxRecDepth 100000 in
set_option maxHeartbeats 2000000 in
theorem rone_any (c : UInt8) (w : World) :
    Calls Tryz.prog 70 #[.int .u8 (c.toNat : Int)] w fun e w' => e = .returned (.string ⟨(oneF c).toArray⟩) ∧ Below w.heap.size w w' := by
  have hc255 := c.toNat_lt
  by_cases h9 : c = 9
  · subst h9
    go_enter Tryz.func70, Tryz.ntmps70
    go_wp2_with fail
    go_ret
    exact ⟨rfl, Below.refl _ _⟩
  have n9 : ((c.toNat : Int) == 9) = false := u8_beq c 9 h9
  by_cases h10 : c = 10
  · subst h10
    go_enter Tryz.func70, Tryz.ntmps70
    go_wp2_with fail
    go_ret
    exact ⟨rfl, Below.refl _ _⟩
  have n10 : ((c.toNat : Int) == 10) = false := u8_beq c 10 h10
  by_cases h13 : c = 13
  · subst h13
    go_enter Tryz.func70, Tryz.ntmps70
    go_wp2_with fail
    go_ret
    exact ⟨rfl, Below.refl _ _⟩
  have n13 : ((c.toNat : Int) == 13) = false := u8_beq c 13 h13
  have hcv := fun n => conv_one _ w.heap.size c ((Blk.new w 5 #[.int .u8 (c.toNat : Int)]).drewN n)
  have hcv0 := hcv 0
  rw [show ∀ W : World, W.drewN 0 = W from fun _ => rfl] at hcv0
  clear hcv
  by_cases h92 : c = 92
  · have HX := Lib.hid (show oneF c = [92, c] by unfold oneF; rw [if_neg h9, if_neg h10, if_neg h13, if_pos (by simp [h92])])
    have y92 : ((c.toNat : Int) == 92) = true := by subst h92; rfl
    clear h92 h9 h10 h13
    go_enter Tryz.func70, Tryz.ntmps70
    go_wp2_with fail
    go_ret
    refine ⟨ret_str ?_, (Below.refl _ w).alloc (Nat.le_refl _) _⟩
    rw [HX.out]
    exact str_eq _ _ (str_app ⟨#[92]⟩ [92] [c] rfl)
  have n92 : ((c.toNat : Int) == 92) = false := u8_beq c 92 h92
  by_cases h91 : c = 91
  · have HX := Lib.hid (show oneF c = [92, c] by unfold oneF; rw [if_neg h9, if_neg h10, if_neg h13, if_pos (by simp [h91])])
    have y91 : ((c.toNat : Int) == 91) = true := by subst h91; rfl
    clear h91 h9 h10 h13
    go_enter Tryz.func70, Tryz.ntmps70
    go_wp2_with fail
    go_ret
    refine ⟨ret_str ?_, (Below.refl _ w).alloc (Nat.le_refl _) _⟩
    rw [HX.out]
    exact str_eq _ _ (str_app ⟨#[92]⟩ [92] [c] rfl)
  have n91 : ((c.toNat : Int) == 91) = false := u8_beq c 91 h91
  by_cases h93 : c = 93
  · have HX := Lib.hid (show oneF c = [92, c] by unfold oneF; rw [if_neg h9, if_neg h10, if_neg h13, if_pos (by simp [h93])])
    have y93 : ((c.toNat : Int) == 93) = true := by subst h93; rfl
    clear h93 h9 h10 h13
    go_enter Tryz.func70, Tryz.ntmps70
    go_wp2_with fail
    go_ret
    refine ⟨ret_str ?_, (Below.refl _ w).alloc (Nat.le_refl _) _⟩
    rw [HX.out]
    exact str_eq _ _ (str_app ⟨#[92]⟩ [92] [c] rfl)
  have n93 : ((c.toNat : Int) == 93) = false := u8_beq c 93 h93
  by_cases h45 : c = 45
  · have HX := Lib.hid (show oneF c = [92, c] by unfold oneF; rw [if_neg h9, if_neg h10, if_neg h13, if_pos (by simp [h45])])
    have y45 : ((c.toNat : Int) == 45) = true := by subst h45; rfl
    clear h45 h9 h10 h13
    go_enter Tryz.func70, Tryz.ntmps70
    go_wp2_with fail
    go_ret
    refine ⟨ret_str ?_, (Below.refl _ w).alloc (Nat.le_refl _) _⟩
    rw [HX.out]
    exact str_eq _ _ (str_app ⟨#[92]⟩ [92] [c] rfl)
  have n45 : ((c.toNat : Int) == 45) = false := u8_beq c 45 h45
  by_cases h94 : c = 94
  · have HX := Lib.hid (show oneF c = [92, c] by unfold oneF; rw [if_neg h9, if_neg h10, if_neg h13, if_pos (by simp [h94])])
    have y94 : ((c.toNat : Int) == 94) = true := by subst h94; rfl
    clear h94 h9 h10 h13
    go_enter Tryz.func70, Tryz.ntmps70
    go_wp2_with fail
    go_ret
    refine ⟨ret_str ?_, (Below.refl _ w).alloc (Nat.le_refl _) _⟩
    rw [HX.out]
    exact str_eq _ _ (str_app ⟨#[92]⟩ [92] [c] rfl)
  have n94 : ((c.toNat : Int) == 94) = false := u8_beq c 94 h94
  by_cases hp : 32 < c.toNat ∧ c.toNat < 127
  · have HX := Lib.hid (show oneF c = [c] by unfold oneF; rw [if_neg h9, if_neg h10, if_neg h13, if_neg (by simp [h92, h91, h93, h45, h94]), if_pos hp])
    have p1 : (32 : Int) < (c.toNat : Int) := by omega
    have p2 : (c.toNat : Int) < 127 := by omega
    clear h9 h10 h13 h92 h91 h93 h45 h94 hp
    go_enter Tryz.func70, Tryz.ntmps70
    go_wp2_with fail
    go_ret
    refine ⟨ret_str ?_, (Below.refl _ w).alloc (Nat.le_refl _) _⟩
    rw [HX.out]
  · have HX := Lib.hid (show oneF c = [92, 120, hexd (c.toNat / 16), hexd (c.toNat % 16)] by unfold oneF; rw [if_neg h9, if_neg h10, if_neg h13, if_neg (by simp [h92, h91, h93, h45, h94]), if_neg hp])
    have hpp : (¬ (32 : Int) < (c.toNat : Int)) ∨ ((32 : Int) < (c.toNat : Int) ∧ ¬ (c.toNat : Int) < 127) := by omega
    obtain ⟨hq0, hq1, hq2⟩ := hexx c
    have hq3 := hexx1 c
    have hq4 := hexx2 c
    have hq5 := hexx3 c
    clear h9 h10 h13 h92 h91 h93 h45 h94 hp hcv0
    have hcv := fun n => conv_two _ w.heap.size (hexd (c.toNat / 16)) (hexd (c.toNat % 16)) ((Blk.new w 5 #[.int .u8 ((hexd (c.toNat / 16)).toNat : Int), .int .u8 ((hexd (c.toNat % 16)).toNat : Int)]).drewN n)
    have hcv0 := hcv 0
    have hcv1 := hcv 1
    rw [show ∀ W : World, W.drewN 0 = W from fun _ => rfl] at hcv0
    rw [show ∀ W : World, W.drewN 1 = W.drew from fun _ => rfl] at hcv1
    clear hcv
    rcases hpp with p1 | ⟨p1, p2⟩
    all_goals
      go_enter Tryz.func70, Tryz.ntmps70
      go_wp2_with fail
      go_region
      all_goals
        go_wp2_with fail
        go_ret
        refine ⟨ret_str ?_, ((Below.refl _ w).alloc (Nat.le_refl _) _).drew⟩
        rw [HX.out]
        exact str_eq _ _ (str_app ⟨#[92, 120]⟩ [92, 120] [hexd (c.toNat / 16), hexd (c.toNat % 16)] rfl)
end Go.Proofs.YtacgnbelcpmjfaaGreatDoor.Dx
set_option linter.unusedVariables false
set_option linter.unusedSimpArgs false
namespace Go.Proofs.YtacgnbelcpmjfaaGreatDoor.Dx
open Go.RowKit Go.Proofs Mx
/-- What the document's Byte answers: the byte, the place behind it. -/
def byteR (s : ByteArray) (k : Nat) : Int × Int := match takeF (s.data.toList.drop k) with
  | some (b, n) => ((b.toNat : Int), ((k + n : Nat) : Int))
  | none => (-1, (k : Int))
theorem byteR_some {s : ByteArray} {k n : Nat} {b : UInt8} (h : takeF (s.data.toList.drop k) = some (b, n)) : byteR s k = ((b.toNat : Int), ((k + n : Nat) : Int)) := by rw [byteR, h]
theorem byteR_none {s : ByteArray} {k : Nat} (h : takeF (s.data.toList.drop k) = none) : byteR s k = (-1, (k : Int)) := by rw [byteR, h]
theorem ext_list (s : ByteArray) (k n : Nat) (h : k + n ≤ s.size) : (s.extract k (k + n)).data.toList = (s.data.toList.drop k).take n := by
  rw [Lib.extract_data]; simp
theorem rhex2_eq (b : UInt8) (x : Int) (h : hexI b = x) (w : World) :
    Calls Tryz.prog 75 #[.int .u8 (b.toNat : Int)] w fun e w' => e = .returned (.int .i64 x) ∧ w = w' := h ▸ rhex2_any b w
set_option maxRecDepth 100000 in
set_option maxHeartbeats 2000000 in
theorem rbyte_any (s : ByteArray) (k : Nat) (hs : s.size ≤ 4000000000) (hk : k ≤ s.size) (w : World) :
    Calls Tryz.prog 60 #[.string s, .int .i64 (k : Int)] w fun e w' => e = .returned (.tuple #[.int .i64 (byteR s k).1, .int .i64 (byteR s k).2]) ∧ Below w.heap.size w w' := by
  go_enter Tryz.func60, Tryz.ntmps60
  go_wp2_with fail
  go_loopg [6] 256 (fun m v wr => ∃ i : Nat, i ≤ 256 ∧ m = 256 - i ∧ v = .int .i64 i ∧ Below w.heap.size w wr ∧ (∀ b : UInt8, b.toNat < i → ¬ oneF b <+: s.data.toList.drop k))
  case atStart => exact ⟨0, by omega, rfl, rfl, Below.refl _ _, fun b hb => absurd hb (by omega)⟩
  case round =>
    obtain ⟨i, hi, hm, rfl, hb, hall⟩ := hrel
    have A := Lib.hid (And.intro hm (And.intro hb hall))
    clear hm hb hall
    by_cases hlt : i < 256
    · have hlt' : (i : Int) < 256 := by omega
      obtain ⟨c, hc⟩ : ∃ c : UInt8, c.toNat = i := ⟨UInt8.ofNat i, by simp; omega⟩
      have hwr : IntKind.u8.wrap (i : Int) = (c.toNat : Int) := by rw [IntKind.wrap_u8, hc]; omega
      have hone := rone_any c
      obtain ⟨T, hT⟩ : ∃ T : ByteArray, ⟨(oneF c).toArray⟩ = T := ⟨_, rfl⟩
      rw [hT] at hone
      have hTl : T.data.toList = oneF c := by rw [← hT]
      have hTs : T.size = (oneF c).length := by rw [Lib.size_eq, hTl]
      have HT := Lib.hid (And.intro hTl hTs)
      have HC := Lib.hid hc
      clear hT hTl hTs hc
      go_wp2_with fail
      refine (hone _).mono ?_
      rintro e w2 ⟨rfl, hb2⟩
      have H2 := Lib.hid (A.out.2.1.trans (hb2.mono A.out.2.1.size))
      clear hb2 hone
      by_cases hsz : k + T.size ≤ s.size
      · have hsz' : (T.size : Int) ≤ (s.size : Int) - (k : Int) := by omega
        have g1 : (0 : Int) ≤ (k : Int) := by omega
        have g2 : (k : Int) ≤ (k : Int) + (T.size : Int) := by omega
        have g3 : (k : Int) + (T.size : Int) ≤ (s.size : Int) := by omega
        by_cases he : (s.extract k (k + T.size)).toList = T.toList
        · have hTn : (T.toList == [92]) = false := by
            apply beq_false_of_ne
            rw [Lib.toList_data, HT.out.1]
            show oneF c ≠ [92]
            rcases oneF_cases c with ⟨d, h, _⟩ | ⟨h, _, _, h3⟩ | h
            · rw [h]; simp
            · rw [h]; intro e; injection e with e _; subst e; revert h3; decide
            · rw [h]; simp
          have HP := Lib.hid (show takeF (s.data.toList.drop k) = some (c, T.size) by
            rw [Lib.extract_toList, Lib.toList_data, show k + T.size - k = T.size by omega, HT.out.1] at he
            rw [HT.out.2]
            exact take_pre _ _ ⟨(s.data.toList.drop k).drop T.size, by rw [← he, List.take_append_drop]⟩)
          go_wp2_with fail
          go_ret2
          have hc := HC.out
          rw [byteR_some HP.out]
          refine ⟨?_, H2.out⟩
          rw [hc]; rfl
        · have he' : ((s.extract k (k + T.size)).toList == T.toList) = false := beq_false_of_ne he
          have HE := Lib.hid he
          clear he
          go_wp2_with fail
          go_roundg (256 - (i + 1))
          case measure => have := A.out.1; omega
          case rel =>
            refine ⟨i + 1, by omega, by omega, rfl, H2.out, ?_⟩
            intro b hb hp
            by_cases hbi : b = c
            · subst hbi
              apply HE.out
              rw [Lib.extract_toList, Lib.toList_data, show k + T.size - k = T.size by omega, HT.out.1, HT.out.2]
              exact (List.prefix_iff_eq_take.1 hp).symm
            · exact A.out.2.2 b (by have := HC.out; have : b.toNat ≠ c.toNat := fun e => hbi (UInt8.toNat_inj.1 e); omega) hp
      · have hsz' : ¬ (T.size : Int) ≤ (s.size : Int) - (k : Int) := by omega
        go_wp2_with fail
        go_roundg (256 - (i + 1))
        case measure => have := A.out.1; omega
        case rel =>
          refine ⟨i + 1, by omega, by omega, rfl, H2.out, ?_⟩
          intro b hb hp
          by_cases hbi : b = c
          · subst hbi
            have := hp.length_le
            rw [← HT.out.2, List.length_drop, ← Lib.size_eq] at this
            omega
          · exact A.out.2.2 b (by have := HC.out; have : b.toNat ≠ c.toNat := fun e => hbi (UInt8.toNat_inj.1 e); omega) hp
    · obtain rfl : i = 256 := by omega
      have hrest : takeF (s.data.toList.drop k) = restH (s.data.toList.drop k) := take_rest _ (fun b => A.out.2.2 b b.toNat_lt)
      have HR := Lib.hid hrest
      have HB := Lib.hid A.out.2.1
      clear A hrest
      have g0 : (0 : Int) ≤ (k : Int) := by omega
      by_cases hlt : k < s.size
      · have hlt' : (k : Int) < (s.size : Int) := by omega
        obtain ⟨c, hc⟩ : ∃ c, s[k] = c := ⟨_, rfl⟩
        have HD := Lib.hid (show s.data.toList.drop k = c :: s.data.toList.drop (k + 1) by rw [drop_cons s k hlt, hc])
        by_cases h32 : c = 32
        · subst h32
          have HP := Lib.hid (show takeF (s.data.toList.drop k) = some (32, 1) by rw [HR.out, HD.out]; rfl)
          go_wp2_with fail
          go_ret2
          rw [byteR_some HP.out]
          exact ⟨rfl, HB.out⟩
        have h32' : ((c.toNat : Int) == 32) = false := u8_beq c 32 h32
        by_cases h4 : k + 4 ≤ s.size
        · have h4' : (4 : Int) ≤ (s.size : Int) - (k : Int) := by omega
          have q1 : (k : Int) + 1 < (s.size : Int) := by omega
          have q2 : (k : Int) + 2 < (s.size : Int) := by omega
          have q3 : (k : Int) + 3 < (s.size : Int) := by omega
          have r2 : (0 : Int) ≤ (k : Int) + 2 := by omega
          have r3 : (0 : Int) ≤ (k : Int) + 3 := by omega
          have l1 : k + 1 < s.size := by omega
          have l2 : k + 2 < s.size := by omega
          have l3 : k + 3 < s.size := by omega
          obtain ⟨d, hd⟩ : ∃ d, s[k + 1] = d := ⟨_, rfl⟩
          obtain ⟨a, ha⟩ : ∃ a, s[k + 2] = a := ⟨_, rfl⟩
          obtain ⟨b, hb⟩ : ∃ b, s[k + 3] = b := ⟨_, rfl⟩
          have HD2 := Lib.hid (show s.data.toList.drop k = c :: d :: a :: b :: s.data.toList.drop (k + 4) by
            rw [HD.out, drop_cons s (k + 1) l1, drop_cons s (k + 1 + 1) l2, drop_cons s (k + 1 + 1 + 1) l3, hd, ha, hb])
          by_cases h92 : c = 92
          · subst h92
            by_cases h120 : d = 120
            · subst h120
              have HT := Lib.hid (show takeF (s.data.toList.drop k) = if 0 ≤ hexI a ∧ 0 ≤ hexI b then some (UInt8.ofNat (16 * hexI a + hexI b).toNat, 4) else none by rw [HR.out, HD2.out]; rfl)
              have ba := hexI_le a
              have bb := hexI_le b
              obtain ⟨x, hx⟩ : ∃ x, hexI a = x := ⟨_, rfl⟩
              obtain ⟨y, hy⟩ : ∃ y, hexI b = y := ⟨_, rfl⟩
              rw [hx] at HT ba
              rw [hy] at HT bb
              obtain ⟨ba1, ba2⟩ := ba
              obtain ⟨bb1, bb2⟩ := bb
              clear h32 h32'
              by_cases x0 : 0 ≤ x
              · by_cases y0 : 0 ≤ y
                · have HU := Lib.hid (show takeF (s.data.toList.drop k) = some (UInt8.ofNat (16 * x + y).toNat, 4) by rw [HT.out, if_pos ⟨x0, y0⟩])
                  go_wp2_with fail
                  go_quiet ((first | (go_at_call 75; refine (rhex2_eq _ _ (by assumption) _).mono ?_; rintro e w' ⟨rfl, rfl⟩; exact ⟨rfl, _, rfl⟩)))
                  go_wp2_with fail
                  go_ret2
                  rw [byteR_some HU.out]
                  refine ⟨?_, below_drewN HB.out _⟩
                  congr 4
                  simp; omega
                · have HU := Lib.hid (show takeF (s.data.toList.drop k) = none by rw [HT.out, if_neg (fun h => y0 h.2)])
                  go_wp2_with fail
                  go_quiet ((first | (go_at_call 75; refine (rhex2_eq _ _ (by assumption) _).mono ?_; rintro e w' ⟨rfl, rfl⟩; exact ⟨rfl, _, rfl⟩)))
                  go_wp2_with fail
                  go_ret2
                  rw [byteR_none HU.out]
                  exact ⟨rfl, below_drewN HB.out _⟩
              · have HU := Lib.hid (show takeF (s.data.toList.drop k) = none by rw [HT.out, if_neg (fun h => x0 h.1)])
                go_wp2_with fail
                go_quiet ((first | (go_at_call 75; refine (rhex2_eq _ _ (by assumption) _).mono ?_; rintro e w' ⟨rfl, rfl⟩; exact ⟨rfl, _, rfl⟩)))
                go_wp2_with fail
                go_ret2
                rw [byteR_none HU.out]
                exact ⟨rfl, below_drewN HB.out _⟩
            · have h120' : ((d.toNat : Int) == 120) = false := u8_beq d 120 h120
              have HU := Lib.hid (show takeF (s.data.toList.drop k) = none by rw [HR.out, HD2.out, restH_2 d _ h120])
              go_wp2_with fail
              go_ret2
              rw [byteR_none HU.out]
              exact ⟨rfl, HB.out⟩
          · have h92' : ((c.toNat : Int) == 92) = false := u8_beq c 92 h92
            have HU := Lib.hid (show takeF (s.data.toList.drop k) = none by rw [HR.out, HD2.out, restH_1 c _ h32 h92])
            go_wp2_with fail
            go_ret2
            rw [byteR_none HU.out]
            exact ⟨rfl, HB.out⟩
        · have h4' : ¬ (4 : Int) ≤ (s.size : Int) - (k : Int) := by omega
          have HU := Lib.hid (show takeF (s.data.toList.drop k) = none by
            rw [HR.out, HD.out]
            by_cases h92 : c = 92
            · subst h92
              by_cases hl1 : k + 1 < s.size
              · rw [drop_cons s (k + 1) hl1]
                by_cases hx : s[k + 1] = 120
                · rw [hx, restH_x, takeH_short]
                  rw [List.length_drop, ← Lib.size_eq]; omega
                · rw [restH_2 _ _ hx]
              · rw [drop_all s (k + 1) (by omega)]; rfl
            · exact restH_1 c _ h32 h92)
          go_wp2_with fail
          go_ret2
          rw [byteR_none HU.out]
          exact ⟨rfl, HB.out⟩
      · have hlt' : ¬ (k : Int) < (s.size : Int) := by omega
        have h4' : ¬ (4 : Int) ≤ (s.size : Int) - (k : Int) := by omega
        have HU := Lib.hid (show takeF (s.data.toList.drop k) = none by rw [HR.out, drop_all s k (by omega)]; rfl)
        go_wp2_with fail
        go_ret2
        rw [byteR_none HU.out]
        exact ⟨rfl, HB.out⟩
end Go.Proofs.YtacgnbelcpmjfaaGreatDoor.Dx
