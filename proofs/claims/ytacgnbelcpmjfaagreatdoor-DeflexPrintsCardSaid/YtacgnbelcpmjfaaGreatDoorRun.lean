/-
  WALKS of the reader: run.
-/
import Derived.Test.YtacgnbelcpmjfaaGreatDoorLeaf
set_option linter.unusedVariables false
set_option linter.unusedSimpArgs false
namespace Go.Proofs.YtacgnbelcpmjfaaGreatDoor.Dx
open Go.RowKit Go.Proofs Mx

def wordB (b : UInt8) : Bool := letterB (b.toNat : Int) || digitB (b.toNat : Int)
/-- The reader's block: its text, and where it stands. -/
theorem word_class (b : UInt8) : wordB b = true ↔ (classI (b.toNat : Int) = 1 ∨ classI (b.toNat : Int) = 2) := by
  have := classI_cases (b.toNat : Int) _ (sign_index b) sign_range
  rw [wordB, Bool.or_eq_true, letterB_true, digitB_true]
  omega
def tw (s : ByteArray) (i : Nat) : Nat := ((s.data.toList.drop i).takeWhile wordB).length
theorem tw_lt (s : ByteArray) (i : Nat) (h : i < s.size) : tw s i = if wordB s[i] then tw s (i + 1) + 1 else 0 := by
  have hl : i < s.data.toList.length := by rw [Array.length_toList]; exact h
  rw [tw, List.drop_eq_getElem_cons hl, List.takeWhile_cons]
  have e : s.data.toList[i] = s[i] := by rw [Array.getElem_toList]; rfl
  rw [e]
  by_cases hw : wordB s[i] = true
  · rw [if_pos hw, if_pos hw]; rfl
  · rw [if_neg hw, if_neg hw]; rfl
theorem tw_end (s : ByteArray) : tw s s.size = 0 := by
  have : s.data.toList.length ≤ s.size := by rw [Array.length_toList]; exact Nat.le_refl _
  rw [tw, List.drop_eq_nil_of_le this]; rfl
abbrev Rd (w : World) (g : Nat) (s : ByteArray) (k : Nat) : Prop := Blk w g 74 #[.string s, .int .i64 (k : Int)]
theorem Rd.at_ {w : World} {g : Nat} {s : ByteArray} {i : Nat} (h : Rd w g s i) {v : Int} {j : Nat} (hv : v = (j : Int)) : Rd (w.setCell ⟨g, 1, none⟩ (.int .i64 v)) g s j := by
  subst hv
  exact h.set_ 1 _
theorem class_q (b : UInt8) (w : World) : Calls Tryz.prog 37 #[.int .u8 (b.toNat : Int)] w fun e w' => e = .returned (.int .i64 (classI (b.toNat : Int))) ∧ w = w' := classOf_any b w

set_option maxRecDepth 100000 in
set_option maxHeartbeats 1000000 in
theorem run_any (g : Nat) (s : ByteArray) (k : Nat) (w : World) (hs : s.size ≤ 4000000000) (hk : k ≤ s.size) (hR : Rd w g s k) :
    Calls Tryz.prog 38 #[.pointer (some ⟨g, 0, none⟩)] w fun e w' => e = .returned (.string (s.extract k (k + tw s k))) ∧ Rd w' g s (k + tw s k) ∧ w.grownBy w' (some g) := by
  obtain ⟨c0, c1, cf⟩ := hR.facts2
  go_enter Tryz.func38, Tryz.ntmps38
  go_wp2
  go_loopg [] (s.size - k) (fun m wr => ∃ i, i ≤ s.size ∧ m = s.size - i ∧ k ≤ i ∧ k + tw s k = i + tw s i ∧ Rd wr g s i ∧ w.grownBy wr (some g))
  case atStart => exact ⟨k, hk, rfl, Nat.le_refl _, rfl, hR, grown_refl _ _⟩
  case round =>
    obtain ⟨i, hi, hm, hki, htw, hRi, hg⟩ := hrel
    have A := Lib.hid (And.intro hm (And.intro htw hg))
    clear hm htw hg hR c0 c1 cf
    obtain ⟨c0, c1, cf⟩ := hRi.facts2
    by_cases hlt : i < s.size
    · have htl := Lib.hid (tw_lt s i hlt)
      obtain ⟨b, hb⟩ : ∃ b, s[i] = b := ⟨_, rfl⟩
      have hi0 : (0 : Int) ≤ (i : Int) := by omega
      have his : (i : Int) < (s.size : Int) := by omega
      by_cases h1 : classI (b.toNat : Int) = 1
      · have hc1 : (classI (b.toNat : Int) == 1) = true := by rw [h1]; rfl
        have HW := Lib.hid (Or.inl (b := classI (b.toNat : Int) = 2) h1)
        clear h1
        go_wp2_with fail
        go_quiet ((first | (go_at_call 37; refine (class_q b _).mono ?_; rintro e w' ⟨rfl, rfl⟩; exact ⟨rfl, _, rfl⟩)))
        go_wp2
        go_roundg (s.size - (i + 1))
        case measure => have := A.out.1; omega
        case rel =>
          have hw : wordB b = true := (word_class b).2 HW.out
          have ht := htl.out
          rw [hb, if_pos hw] at ht
          exact ⟨i + 1, by omega, rfl, by omega, by have := A.out.2.1; omega, Rd.at_ (hRi.drewN _) (by omega), grown_set (grown_drewN A.out.2.2 _) rfl _⟩
      have hc1 : (classI (b.toNat : Int) == 1) = false := by simpa using h1
      by_cases h2 : classI (b.toNat : Int) = 2
      · have hc2 : (classI (b.toNat : Int) == 2) = true := by rw [h2]; rfl
        have HW := Lib.hid (Or.inr (a := classI (b.toNat : Int) = 1) h2)
        clear h1 h2
        go_wp2_with fail
        go_quiet ((first | (go_at_call 37; refine (class_q b _).mono ?_; rintro e w' ⟨rfl, rfl⟩; exact ⟨rfl, _, rfl⟩)))
        go_wp2
        go_roundg (s.size - (i + 1))
        case measure => have := A.out.1; omega
        case rel =>
          have hw : wordB b = true := (word_class b).2 HW.out
          have ht := htl.out
          rw [hb, if_pos hw] at ht
          exact ⟨i + 1, by omega, rfl, by omega, by have := A.out.2.1; omega, Rd.at_ (hRi.drewN _) (by omega), grown_set (grown_drewN A.out.2.2 _) rfl _⟩
      · have hc2 : (classI (b.toNat : Int) == 2) = false := by simpa using h2
        have hw : ¬ wordB b = true := fun e => ((word_class b).1 e).elim h1 h2
        have ht := htl.out
        rw [hb, if_neg hw] at ht
        have hfin : k + tw s k = i := by have := A.out.2.1; omega
        have HF := Lib.hid hfin
        have hki' : (k : Int) ≤ (i : Int) := by omega
        clear h1 h2 hw ht hfin
        go_wp2_with fail
        go_quiet ((first | (go_at_call 37; refine (class_q b _).mono ?_; rintro e w' ⟨rfl, rfl⟩; exact ⟨rfl, _, rfl⟩)))
        go_wp2
        go_quiet (fail)
        go_wp2
        go_ret
        rw [HF.out]
        exact ⟨rfl, (hRi.drewN _).drewN _, grown_drewN (grown_drewN A.out.2.2 _) _⟩
    · obtain rfl : i = s.size := by omega
      have hfin : k + tw s k = s.size := by have := A.out.2.1; rw [tw_end] at this; omega
      have HF := Lib.hid hfin
      have hki' : (k : Int) ≤ (s.size : Int) := by omega
      have hd : decide ((s.size : Int) < (s.size : Int)) = false := by simp
      clear hfin
      go_wp2_with fail
      go_quiet (fail)
      go_wp2
      go_quiet (fail)
      go_wp2
      go_ret
      rw [HF.out]
      exact ⟨rfl, (hRi.drewN _).drewN _, grown_drewN (grown_drewN A.out.2.2 _) _⟩
end Go.Proofs.YtacgnbelcpmjfaaGreatDoor.Dx
