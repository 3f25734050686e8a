/-
  WALKS: sets.one.
-/
import Derived.Test.YtacgnbelcpmjfaaGreatDoorCountA
import Derived.Test.YtacgnbelcpmjfaaGreatDoorLaws
set_option linter.unusedVariables false
set_option linter.unusedSimpArgs false
namespace Go.Proofs.YtacgnbelcpmjfaaGreatDoor.Dx
open Go.RowKit Go.Proofs Mx

theorem enc_one (b : UInt8) (h : b.toNat < 128) : Utf8.encode (b.toNat : Int) = ⟨#[b]⟩ := by
  have h1 : (Utf8.encode (b.toNat : Int)).data.toList = [b] := by
    revert h
    exact all_bytes (p := fun b => b.toNat < 128 → (Utf8.encode (b.toNat : Int)).data.toList = [b]) (by decide +kernel) b
  have h2 : ((⟨#[b]⟩ : ByteArray)).data.toList = [b] := rfl
  generalize Utf8.encode (b.toNat : Int) = x at h1 ⊢
  cases x with
  | mk d => cases d with
    | mk l => simp at h1; rw [h1]
theorem cat_hex (p q : Nat) (hp : p < 16) (hq : q < 16) :
    ((⟨#[92, 120]⟩ : ByteArray) ++ (⟨#[48, 49, 50, 51, 52, 53, 54, 55, 56, 57, 97, 98, 99, 100, 101, 102]⟩ : ByteArray).extract p (p + 1) ++ (⟨#[48, 49, 50, 51, 52, 53, 54, 55, 56, 57, 97, 98, 99, 100, 101, 102]⟩ : ByteArray).extract q (q + 1)) = ⟨#[92, 120, hexd p, hexd q]⟩ := by
  have h : (List.range 16).all (fun p => (List.range 16).all (fun q => decide (((⟨#[92, 120]⟩ : ByteArray) ++ (⟨#[48, 49, 50, 51, 52, 53, 54, 55, 56, 57, 97, 98, 99, 100, 101, 102]⟩ : ByteArray).extract p (p + 1) ++ (⟨#[48, 49, 50, 51, 52, 53, 54, 55, 56, 57, 97, 98, 99, 100, 101, 102]⟩ : ByteArray).extract q (q + 1)).data.toList = [92, 120, hexd p, hexd q]))) = true := by decide +kernel
  have h1 : _ = [92, 120, hexd p, hexd q] := of_decide_eq_true (List.all_eq_true.1 (List.all_eq_true.1 h p (by simp; omega)) q (by simp; omega))
  generalize ((⟨#[92, 120]⟩ : ByteArray) ++ (⟨#[48, 49, 50, 51, 52, 53, 54, 55, 56, 57, 97, 98, 99, 100, 101, 102]⟩ : ByteArray).extract p (p + 1) ++ (⟨#[48, 49, 50, 51, 52, 53, 54, 55, 56, 57, 97, 98, 99, 100, 101, 102]⟩ : ByteArray).extract q (q + 1)) = x at h1 ⊢
  cases x with
  | mk d => cases d with
    | mk l => simp at h1; rw [h1]
set_option maxRecDepth 100000 in
theorem one_at (b : UInt8) (k : Nat) (hm : Lib.indexByte [9, 10, 13, 92, 91, 93, 45, 94] b = (k : Int)) (hk : k < 8) (w : World) :
    Calls Tryz.prog 54 #[.int .u8 (b.toNat : Int)] w fun e w' => e = .returned (.string ((⟨#[92]⟩ : ByteArray) ++ (⟨#[116, 110, 114, 92, 91, 93, 45, 94]⟩ : ByteArray).extract k (k + 1))) ∧ ∃ n, w' = w.drewN n := by
  have hi := Tryz.strings_IndexByte ⟨#[9, 10, 13, 92, 91, 93, 45, 94]⟩ (b.toNat : Int)
  rw [tu, show (⟨#[9, 10, 13, 92, 91, 93, 45, 94]⟩ : ByteArray).data.toList = [9, 10, 13, 92, 91, 93, 45, 94] from rfl, hm] at hi
  have HI := Lib.hid hi
  have hk0 : (0 : Int) ≤ (k : Int) := by omega
  have hk1 : (k : Int) ≤ 7 := by omega
  clear hi hm
  go_enter Tryz.func54, Tryz.ntmps54
  go_wp2_with (go_at_call 50; refine (HI.out _).mono ?_; rintro e w' ⟨rfl, rfl⟩)
  go_ret
  exact ⟨rfl, 0, rfl⟩
theorem one_marked (b : UInt8) (hm : markedL.contains b = true) (w : World) :
    Calls Tryz.prog 54 #[.int .u8 (b.toNat : Int)] w fun e w' => e = .returned (.string ⟨(oneF b).toArray⟩) ∧ ∃ n, w' = w.drewN n := by
  have hc : b = 9 ∨ b = 10 ∨ b = 13 ∨ b = 92 ∨ b = 91 ∨ b = 93 ∨ b = 45 ∨ b = 94 := by simpa [markedL] using hm
  rcases hc with rfl | rfl | rfl | rfl | rfl | rfl | rfl | rfl
  · exact one_at 9 0 rfl (by decide) w
  · exact one_at 10 1 rfl (by decide) w
  · exact one_at 13 2 rfl (by decide) w
  · exact one_at 92 3 rfl (by decide) w
  · exact one_at 91 4 rfl (by decide) w
  · exact one_at 93 5 rfl (by decide) w
  · exact one_at 45 6 rfl (by decide) w
  · exact one_at 94 7 rfl (by decide) w
set_option maxRecDepth 100000 in
theorem one_plain (b : UInt8) (hm : Lib.indexByte [9, 10, 13, 92, 91, 93, 45, 94] b = -1) (h1 : 32 < (b.toNat : Int)) (h2 : (b.toNat : Int) < 127) (w : World) :
    Calls Tryz.prog 54 #[.int .u8 (b.toNat : Int)] w fun e w' => e = .returned (.string ⟨#[b]⟩) ∧ ∃ n, w' = w.drewN n := by
  have hi := Tryz.strings_IndexByte ⟨#[9, 10, 13, 92, 91, 93, 45, 94]⟩ (b.toNat : Int)
  rw [tu, show (⟨#[9, 10, 13, 92, 91, 93, 45, 94]⟩ : ByteArray).data.toList = [9, 10, 13, 92, 91, 93, 45, 94] from rfl, hm] at hi
  have HI := Lib.hid hi
  clear hi hm
  go_enter Tryz.func54, Tryz.ntmps54
  go_wp2_with (go_at_call 50; refine (HI.out _).mono ?_; rintro e w' ⟨rfl, rfl⟩)
  go_ret
  refine ⟨ret_str ?_, 0, rfl⟩
  exact enc_one b (by omega)
set_option maxRecDepth 100000 in
set_option maxHeartbeats 1000000 in
theorem one_hex (b : UInt8) (hm : Lib.indexByte [9, 10, 13, 92, 91, 93, 45, 94] b = -1) (h : ¬ (32 < b.toNat ∧ b.toNat < 127)) (w : World) :
    Calls Tryz.prog 54 #[.int .u8 (b.toNat : Int)] w fun e w' => e = .returned (.string ⟨#[92, 120, hexd (b.toNat / 16), hexd (b.toNat % 16)]⟩) ∧ ∃ n, w' = w.drewN n := by
  have hi := Tryz.strings_IndexByte ⟨#[9, 10, 13, 92, 91, 93, 45, 94]⟩ (b.toNat : Int)
  rw [tu, show (⟨#[9, 10, 13, 92, 91, 93, 45, 94]⟩ : ByteArray).data.toList = [9, 10, 13, 92, 91, 93, 45, 94] from rfl, hm] at hi
  have HI := Lib.hid hi
  have hb := b.toNat_lt
  clear hi hm
  have h' : (b.toNat : Int) ≤ 32 ∨ (32 < (b.toNat : Int) ∧ 127 ≤ (b.toNat : Int)) := by omega
  clear h
  rcases h' with h' | ⟨h1, h2⟩
  all_goals
    go_enter Tryz.func54, Tryz.ntmps54
    go_wp2_with (go_at_call 50; refine (HI.out _).mono ?_; rintro e w' ⟨rfl, rfl⟩)
    go_quiet (fail)
    go_wp2_with fail
    go_ret
    exact ⟨ret_str (cat_hex _ _ (by omega) (by omega)), _, rfl⟩
theorem one_any (b : UInt8) (w : World) :
    Calls Tryz.prog 54 #[.int .u8 (b.toNat : Int)] w fun e w' => e = .returned (.string ⟨(oneF b).toArray⟩) ∧ ∃ n, w' = w.drewN n := by
  by_cases hm : markedL.contains b = true
  · exact one_marked b hm w
  · have hm' : markedL.contains b = false := by simpa using hm
    have hix : Lib.indexByte [9, 10, 13, 92, 91, 93, 45, 94] b = -1 := by
      revert hm'
      exact all_bytes (p := fun b => markedL.contains b = false → Lib.indexByte [9, 10, 13, 92, 91, 93, 45, 94] b = -1) (by decide +kernel) b
    have hof : oneF b = if 32 < b.toNat ∧ b.toNat < 127 then [b] else [92, 120, hexd (b.toNat / 16), hexd (b.toNat % 16)] := by
      simp [markedL] at hm'
      unfold oneF
      rw [if_neg hm'.1, if_neg hm'.2.1, if_neg hm'.2.2.1, if_neg (by simp; exact hm'.2.2.2)]
    by_cases h : 32 < b.toNat ∧ b.toNat < 127
    · rw [hof, if_pos h]
      exact one_plain b hix (by omega) (by omega) w
    · rw [hof, if_neg h]
      exact one_hex b hix h w
end Go.Proofs.YtacgnbelcpmjfaaGreatDoor.Dx
