/-
  WALKS: two digits to the base 16, by strconv.ParseUint.
-/
import Derived.Test.YtacgnbelcpmjfaaGreatDoorLeaf
import Derived.Lib.ConvBytes
import Derived.Lib.ParseIntBMem
import Derived.Laws.Strings3
import Derived.Laws.Closers25
import Derived.Laws.Closers25b
import Derived.BigCall
import Derived.BigGuard
set_option linter.unusedVariables false
set_option linter.unusedSimpArgs false
namespace Go.Proofs.YtacgnbelcpmjfaaGreatDoor.Dx
open Go.RowKit Go.Proofs Mx

/-- What a digit to the base 16 is worth; below 0: it is none. -/
def hexI (b : UInt8) : Int :=
  if 48 ≤ b.toNat ∧ b.toNat ≤ 57 then (b.toNat : Int) - 48
  else if 97 ≤ b.toNat ∧ b.toNat ≤ 102 then (b.toNat : Int) - 87
  else if 65 ≤ b.toNat ∧ b.toNat ≤ 70 then (b.toNat : Int) - 55
  else -1
theorem hexI_le (b : UInt8) : -1 ≤ hexI b ∧ hexI b ≤ 15 := by
  unfold hexI; repeat' split
  all_goals omega
def pu : Int → List UInt8 → Option Int
  | a, [] => some a
  | a, c :: t => if hexI c < 0 then none else pu (16 * a + hexI c) t
def puV (ε : TypeId) : Option Int → Value
  | some a => .tuple #[.int .u64 a, .nilIface]
  | none => .tuple #[.int .u64 0, .iface ε (.int .i64 2)]
/-- A byte with its bit 32 set. -/
def lowI (b : UInt8) : Int := bits .or .u8 (b.toNat : Int) 32
theorem low_cases (b : UInt8) : (48 ≤ b.toNat ∧ b.toNat ≤ 57 ∧ hexI b = (b.toNat : Int) - 48) ∨
    (¬ (48 ≤ b.toNat ∧ b.toNat ≤ 57) ∧ b.toNat ≠ 95 ∧ 97 ≤ lowI b ∧ lowI b ≤ 102 ∧ hexI b = lowI b - 87 ∧ 0 ≤ hexI b) ∨
    (¬ (48 ≤ b.toNat ∧ b.toNat ≤ 57) ∧ (lowI b < 97 ∨ 103 ≤ lowI b) ∧ hexI b = -1 ∧ 0 ≤ lowI b ∧ lowI b ≤ 255) :=
  all_bytes (p := fun b => (48 ≤ b.toNat ∧ b.toNat ≤ 57 ∧ hexI b = (b.toNat : Int) - 48) ∨
    (¬ (48 ≤ b.toNat ∧ b.toNat ≤ 57) ∧ b.toNat ≠ 95 ∧ 97 ≤ lowI b ∧ lowI b ≤ 102 ∧ hexI b = lowI b - 87 ∧ 0 ≤ hexI b) ∨
    (¬ (48 ≤ b.toNat ∧ b.toNat ≤ 57) ∧ (lowI b < 97 ∨ 103 ≤ lowI b) ∧ hexI b = -1 ∧ 0 ≤ lowI b ∧ lowI b ≤ 255)) (by decide +kernel) b

set_option maxHeartbeats 8000000 in
set_option maxRecDepth 100000 in
theorem pu16 (t : ByteArray) (h2 : t.size = 2) (w : World) :
    Calls Tryz.prog 104 #[.string t, .int .i64 16, .int .i64 8] w fun e w' => e = .returned (puV 133 (pu 0 t.data.toList)) ∧ w' = Lib.bytesWorld w 5 t := by
  have hemp : t.toList.isEmpty = false := by
    rw [← decide_eq_emptyBytes]
    exact decide_eq_false (fun h => by rw [h] at h2; cases h2)
  have hcv := Lib.run_convert_string_bytes (P := Tryz.prog) w 9 56 5 t (u := .string) rfl rfl rfl
  have hB : ∀ j, j < t.size → (Lib.bytesWorld w 5 t).cell? ⟨w.heap.size, j, none⟩ = some (.int .u8 (t.data.toList.getD j 0).toNat) := fun j hj => Lib.bytesWorld_cell w 5 t j hj
  obtain ⟨W1, hW1⟩ : ∃ W1, W1 = Lib.bytesWorld w 5 t := ⟨_, rfl⟩
  rw [← hW1] at hcv hB ⊢
  clear hW1
  obtain ⟨bs, hL⟩ : ∃ bs, bs = t.data.toList := ⟨_, rfl⟩
  have hLn : bs.length = t.size := by rw [hL, Lib.size_eq]
  rw [← hL] at hB ⊢
  clear hL
  have hmv : IntKind.u64.wrap (IntKind.u64.wrap 256 - 1) = 255 := by
    rw [IntKind.wrap_u64, IntKind.wrap_u64]
    decide
  go_enter Tryz.func104, Tryz.ntmps104
  go_wp2
  go_loop [12, 13, 101] (fun vu vn vi => ∃ (k : Nat) (a : Int), vu = .bool false ∧ vn = .int .u64 a ∧ vi = .int .i64 k ∧ k ≤ t.size ∧ 0 ≤ a ∧ a ≤ 255 ∧ Hid (pu 0 bs = pu a (bs.drop k) ∧ (k < 2 → a ≤ 15) ∧ (k = 0 → a = 0)))
    (fun _ _ vi => t.size - (intOf vi).toNat)
  case atStart => exact ⟨0, 0, rfl, rfl, rfl, by omega, by omega, by omega, Lib.hid ⟨rfl, fun _ => by omega, fun _ => rfl⟩⟩
  case round =>
    obtain ⟨k, a, rfl, rfl, rfl, hk, a0, a1, hh⟩ := hrel
    by_cases hkn : k < t.size
    · have hc := hB k hkn
      have hdrop : bs.drop k = bs[k]'(by omega) :: bs.drop (k + 1) := List.drop_eq_getElem_cons (by omega)
      have hget : bs.getD k 0 = bs[k]'(by omega) := by simp [List.getD, List.getElem?_eq_getElem (show k < bs.length by omega)]
      obtain ⟨hdec, ha15, ha00⟩ := hh.out
      clear hh
      rw [hdrop] at hdec
      rw [hget] at hc
      generalize bs[k]'(by omega) = c at hc hdec
      have hc256 : c.toNat < 256 := c.toNat_lt
      have ha15 := ha15 (by omega)
      have hlow := low_cases c
      obtain ⟨lc, hlc⟩ : ∃ lc, lowI c = lc := ⟨_, rfl⟩
      rw [hlc] at hlow
      have HL := Lib.hid hlc
      clear hB hdrop hget hlc
      rcases hlow with ⟨d0, d1, hx⟩ | ⟨nd, n95, l0, l1, hx, hx0⟩ | ⟨nd, lx, hx, l0, l1⟩
      · have hv : ¬ hexI c < 0 := by omega
        have hx16 : hexI c ≤ 15 := (hexI_le c).2
        rw [pu, if_neg hv] at hdec
        have HN := Lib.hid (show pu 0 bs = pu (a * 16 + ((c.toNat : Int) - 48)) (bs.drop (k + 1)) ∧ (k + 1 < 2 → a * 16 + ((c.toNat : Int) - 48) ≤ 15) ∧ (k + 1 = 0 → a * 16 + ((c.toNat : Int) - 48) = 0) from
          ⟨by rw [hdec, hx]; congr 1; omega, fun h => by have := ha00 (by omega); omega, fun h => by omega⟩)
        have iov : a * 16 + ((c.toNat : Int) - 48) ≤ 255 := by omega
        clear hdec hx hv ha00
        go_wp2
        refine ⟨⟨k + 1, a * 16 + ((c.toNat : Int) - 48), rfl, (by first | rfl | (congr 1; omega)), (by first | rfl | (congr 1; omega)), by omega, by omega, by omega, HN⟩, by simp [intOf]; omega⟩
      · have hv : ¬ hexI c < 0 := by omega
        have hx16 : hexI c ≤ 15 := (hexI_le c).2
        rw [pu, if_neg hv] at hdec
        have HN := Lib.hid (show pu 0 bs = pu (a * 16 + (lc - 97 + 10)) (bs.drop (k + 1)) ∧ (k + 1 < 2 → a * 16 + (lc - 97 + 10) ≤ 15) ∧ (k + 1 = 0 → a * 16 + (lc - 97 + 10) = 0) from
          ⟨by rw [hdec, hx]; congr 1; omega, fun h => by have := ha00 (by omega); omega, fun h => by omega⟩)
        have iov : a * 16 + (lc - 97 + 10) ≤ 255 := by omega
        clear hdec hx hv ha00 hx0
        go_wp2_with (go_at_call 109; refine (Tryz.internal_strconv_lower _ _).mono ?_; rintro e w' ⟨rfl, rfl⟩; rw [show bits .or .u8 (c.toNat : Int) 32 = lc from HL.out])
        all_goals refine ⟨⟨k + 1, a * 16 + (lc - 97 + 10), rfl, (by first | rfl | (congr 1; omega)), (by first | rfl | (congr 1; omega)), by omega, by omega, by omega, HN⟩, by simp [intOf]; omega⟩
      · have hv : hexI c < 0 := by omega
        rw [pu, if_pos hv] at hdec
        clear hx hv ha00
        have HD := Lib.hid hdec
        clear hdec
        by_cases h95 : c.toNat = 95
        · have l95 : lc = 127 := by
            have := HL.out
            rw [← this]
            have hc95 : c = 95 := by
              apply UInt8.toNat_inj.1; rw [h95]; rfl
            rw [hc95]; decide
          subst l95
          rw [show (c.toNat : Int) = 95 by omega] at hc
          go_wp2_with (go_at_call 109; refine (Tryz.internal_strconv_lower _ _).mono ?_; rintro e w' ⟨rfl, rfl⟩; first | rw [show bits .or .u8 (c.toNat : Int) 32 = 127 from HL.out] | rw [show bits .or .u8 95 32 = 127 from by decide])
          all_goals go_ret2
          all_goals first | exact ⟨by rw [HD.out]; rfl, rfl⟩
        rcases lx with lx | lx
        · go_wp2_with (go_at_call 109; refine (Tryz.internal_strconv_lower _ _).mono ?_; rintro e w' ⟨rfl, rfl⟩; rw [show bits .or .u8 (c.toNat : Int) 32 = lc from HL.out])
          all_goals go_ret2
          all_goals first | exact ⟨by rw [HD.out]; rfl, rfl⟩
        · go_wp2_with (go_at_call 109; refine (Tryz.internal_strconv_lower _ _).mono ?_; rintro e w' ⟨rfl, rfl⟩; rw [show bits .or .u8 (c.toNat : Int) 32 = lc from HL.out])
          all_goals go_ret2
          all_goals first | exact ⟨by rw [HD.out]; rfl, rfl⟩
    · have hkk : k = t.size := by omega
      subst hkk
      have hF : pu a (bs.drop t.size) = some a := by rw [List.drop_eq_nil_of_le (by omega)]; rfl
      have hdec := hh.out.1
      rw [hF] at hdec
      have HD := Lib.hid hdec
      clear hdec hh
      go_wp2
      go_ret2
      exact ⟨by rw [HD.out]; rfl, rfl⟩
end Go.Proofs.YtacgnbelcpmjfaaGreatDoor.Dx
