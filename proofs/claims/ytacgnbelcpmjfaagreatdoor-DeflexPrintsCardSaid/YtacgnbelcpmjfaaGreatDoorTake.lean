/-
  WALKS of package sets: digit, take.
-/
import Derived.Test.YtacgnbelcpmjfaaGreatDoorParse
import Derived.Test.YtacgnbelcpmjfaaGreatDoorGap
set_option linter.unusedVariables false
set_option linter.unusedSimpArgs false
namespace Go.Proofs.YtacgnbelcpmjfaaGreatDoor.Dx
open Go.RowKit Go.Proofs Mx

theorem tu (x : UInt8) : (x.toNat : Int).toNat.toUInt8 = x := by simp
def sixteenL : List UInt8 := [48, 49, 50, 51, 52, 53, 54, 55, 56, 57, 97, 98, 99, 100, 101, 102]
theorem digit_ix (b : UInt8) : Lib.indexByte sixteenL (if 65 ≤ b.toNat ∧ b.toNat ≤ 70 then b + 32 else b) = hexI b :=
  all_bytes (p := fun b => Lib.indexByte sixteenL (if 65 ≤ b.toNat ∧ b.toNat ≤ 70 then b + 32 else b) = hexI b) (by decide +kernel) b

set_option maxRecDepth 100000 in
theorem sdigit_any (b : UInt8) (w : World) :
    Calls Tryz.prog 108 #[.int .u8 (b.toNat : Int)] w fun e w' => e = .returned (.int .i64 (hexI b)) ∧ w = w' := by
  have hix := digit_ix b
  have hb := b.toNat_lt
  by_cases hg : 65 ≤ b.toNat ∧ b.toNat ≤ 70
  · rw [if_pos hg] at hix
    have hb32 : ((b + 32).toNat : Int) = (b.toNat : Int) + 32 := by
      have : (b + 32).toNat = (b.toNat + 32) % 256 := by simp [UInt8.toNat_add]
      rw [this]; omega
    have hi := Tryz.strings_IndexByte ⟨#[48, 49, 50, 51, 52, 53, 54, 55, 56, 57, 97, 98, 99, 100, 101, 102]⟩ ((b + 32).toNat : Int)
    rw [tu, hb32] at hi
    have HI := Lib.hid hi
    have HX := Lib.hid hix
    have g0 : 65 ≤ (b.toNat : Int) := by omega
    have g1 : (b.toNat : Int) ≤ 70 := by omega
    clear hi hix hg hb32
    go_enter Tryz.func108, Tryz.ntmps108
    go_wp2_with (go_at_call 50; refine (HI.out _).mono ?_; rintro e w' ⟨rfl, rfl⟩)
    go_ret
    exact ⟨ret_int HX.out, rfl⟩
  · rw [if_neg hg] at hix
    have hi := Tryz.strings_IndexByte ⟨#[48, 49, 50, 51, 52, 53, 54, 55, 56, 57, 97, 98, 99, 100, 101, 102]⟩ (b.toNat : Int)
    rw [tu] at hi
    have HI := Lib.hid hi
    have HX := Lib.hid hix
    have g0 : (b.toNat : Int) < 65 ∨ 70 < (b.toNat : Int) := by omega
    clear hi hix hg
    rcases g0 with g0 | g0
    all_goals
      go_enter Tryz.func108, Tryz.ntmps108
      go_wp2_with (go_at_call 50; refine (HI.out _).mono ?_; rintro e w' ⟨rfl, rfl⟩)
      go_ret
      exact ⟨ret_int HX.out, rfl⟩

/-- A byte off a set's text: which, and how many bytes tell it. -/
def markedL : List UInt8 := [9, 10, 13, 92, 91, 93, 45, 94]
def marksL : List UInt8 := [116, 110, 114, 92, 91, 93, 45, 94]
def unmark (c : UInt8) : UInt8 := if c = 116 then 9 else if c = 110 then 10 else if c = 114 then 13 else c
def takeH : List UInt8 → Option (UInt8 × Nat)
  | a :: b :: _ => if 0 ≤ hexI a ∧ 0 ≤ hexI b then some (UInt8.ofNat (16 * hexI a + hexI b).toNat, 4) else none
  | _ => none
def takeB : List UInt8 → Option (UInt8 × Nat)
  | [] => none
  | d :: u => if marksL.contains d then some (unmark d, 2) else if d = 120 then takeH u else none
def takeF : List UInt8 → Option (UInt8 × Nat)
  | [] => none
  | c :: t => if c = 92 then takeB t else if 32 ≤ c.toNat ∧ c.toNat < 127 ∧ markedL.contains c = false then some (c, 1) else none
def TakeOut (s : ByteArray) (w : World) : Option (UInt8 × Nat) → Ending → World → Prop
  | some (b, n), e, w' => e = .returned (.tuple #[.int .u8 (b.toNat : Int), .string (s.extract n s.size), .bool true]) ∧ ∃ m, w' = w.drewN m
  | none, e, w' => (∃ (b : UInt8) (r : ByteArray), e = .returned (.tuple #[.int .u8 (b.toNat : Int), .string r, .bool false])) ∧ ∃ m, w' = w.drewN m
theorem marked_ix (c : UInt8) : Lib.indexByte [9, 10, 13, 92, 91, 93, 45, 94] c < 0 ↔ markedL.contains c = false :=
  all_bytes (p := fun c => Lib.indexByte [9, 10, 13, 92, 91, 93, 45, 94] c < 0 ↔ markedL.contains c = false) (by decide +kernel) c
theorem marks_some (c : UInt8) (h : marksL.contains c = true) : c = 116 ∨ c = 110 ∨ c = 114 ∨ c = 92 ∨ c = 91 ∨ c = 93 ∨ c = 45 ∨ c = 94 := by
  revert h
  exact all_bytes (p := fun c => marksL.contains c = true → c = 116 ∨ c = 110 ∨ c = 114 ∨ c = 92 ∨ c = 91 ∨ c = 93 ∨ c = 45 ∨ c = 94) (by decide +kernel) c
theorem marks_ix (c : UInt8) (h : marksL.contains c = true) : 0 ≤ Lib.indexByte [116, 110, 114, 92, 91, 93, 45, 94] c ∧ Lib.indexByte [116, 110, 114, 92, 91, 93, 45, 94] c < 8 := by
  rcases marks_some c h with rfl | rfl | rfl | rfl | rfl | rfl | rfl | rfl <;> decide
theorem marks_none (c : UInt8) (h : marksL.contains c = false) : Lib.indexByte [116, 110, 114, 92, 91, 93, 45, 94] c = -1 := by
  revert h
  exact all_bytes (p := fun c => marksL.contains c = false → Lib.indexByte [116, 110, 114, 92, 91, 93, 45, 94] c = -1) (by decide +kernel) c
theorem marks_mean (c : UInt8) (h : marksL.contains c = true) (hb : (Lib.indexByte [116, 110, 114, 92, 91, 93, 45, 94] c).toNat < (⟨#[9, 10, 13, 92, 91, 93, 45, 94]⟩ : ByteArray).size) :
    (⟨#[9, 10, 13, 92, 91, 93, 45, 94]⟩ : ByteArray)[(Lib.indexByte [116, 110, 114, 92, 91, 93, 45, 94] c).toNat]'hb = unmark c := by
  rcases marks_some c h with rfl | rfl | rfl | rfl | rfl | rfl | rfl | rfl <;> rfl
theorem u8_ne {c d : UInt8} (h : c ≠ d) : ¬ (c.toNat : Int) = (d.toNat : Int) := fun e => h (UInt8.toNat_inj.1 (by omega))
theorem fst_drop (s : ByteArray) (i : Nat) {c : UInt8} {t : List UInt8} (h : s.data.toList.drop i = c :: t) : ∃ hi : i < s.size, s[i] = c ∧ s.data.toList.drop (i + 1) = t := by
  have hi : i < s.size := by
    rcases Nat.lt_or_ge i s.size with hlt | hge
    · exact hlt
    · rw [drop_all s i hge] at h; cases h
  have h2 := drop_cons s i hi
  rw [h] at h2
  injection h2 with h3 h4
  exact ⟨hi, h3.symm, h4.symm⟩

theorem sdigit_eq (b : UInt8) (x : Int) (h : hexI b = x) (w : World) :
    Calls Tryz.prog 108 #[.int .u8 (b.toNat : Int)] w fun e w' => e = .returned (.int .i64 x) ∧ w = w' := h ▸ sdigit_any b w
theorem or16 (x y : Int) (x0 : 0 ≤ x) (x1 : x ≤ 15) (y0 : 0 ≤ y) (y1 : y ≤ 15) : bits .or .i64 (x * 16) y = 16 * x + y := by
  obtain ⟨n, rfl⟩ := Int.eq_ofNat_of_zero_le x0
  obtain ⟨m, rfl⟩ := Int.eq_ofNat_of_zero_le y0
  have h : (List.range 16).all (fun n => (List.range 16).all (fun m => decide (bits .or .i64 ((n : Int) * 16) (m : Int) = 16 * (n : Int) + (m : Int)))) = true := by decide +kernel
  have h1 := List.all_eq_true.1 h n (by simp; omega)
  have h2 := List.all_eq_true.1 h1 m (by simp; omega)
  simpa using h2
theorem take_tuple {a b : Int} (h : a = b) {r : ByteArray} {x : Bool} : Ending.returned (.tuple #[.int .u8 a, .string r, .bool x]) = .returned (.tuple #[.int .u8 b, .string r, .bool x]) := by rw [h]
theorem wrap_u8_byte (x : Int) : ∃ b : UInt8, IntKind.u8.wrap x = (b.toNat : Int) := by
  rw [IntKind.wrap_u8]
  exact byte_of_int (by omega) (by omega)

set_option maxRecDepth 100000 in
set_option maxHeartbeats 1000000 in
theorem take_any (s : ByteArray) (hs : s.size ≤ 4000000000) (w : World) :
    Calls Tryz.prog 101 #[.string s] w (TakeOut s w (takeF s.data.toList)) := by
  cases hl : s.data.toList with
  | nil =>
    have hz : s.size = 0 := by rw [Lib.size_eq, hl]; rfl
    have hse : s = ⟨#[]⟩ := by apply ByteArray.ext; exact Array.eq_empty_of_size_eq_zero hz
    subst hse
    clear hl hz
    go_enter Tryz.func101, Tryz.ntmps101
    go_wp2_with fail
    go_ret3
    exact ⟨⟨0, ⟨#[]⟩, rfl⟩, 0, rfl⟩
  | cons c t =>
    have hd0 : s.data.toList.drop 0 = c :: t := hl
    obtain ⟨h0, hc, hd1⟩ := fst_drop s 0 hd0
    have hemp : s.toList.isEmpty = false := by
      rw [← decide_eq_emptyBytes]
      exact decide_eq_false (fun h => by rw [h] at h0; cases h0)
    have hix := Tryz.strings_IndexByte ⟨#[9, 10, 13, 92, 91, 93, 45, 94]⟩ (c.toNat : Int)
    rw [tu] at hix
    have HI := Lib.hid hix
    have h0' : (0 : Int) < (s.size : Int) := by omega
    have h1' : (1 : Int) ≤ (s.size : Int) := by omega
    clear hl hd0 hix
    rw [takeF]
    by_cases h92 : c = 92
    · rw [if_pos h92]
      subst h92
      have hcx : ((92 : UInt8).toNat : Int) = 92 := rfl
      cases t with
      | nil =>
        have hz : ¬ 1 < s.size := by
          intro hlt
          have := drop_cons s 1 hlt
          rw [hd1] at this
          cases this
        have g1 : ¬ (1 : Int) < (s.size : Int) := by omega
        have g3 : ¬ (3 : Int) < (s.size : Int) := by omega
        clear hd1 hz
        go_enter Tryz.func101, Tryz.ntmps101
        go_wp2_with fail
        go_ret3
        exact ⟨⟨0, s, rfl⟩, 0, rfl⟩
      | cons d u =>
        obtain ⟨hsz1, hd, hd2⟩ := fst_drop s 1 hd1
        rw [takeB]
        have hix := Tryz.strings_IndexByte ⟨#[116, 110, 114, 92, 91, 93, 45, 94]⟩ (d.toNat : Int)
        rw [tu] at hix
        have HI := Lib.hid hix
        have g1 : (1 : Int) < (s.size : Int) := by omega
        have g2 : (2 : Int) ≤ (s.size : Int) := by omega
        clear hd1 hix
        by_cases hm : marksL.contains d = true
        · rw [if_pos hm]
          obtain ⟨i0, i1⟩ := marks_ix d hm
          have HM := Lib.hid hm
          clear hm
          go_enter Tryz.func101, Tryz.ntmps101
          go_wp2_with (go_at_call 50; refine (HI.out _).mono ?_; rintro e w' ⟨rfl, rfl⟩)
          go_quiet ((first | (go_at_call 50; refine (HI.out _).mono ?_; rintro e w' ⟨rfl, rfl⟩; exact ⟨rfl, _, rfl⟩)))
          go_wp2
          go_ret3
          refine ⟨?_, _, rfl⟩
          rw [marks_mean d HM.out]
          rfl
        · rw [if_neg hm]
          have i0 : Lib.indexByte [116, 110, 114, 92, 91, 93, 45, 94] d = -1 := marks_none d (by simpa using hm)
          rw [show (⟨#[116, 110, 114, 92, 91, 93, 45, 94]⟩ : ByteArray).data.toList = [116, 110, 114, 92, 91, 93, 45, 94] from rfl, i0] at HI
          clear hm i0
          by_cases h3 : s.size ≤ 3
          · have hT : (if d = 120 then takeH u else none) = none := by
              split
              · match u, hd2 with
                | [], _ => rfl
                | [_], _ => rfl
                | a :: b :: v, hd2 =>
                  exfalso
                  obtain ⟨_, _, h3'⟩ := fst_drop s 2 hd2
                  obtain ⟨_, _, _⟩ := fst_drop s 3 h3'
                  omega
              · rfl
            rw [hT]
            have g3 : ¬ (3 : Int) < (s.size : Int) := by omega
            clear hT h3 hd2
            go_enter Tryz.func101, Tryz.ntmps101
            go_wp2_with (go_at_call 50; refine (HI.out _).mono ?_; rintro e w' ⟨rfl, rfl⟩)
            go_ret3
            exact ⟨⟨0, s, rfl⟩, 0, rfl⟩
          · have g3 : (3 : Int) < (s.size : Int) := by omega
            have g4 : (4 : Int) ≤ (s.size : Int) := by omega
            have hl2 : 2 < s.size := by omega
            have hl3 : 3 < s.size := by omega
            by_cases hx : d = 120
            · rw [if_pos hx]
              subst hx
              have hdx : ((120 : UInt8).toNat : Int) = 120 := rfl
              obtain ⟨a, ha⟩ : ∃ a, s[2] = a := ⟨_, rfl⟩
              obtain ⟨b, hb⟩ : ∃ b, s[3] = b := ⟨_, rfl⟩
              have hu : u = a :: b :: s.data.toList.drop 4 := by rw [← hd2, drop_cons s 2 hl2, drop_cons s 3 hl3, ha, hb]
              rw [hu, takeH]
              obtain ⟨x, hxa⟩ : ∃ x, hexI a = x := ⟨_, rfl⟩
              obtain ⟨y, hyb⟩ : ∃ y, hexI b = y := ⟨_, rfl⟩
              have hx15 := hexI_le a
              have hy15 := hexI_le b
              rw [hxa] at hx15 ⊢
              rw [hyb] at hy15 ⊢
              clear hu hd2 h3
              by_cases hh : 0 ≤ x ∧ 0 ≤ y
              · rw [if_pos hh]
                have hdx0 : decide (0 ≤ x) = true := by simp; omega
                have hdy0 : decide (0 ≤ y) = true := by simp; omega
                obtain ⟨x0, y0⟩ := hh
                obtain ⟨x1, hx1⟩ := hx15
                obtain ⟨y1, hy1⟩ := hy15
                go_enter Tryz.func101, Tryz.ntmps101
                go_wp2_with (go_at_call 50; refine (HI.out _).mono ?_; rintro e w' ⟨rfl, rfl⟩)
                go_quiet ((first | (go_at_call 108; refine (sdigit_eq _ _ (by assumption) _).mono ?_; rintro e w' ⟨rfl, rfl⟩; exact ⟨rfl, _, rfl⟩)))
                go_wp2_with fail
                go_quiet (fail)
                go_wp2
                go_ret3
                refine ⟨take_tuple ?_, _, World.drewN_drewN _ _ _⟩
                rw [or16 x y x0 hx1 y0 hy1]
                simp
                omega
              · rw [if_neg hh]
                obtain ⟨x0, x1⟩ := hx15
                obtain ⟨y0, y1⟩ := hy15
                by_cases hx0 : 0 ≤ x
                · have hy0 : ¬ 0 ≤ y := fun e => hh ⟨hx0, e⟩
                  have hdx0 : decide (0 ≤ x) = true := decide_eq_true hx0
                  have hdy0 : decide (0 ≤ y) = false := decide_eq_false hy0
                  clear hh
                  go_enter Tryz.func101, Tryz.ntmps101
                  go_wp2_with (go_at_call 50; refine (HI.out _).mono ?_; rintro e w' ⟨rfl, rfl⟩)
                  go_quiet ((first | (go_at_call 108; refine (sdigit_eq _ _ (by assumption) _).mono ?_; rintro e w' ⟨rfl, rfl⟩; exact ⟨rfl, _, rfl⟩)))
                  go_wp2_with fail
                  go_quiet (fail)
                  go_wp2
                  go_ret3
                  obtain ⟨z, hz⟩ : ∃ z : UInt8, bits .or .i64 (x * 16) y % 256 = (z.toNat : Int) := byte_of_int (by omega) (by omega)
                  exact ⟨⟨z, s.extract 4 s.size, take_tuple hz⟩, _, World.drewN_drewN _ _ _⟩
                · have hdx0 : decide (0 ≤ x) = false := decide_eq_false hx0
                  clear hh
                  go_enter Tryz.func101, Tryz.ntmps101
                  go_wp2_with (go_at_call 50; refine (HI.out _).mono ?_; rintro e w' ⟨rfl, rfl⟩)
                  go_quiet ((first | (go_at_call 108; refine (sdigit_eq _ _ (by assumption) _).mono ?_; rintro e w' ⟨rfl, rfl⟩; exact ⟨rfl, _, rfl⟩)))
                  go_wp2_with fail
                  go_quiet (fail)
                  go_wp2
                  go_ret3
                  obtain ⟨z, hz⟩ : ∃ z : UInt8, bits .or .i64 (x * 16) y % 256 = (z.toNat : Int) := byte_of_int (by omega) (by omega)
                  exact ⟨⟨z, s.extract 4 s.size, take_tuple hz⟩, _, World.drewN_drewN _ _ _⟩
            · rw [if_neg hx]
              have ndx : ¬ (d.toNat : Int) = 120 := u8_ne hx
              clear hx h3 hd2
              go_enter Tryz.func101, Tryz.ntmps101
              go_wp2_with (go_at_call 50; refine (HI.out _).mono ?_; rintro e w' ⟨rfl, rfl⟩)
              go_ret3
              exact ⟨⟨0, s, rfl⟩, 0, rfl⟩
    · rw [if_neg h92]
      have n92 : ¬ (c.toNat : Int) = 92 := u8_ne h92
      clear h92
      by_cases h32 : 32 ≤ c.toNat
      · have hd32 : decide (32 ≤ (c.toNat : Int)) = true := by simp; omega
        by_cases h127 : c.toNat < 127
        · have hd127 : decide ((c.toNat : Int) < 127) = true := by simp; omega
          cases hm : markedL.contains c with
          | false =>
            have hmi : Lib.indexByte [9, 10, 13, 92, 91, 93, 45, 94] c < 0 := (marked_ix c).2 hm
            rw [if_pos ⟨h32, h127, rfl⟩]
            clear hm h32 h127
            go_enter Tryz.func101, Tryz.ntmps101
            go_wp2_with fail
            go_quiet ((first | (go_at_call 50; refine (HI.out _).mono ?_; rintro e w' ⟨rfl, rfl⟩; exact ⟨rfl, _, rfl⟩)))
            go_wp2
            go_ret3
            exact ⟨rfl, _, rfl⟩
          | true =>
            have hmi : decide (Lib.indexByte [9, 10, 13, 92, 91, 93, 45, 94] c < 0) = false := decide_eq_false (fun e => by rw [(marked_ix c).1 e] at hm; cases hm)
            rw [if_neg (fun h => by cases h.2.2)]
            clear hm h32 h127
            go_enter Tryz.func101, Tryz.ntmps101
            go_wp2_with fail
            go_quiet ((first | (go_at_call 50; refine (HI.out _).mono ?_; rintro e w' ⟨rfl, rfl⟩; exact ⟨rfl, _, rfl⟩)))
            go_wp2
            go_ret3
            exact ⟨⟨c, _, rfl⟩, _, rfl⟩
        · have hd127 : decide ((c.toNat : Int) < 127) = false := by simp; omega
          rw [if_neg (fun h => h127 h.2.1)]
          clear h32 h127
          go_enter Tryz.func101, Tryz.ntmps101
          go_wp2_with fail
          go_quiet (fail)
          go_wp2
          go_ret3
          exact ⟨⟨c, _, rfl⟩, _, rfl⟩
      · have hd32 : decide (32 ≤ (c.toNat : Int)) = false := by simp; omega
        rw [if_neg (fun h => h32 h.1)]
        clear h32
        go_enter Tryz.func101, Tryz.ntmps101
        go_wp2_with fail
        go_quiet (fail)
        go_wp2
        go_ret3
        exact ⟨⟨c, _, rfl⟩, _, rfl⟩
end Go.Proofs.YtacgnbelcpmjfaaGreatDoor.Dx
