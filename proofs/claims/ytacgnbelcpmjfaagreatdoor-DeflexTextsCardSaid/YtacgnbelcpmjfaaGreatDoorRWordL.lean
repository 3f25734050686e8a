/-
  WALKS: the document's Word: a name.
-/
import Derived.Test.YtacgnbelcpmjfaaGreatDoorRWordA
import Derived.Deep.RegionWith
set_option linter.unusedVariables false
set_option linter.unusedSimpArgs false
namespace Go.Proofs.YtacgnbelcpmjfaaGreatDoor.Dx
open Go.RowKit Go.Proofs Mx
theorem class1 (c : UInt8) (h : classI (c.toNat : Int) = 1) : letterB (c.toNat : Int) = true := by
  revert h
  exact all_bytes (p := fun c => classI (c.toNat : Int) = 1 → letterB (c.toNat : Int) = true) (by decide +kernel) c
theorem name_tw (c : UInt8) (t : List UInt8) (h : letterB (c.toNat : Int) = true) : nameB ((c :: t).takeWhile wordB) = decide (((c :: t).takeWhile wordB).length ≤ 64) := by
  have hw : wordB c = true := by rw [wordB, h]; rfl
  have hall : ((c :: t).takeWhile wordB).all wordB = true := List.all_takeWhile
  rw [List.takeWhile_cons, if_pos hw] at hall ⊢
  unfold nameB
  simp only [h, hall, Bool.true_and]
theorem WordR.bool {k n : Nat} {w w' : World} {x : Option (Wd × Nat)} {v : Wd} {u : Value} {j : Int} {b : Bool} (h : x = if b = true then some (v, n) else none) (hu : u = wdV (k : Int) v) (hj : j = ((k + n : Nat) : Int)) (hb : Below w.heap.size w w') : WordR k w x (.returned (.tuple #[u, .int .i64 j, .bool b])) w' := by
  cases b with
  | true => exact WordR.yes h hu hj hb
  | false => exact WordR.no h hu hb
set_option maxRecDepth 100000 in
set_option maxHeartbeats 20000000 in
theorem rword_letter (s : ByteArray) (k : Nat) (hs : s.size ≤ 400000000) (hk : k < s.size) (c : UInt8) (hc : s[k] = c) (hcl : classI (c.toNat : Int) = 1) (w : World) :
    Calls Tryz.prog 20 #[.string s, .int .i64 (k : Int)] w (WordR k w (wordF (s.data.toList.drop k))) := by
  have hlc := class1 c hcl
  have hlet := letter_any (c.toNat : Int)
  rw [hlc] at hlet
  have hlt : (k : Int) < (s.size : Int) := by omega
  have hk0 : (0 : Int) ≤ (k : Int) := by omega
  have HD := Lib.hid (show s.data.toList.drop k = c :: s.data.toList.drop (k + 1) by rw [drop_cons s k hk, hc])
  have hcl := Lib.hid hcl
  go_enter Tryz.func20, Tryz.ntmps20
  go_wp2_with fail
  refine (hlet _).mono ?_
  rintro e w2 ⟨rfl, rfl⟩
  clear hlet
  go_wp2_with fail
  go_loopg [9] (s.size - k) (fun m v wr => ∃ i : Nat, k ≤ i ∧ i ≤ s.size ∧ m = s.size - i ∧ v = .int .i64 i ∧ wr = ((w.alloc (.cells #[.int .i64 0, .int .i64 0, .string ⟨#[]⟩, .int .u64 0, .int .u64 0, .int .u64 0, .int .u64 0, .int .i64 0] 35)).alloc (.cells #[.int .i64 0, .int .i64 (k : Int), .string ⟨#[]⟩, .int .u64 0, .int .u64 0, .int .u64 0, .int .u64 0, .int .i64 0] 35)) ∧ tw s k = (i - k) + tw s i)
  case atStart => exact ⟨k, Nat.le_refl _, by omega, rfl, rfl, rfl, by omega⟩
  case round =>
    obtain ⟨i, hki, hi, hm, rfl, rfl, hx⟩ := hrel
    have A := Lib.hid (And.intro hm hx)
    clear hm hx
    have hi0 : (0 : Int) ≤ (i : Int) := by omega
    by_cases hlt2 : i < s.size
    · obtain ⟨d, hd⟩ : ∃ d, s[i] = d := ⟨_, rfl⟩
      have hlt2' : (i : Int) < (s.size : Int) := by omega
      have hl2 := letter_any (d.toNat : Int)
      have hd2 := digit_any (d.toNat : Int)
      have HT0 := tw_lt s i hlt2
      rw [hd, wordB] at HT0
      cases hl : letterB (d.toNat : Int) with
      | true =>
        rw [hl] at hl2 HT0
        have HT := Lib.hid (show tw s k = (i + 1 - k) + tw s (i + 1) by have := A.out.2; rw [HT0] at this; simp at this; omega)
        clear hl HT0 hd2
        go_wp2_with (go_at_call 41; refine (hl2 _).mono ?_; rintro e w' ⟨rfl, rfl⟩)
        go_roundg (s.size - (i + 1))
        case measure => have := A.out.1; omega
        case rel => exact ⟨i + 1, by omega, by omega, rfl, rfl, rfl, by have := HT.out; omega⟩
      | false =>
        rw [hl] at hl2 HT0
        cases hg : digitB (d.toNat : Int) with
        | true =>
          rw [hg] at hd2 HT0
          have HT := Lib.hid (show tw s k = (i + 1 - k) + tw s (i + 1) by have := A.out.2; rw [HT0] at this; simp at this; omega)
          clear hl HT0 hg
          go_wp2_with (first | (go_at_call 41; refine (hl2 _).mono ?_; rintro e w' ⟨rfl, rfl⟩) | (go_at_call 42; refine (hd2 _).mono ?_; rintro e w' ⟨rfl, rfl⟩))
          go_roundg (s.size - (i + 1))
          case measure => have := A.out.1; omega
          case rel => exact ⟨i + 1, by omega, by omega, rfl, rfl, rfl, by have := HT.out; omega⟩
        | false =>
          rw [hg] at hd2 HT0
          have A := Lib.hid (And.intro A.out.1 (show tw s k = (i - k) + 0 by have := A.out.2; rw [HT0] at this; simpa using this))
          clear hl HT0 hg
          have hex : tw s k = i - k := by have := A.out.2; omega
          have hsl : (s.extract k i).data.toList = (s.data.toList.drop k).takeWhile wordB := by
            have := run_text s k
            rw [hex, show k + (i - k) = i by omega] at this
            exact this
          obtain ⟨T, hT⟩ : ∃ T, s.extract k i = T := ⟨_, rfl⟩
          rw [hT] at hsl
          have hTs : T.size = i - k := by rw [← hT, ByteArray.size_extract]; omega
          have hname : ∀ W, Calls Tryz.prog 43 #[.string T] W fun e w' => e = .returned (.bool (nameB T.data.toList)) ∧ W = w' := fun W =>
            (rname_any T (by omega) W).mono fun e w' ⟨h1, h2⟩ => ⟨h1, h2.symm⟩
          obtain ⟨b, hb⟩ : ∃ b, nameB T.data.toList = b := ⟨_, rfl⟩
          rw [hb] at hname
          have HW := Lib.hid (show wordF (s.data.toList.drop k) = if b = true then some (⟨1, T.data.toList, 0, 0⟩, i - k) else none by
            rw [← hb, hsl, ← hex]
            have hn := name_tw c (s.data.toList.drop (k + 1)) hlc
            rw [HD.out, wordF, hcl.out, if_pos rfl, hn]
            have h2 : ((s.data.toList.drop k).takeWhile wordB).length = tw s k := rfl
            rw [HD.out] at h2
            rw [h2]
            simp)
          have hki' : (k : Int) ≤ (i : Int) := by omega
          have his : (i : Int) ≤ (s.size : Int) := by omega
          clear hsl hTs hex hb
          go_wp2_with (first | (go_at_call 41; refine (hl2 _).mono ?_; rintro e w' ⟨rfl, rfl⟩) | (go_at_call 42; refine (hd2 _).mono ?_; rintro e w' ⟨rfl, rfl⟩))
          go_region
          all_goals
            go_wp2_with fail
            go_region_with (go_at_call 43; refine (hname _).mono ?_; rintro e w' ⟨rfl, rfl⟩)
            all_goals
              go_wp2_with fail
              refine bodyPost_ret (results_cell_tmp2_row (cs := #[.int .i64 1, .int .i64 (k : Int), .string T, .int .u64 0, .int .u64 0, .int .u64 0, .int .u64 0, .int .i64 0]) (by rfl) _ _ w.heap.size 35 _ _ _ (by rfl) (by rfl) (by rfl) (Blk.eq (by (repeat (first | with_reducible apply Blk.drew | with_reducible refine Blk.drewN ?_ _)); exact (Blk.new_ rfl _ _).alloc _) (by rfl)) Tryz.underlying35 (by rfl) (by kernel_rfl)) rfl ?_
              refine WordR.bool (v := ⟨1, T.data.toList, 0, 0⟩) (n := i - k) HW.out ?_ (by omega) (by (repeat (first | with_reducible refine Below.drew ?_ | with_reducible refine below_drewN ?_ _)); exact ((Below.refl w.heap.size w).alloc (Nat.le_refl _) _).alloc (by simp) _)
              simp [wdV, wdC, wd_zero, ext_str]
    · obtain rfl : i = s.size := by omega
      have A := Lib.hid (And.intro A.out.1 (show tw s k = (s.size - k) + 0 by have := A.out.2; rw [tw_end] at this; omega))
      have hex : tw s k = s.size - k := by have := A.out.2; omega
      have hsl : (s.extract k s.size).data.toList = (s.data.toList.drop k).takeWhile wordB := by
        have := run_text s k
        rw [hex, show k + (s.size - k) = s.size by omega] at this
        exact this
      obtain ⟨T, hT⟩ : ∃ T, s.extract k s.size = T := ⟨_, rfl⟩
      rw [hT] at hsl
      have hTs : T.size = s.size - k := by rw [← hT, ByteArray.size_extract]; omega
      have hname : ∀ W, Calls Tryz.prog 43 #[.string T] W fun e w' => e = .returned (.bool (nameB T.data.toList)) ∧ W = w' := fun W =>
        (rname_any T (by omega) W).mono fun e w' ⟨h1, h2⟩ => ⟨h1, h2.symm⟩
      obtain ⟨b, hb⟩ : ∃ b, nameB T.data.toList = b := ⟨_, rfl⟩
      rw [hb] at hname
      have HW := Lib.hid (show wordF (s.data.toList.drop k) = if b = true then some (⟨1, T.data.toList, 0, 0⟩, s.size - k) else none by
        rw [← hb, hsl, ← hex]
        have hn := name_tw c (s.data.toList.drop (k + 1)) hlc
        rw [HD.out, wordF, hcl.out, if_pos rfl, hn]
        have h2 : ((s.data.toList.drop k).takeWhile wordB).length = tw s k := rfl
        rw [HD.out] at h2
        rw [h2]
        simp)
      have hki' : (k : Int) ≤ (s.size : Int) := by omega
      have his : (s.size : Int) ≤ (s.size : Int) := by omega
      clear hsl hTs hex hb
      go_wp2_with fail
      go_region
      all_goals
        go_wp2_with fail
        go_region_with (go_at_call 43; refine (hname _).mono ?_; rintro e w' ⟨rfl, rfl⟩)
        all_goals
          go_wp2_with fail
          refine bodyPost_ret (results_cell_tmp2_row (cs := #[.int .i64 1, .int .i64 (k : Int), .string T, .int .u64 0, .int .u64 0, .int .u64 0, .int .u64 0, .int .i64 0]) (by rfl) _ _ w.heap.size 35 _ _ _ (by rfl) (by rfl) (by rfl) (Blk.eq (by (repeat (first | with_reducible apply Blk.drew | with_reducible refine Blk.drewN ?_ _)); exact (Blk.new_ rfl _ _).alloc _) (by rfl)) Tryz.underlying35 (by rfl) (by kernel_rfl)) rfl ?_
          refine WordR.bool (v := ⟨1, T.data.toList, 0, 0⟩) (n := s.size - k) HW.out ?_ (by omega) (by (repeat (first | with_reducible refine Below.drew ?_ | with_reducible refine below_drewN ?_ _)); exact ((Below.refl w.heap.size w).alloc (Nat.le_refl _) _).alloc (by simp) _)
          simp [wdV, wdC, wd_zero, ext_str]
end Go.Proofs.YtacgnbelcpmjfaaGreatDoor.Dx
