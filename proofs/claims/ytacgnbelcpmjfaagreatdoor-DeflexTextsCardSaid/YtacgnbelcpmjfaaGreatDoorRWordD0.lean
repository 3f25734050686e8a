/-
  WALKS: the document's Word: a number.
-/
import Derived.Test.YtacgnbelcpmjfaaGreatDoorRWordL
import Derived.Test.YtacgnbelcpmjfaaGreatDoorRPureN
import Derived.Deep.RegionWith
import Derived.RegionTactic
import Derived.BigRegion
import Derived.Test.YtacgnbelcpmjfaaGreatDoorRange2A
set_option linter.unusedVariables false
set_option linter.unusedSimpArgs false
namespace Go.Proofs.YtacgnbelcpmjfaaGreatDoor.Dx
open Go.RowKit Go.Proofs Mx
set_option maxRecDepth 100000 in
set_option maxHeartbeats 20000000 in
theorem rword_zero (s : ByteArray) (k : Nat) (hs : s.size ≤ 400000000) (hk : k < s.size) (c : UInt8) (hc : s[k] = c) (hcl : classI (c.toNat : Int) = 2) (h48 : c = 48) (w : World) :
    Calls Tryz.prog 20 #[.string s, .int .i64 (k : Int)] w (WordR k w (wordF (s.data.toList.drop k))) := by
  obtain ⟨k1, k2, k3, k4⟩ := class2 c hcl
  have hlet := letter_any (c.toNat : Int)
  rw [k1] at hlet
  have hdig := digit_any (c.toNat : Int)
  rw [k2] at hdig
  have n34 : ((c.toNat : Int) == 34) = false := u8_beq c 34 k3
  have n91 : ((c.toNat : Int) == 91) = false := u8_beq c 91 k4
  have hlt : (k : Int) < (s.size : Int) := by omega
  have hk0 : (0 : Int) ≤ (k : Int) := by omega
  have hd1 : 0 < dw s k := by
    rw [dw_lt s k hk, hc, show digB c = true from k2, if_pos rfl]; omega
  have HC := Lib.hid (And.intro (num_end s k · c hk hc hcl) hd1)
  have H48 := Lib.hid h48
  have b48 : ((c.toNat : Int) != 48) = false := by rw [h48]; rfl
  clear h48
  clear k1 k2 k3 k4 hcl hd1
  go_enter Tryz.func20, Tryz.ntmps20
  go_wp2_with fail
  refine (hlet _).mono ?_
  rintro e w2 ⟨rfl, rfl⟩
  go_wp2_with fail
  refine (hdig _).mono ?_
  rintro e w2 ⟨rfl, rfl⟩
  clear hdig hlet n34 n91
  go_wp2_with fail
  go_loopg [9] (s.size - k) (fun m v wr => ∃ i n : Nat, k ≤ i ∧ i ≤ s.size ∧ m = s.size - i ∧ v = .int .i64 i ∧ n ≤ 10000000000 ∧ Blk wr (w.heap.size + 1) 35 #[.int .i64 0, .int .i64 (k : Int), .string ⟨#[]⟩, .int .u64 0, .int .u64 0, .int .u64 0, .int .u64 0, .int .i64 (n : Int)] ∧ Blk wr w.heap.size 35 #[.int .i64 0, .int .i64 0, .string ⟨#[]⟩, .int .u64 0, .int .u64 0, .int .u64 0, .int .u64 0, .int .i64 0] ∧ Below w.heap.size w wr ∧ dw s k = (i - k) + dw s i ∧ n = capF ((s.data.toList.drop k).take (i - k)))
  case atStart => exact ⟨k, 0, Nat.le_refl _, by omega, rfl, rfl, by decide, Blk.new_ (by simp) _ _, (Blk.new_ rfl _ _).alloc _, ((Below.refl w.heap.size w).alloc (Nat.le_refl _) (.cells #[.int .i64 0, .int .i64 0, .string ⟨#[]⟩, .int .u64 0, .int .u64 0, .int .u64 0, .int .u64 0, .int .i64 0] 35)).alloc (by simp) (.cells #[.int .i64 0, .int .i64 (k : Int), .string ⟨#[]⟩, .int .u64 0, .int .u64 0, .int .u64 0, .int .u64 0, .int .i64 0] 35), by omega, by rw [Nat.sub_self]; rfl⟩
  case round =>
    obtain ⟨i, n, hki, hi, hm, rfl, hn, hb1, hb0, hbel, hdw, hcap⟩ := hrel
    have A := Lib.hid (And.intro hm (And.intro hdw hcap))
    have S0 := Lib.hid (And.intro hb1 (And.intro hb0 hbel))
    obtain ⟨z0, z1, z2, z3, z4, z5, z6, z7, zf⟩ := hb1.facts8
    obtain ⟨x0, x1, x2, x3, x4, x5, x6, x7, xf⟩ := hb0.facts8
    clear hm hb1 hb0 hbel hdw hcap
    have hi0 : (0 : Int) ≤ (i : Int) := by omega
    by_cases hlt2 : i < s.size
    · obtain ⟨d, hd⟩ : ∃ d, s[i] = d := ⟨_, rfl⟩
      have hlt2' : (i : Int) < (s.size : Int) := by omega
      have hd2 := digit_any (d.toNat : Int)
      have HT0 := dw_lt s i hlt2
      rw [hd, digB] at HT0
      cases hg : digitB (d.toNat : Int) with
      | true =>
        rw [hg] at hd2 HT0
        have HT := Lib.hid (show dw s k = (i + 1 - k) + dw s (i + 1) by have := A.out.2.1; rw [HT0] at this; simp at this; omega)
        obtain ⟨r1, r2⟩ := digit_range d hg
        have q1 : 48 ≤ (d.toNat : Int) := by omega
        have q2 : (d.toNat : Int) ≤ 57 := by omega
        have q3 : (n : Int) ≤ 10000000000 := by omega
        have q4 : (0 : Int) ≤ (n : Int) := by omega
        have HP := Lib.hid (show ((min (10 * n + (d.toNat - 48)) 10000000000 : Nat) : Int) = min (10 * (n : Int) + ((d.toNat : Int) - 48)) 10000000000 by omega)
        have HQ := Lib.hid (show min (10 * n + (d.toNat - 48)) 10000000000 = capF ((s.data.toList.drop k).take (i + 1 - k)) by
          rw [take_snoc s k i hki hlt2, cap_snoc, ← A.out.2.2, hd])
        clear hg HT0 hn
        go_wp2_with (go_at_call 42; refine (hd2 _).mono ?_; rintro e w' ⟨rfl, rfl⟩)
        go_region
        all_goals
          go_wp2_with fail
          go_roundg (s.size - (i + 1))
          case measure => have := A.out.1; omega
          case rel => exact ⟨i + 1, min (10 * n + (d.toNat - 48)) 10000000000, by omega, by omega, rfl, rfl, by omega, by rw [HP.out]; exact (S0.out.1.set_ 7 _).drew, (S0.out.2.1.far (p := ⟨w.heap.size + 1, 7, none⟩) (by simp) _).drew, (S0.out.2.2.setCell (p := ⟨w.heap.size + 1, 7, none⟩) (by simp) _).drew, HT.out, HQ.out⟩
      | false =>
        rw [hg] at hd2 HT0
        have hke : dw s k = i - k := by have := A.out.2.1; rw [HT0] at this; simpa using this
        have hki2 : k < i := by have := HC.out.2; omega
        have N := Lib.hid (HC.out.1 i hki2 hi hke n A.out.2.2)
        clear hg HT0
        clear HC A
        have e1 : ((i : Int) == (s.size : Int)) = false := by simp; omega
        by_cases hik : i = k + 1
        · have HIK := Lib.hid hik
          have g9 : (i : Int) - (k : Int) ≤ 9 := by omega
          have gk : ((i : Int) == (k : Int) + 1) = true := by simp; omega
          clear hik
          obtain ⟨l, hl⟩ : ∃ l, letterB (d.toNat : Int) = l := ⟨_, rfl⟩
          have hl2 := letter_any (d.toNat : Int)
          rw [hl] at hl2
          have HW := Lib.hid (show wordF (s.data.toList.drop k) = if (!l) = true then some (⟨4, [], 0, (n : Int)⟩, i - k) else none by
            cases l with
            | true => exact N.out.1 hlt2 (by rw [hd]; exact hl)
            | false => rw [N.out.2 (fun h => by rw [hd]; exact hl), if_pos ⟨by have := HIK.out; omega, .inr HIK.out⟩]; rfl)
          clear N hl
          go_wp2_with (go_at_call 42; refine (hd2 _).mono ?_; rintro e w' ⟨rfl, rfl⟩)
          have hkw := wn_add k (Nat.le_trans (Nat.le_of_lt hk) (Nat.le_trans hs (by decide)))
          have hikw := wn_sub i k (Nat.le_trans hi (Nat.le_trans hs (by decide))) hki
          refine wp_region_any (by kernel_rfl) ?_
          change wpAny _ _ _ _ _ _ _ (World.drew _)
          refine wpAny_pures 24 1 8 (by kernel_rfl) (by kernel_rfl) (by kernel_rfl) (fun _ _ _ _ _ h => h) ?_
          simp only [List.drop_succ_cons, List.drop_zero, List.take_succ_cons, List.take_zero]
          (refine pure_step (fun K hK => ?_); (first | (refine ⟨?_, Or.inl ⟨by rfl, ?_⟩, ?_⟩; rotate_left; (focus (intro W; go_simp; try with_reducible rfl))) | refine ⟨undef, Or.inr ⟨by rfl, rfl⟩, ?_⟩); go_simp; refine hK _ ?_; clear hK K)
          (refine pure_step (fun K hK => ?_); (first | (refine ⟨?_, Or.inl ⟨by rfl, ?_⟩, ?_⟩; rotate_left; (focus (intro W; go_simp; try with_reducible rfl))) | refine ⟨undef, Or.inr ⟨by rfl, rfl⟩, ?_⟩); go_simp; refine hK _ ?_; clear hK K)
          (refine pure_step (fun K hK => ?_); (first | (refine ⟨?_, Or.inl ⟨by rfl, ?_⟩, ?_⟩; rotate_left; (focus (intro W; go_simp; try with_reducible rfl))) | refine ⟨undef, Or.inr ⟨by rfl, rfl⟩, ?_⟩); go_simp; refine hK _ ?_; clear hK K)
          (refine pure_step (fun K hK => ?_); (first | (refine ⟨?_, Or.inl ⟨by rfl, ?_⟩, ?_⟩; rotate_left; (focus (intro W; go_simp; try with_reducible rfl))) | refine ⟨undef, Or.inr ⟨by rfl, rfl⟩, ?_⟩); go_simp; refine hK _ ?_; clear hK K)
          (refine pure_step (fun K hK => ?_); (first | (refine ⟨?_, Or.inl ⟨by rfl, ?_⟩, ?_⟩; rotate_left; (focus (intro W; go_simp; try with_reducible rfl))) | refine ⟨undef, Or.inr ⟨by rfl, rfl⟩, ?_⟩); go_simp; refine hK _ ?_; clear hK K)
          (refine pure_step (fun K hK => ?_); (first | (refine ⟨?_, Or.inl ⟨by rfl, ?_⟩, ?_⟩; rotate_left; (focus (intro W; go_simp; try with_reducible rfl))) | refine ⟨undef, Or.inr ⟨by rfl, rfl⟩, ?_⟩); go_simp; refine hK _ ?_; clear hK K)
          (refine pure_step (fun K hK => ?_); (first | (refine ⟨?_, Or.inl ⟨by rfl, ?_⟩, ?_⟩; rotate_left; (focus (intro W; go_simp; try with_reducible rfl))) | refine ⟨undef, Or.inr ⟨by rfl, rfl⟩, ?_⟩); go_simp; refine hK _ ?_; clear hK K)
          (refine pure_step (fun K hK => ?_); (first | (refine ⟨?_, Or.inl ⟨by rfl, ?_⟩, ?_⟩; rotate_left; (focus (intro W; go_simp; try with_reducible rfl))) | refine ⟨undef, Or.inr ⟨by rfl, rfl⟩, ?_⟩); go_simp; refine hK _ ?_; clear hK K)
          (refine pure_step (fun K hK => ?_); (first | (refine ⟨?_, Or.inl ⟨by rfl, ?_⟩, ?_⟩; rotate_left; (focus (intro W; go_simp; try with_reducible rfl))) | refine ⟨undef, Or.inr ⟨by rfl, rfl⟩, ?_⟩); go_simp; refine hK _ ?_; clear hK K)
          (refine pure_step (fun K hK => ?_); (first | (refine ⟨?_, Or.inl ⟨by rfl, ?_⟩, ?_⟩; rotate_left; (focus (intro W; go_simp; try with_reducible rfl))) | refine ⟨undef, Or.inr ⟨by rfl, rfl⟩, ?_⟩); go_simp; refine hK _ ?_; clear hK K)
          (refine pure_step (fun K hK => ?_); (first | (refine ⟨?_, Or.inl ⟨by rfl, ?_⟩, ?_⟩; rotate_left; (focus (intro W; go_simp; try with_reducible rfl))) | refine ⟨undef, Or.inr ⟨by rfl, rfl⟩, ?_⟩); go_simp; refine hK _ ?_; clear hK K)
          (refine pure_step (fun K hK => ?_); (first | (refine ⟨?_, Or.inl ⟨by rfl, ?_⟩, ?_⟩; rotate_left; (focus (intro W; go_simp; try with_reducible rfl))) | refine ⟨undef, Or.inr ⟨by rfl, rfl⟩, ?_⟩); go_simp; refine hK _ ?_; clear hK K)
          (refine pure_step (fun K hK => ?_); (first | (refine ⟨?_, Or.inl ⟨by rfl, ?_⟩, ?_⟩; rotate_left; (focus (intro W; go_simp; try with_reducible rfl))) | refine ⟨undef, Or.inr ⟨by rfl, rfl⟩, ?_⟩); go_simp; refine hK _ ?_; clear hK K)
          (refine pure_step (fun K hK => ?_); (first | (refine ⟨?_, Or.inl ⟨by rfl, ?_⟩, ?_⟩; rotate_left; (focus (intro W; go_simp; try with_reducible rfl))) | refine ⟨undef, Or.inr ⟨by rfl, rfl⟩, ?_⟩); go_simp; refine hK _ ?_; clear hK K)
          (refine pure_step (fun K hK => ?_); (first | (refine ⟨?_, Or.inl ⟨by rfl, ?_⟩, ?_⟩; rotate_left; (focus (intro W; go_simp; try with_reducible rfl))) | refine ⟨undef, Or.inr ⟨by rfl, rfl⟩, ?_⟩); go_simp; refine hK _ ?_; clear hK K)
          (refine pure_step (fun K hK => ?_); (first | (refine ⟨?_, Or.inl ⟨by rfl, ?_⟩, ?_⟩; rotate_left; (focus (intro W; go_simp; try with_reducible rfl))) | refine ⟨undef, Or.inr ⟨by rfl, rfl⟩, ?_⟩); go_simp; refine hK _ ?_; clear hK K)
          (refine pure_step (fun K hK => ?_); (first | (refine ⟨?_, Or.inl ⟨by rfl, ?_⟩, ?_⟩; rotate_left; (focus (intro W; go_simp; try with_reducible rfl))) | refine ⟨undef, Or.inr ⟨by rfl, rfl⟩, ?_⟩); go_simp; refine hK _ ?_; clear hK K)
          (refine pure_step (fun K hK => ?_); (first | (refine ⟨?_, Or.inl ⟨by rfl, ?_⟩, ?_⟩; rotate_left; (focus (intro W; go_simp; try with_reducible rfl))) | refine ⟨undef, Or.inr ⟨by rfl, rfl⟩, ?_⟩); go_simp; refine hK _ ?_; clear hK K)
          (refine pure_step (fun K hK => ?_); (first | (refine ⟨?_, Or.inl ⟨by rfl, ?_⟩, ?_⟩; rotate_left; (focus (intro W; go_simp; try with_reducible rfl))) | refine ⟨undef, Or.inr ⟨by rfl, rfl⟩, ?_⟩); go_simp; refine hK _ ?_; clear hK K)
          (refine pure_step (fun K hK => ?_); (first | (refine ⟨?_, Or.inl ⟨by rfl, ?_⟩, ?_⟩; rotate_left; (focus (intro W; go_simp; try with_reducible rfl))) | refine ⟨undef, Or.inr ⟨by rfl, rfl⟩, ?_⟩); go_simp; refine hK _ ?_; clear hK K)
          (refine pure_step (fun K hK => ?_); (first | (refine ⟨?_, Or.inl ⟨by rfl, ?_⟩, ?_⟩; rotate_left; (focus (intro W; go_simp; try with_reducible rfl))) | refine ⟨undef, Or.inr ⟨by rfl, rfl⟩, ?_⟩); go_simp; refine hK _ ?_; clear hK K)
          (refine pure_step (fun K hK => ?_); (first | (refine ⟨?_, Or.inl ⟨by rfl, ?_⟩, ?_⟩; rotate_left; (focus (intro W; go_simp; try with_reducible rfl))) | refine ⟨undef, Or.inr ⟨by rfl, rfl⟩, ?_⟩); go_simp; refine hK _ ?_; clear hK K)
          (refine pure_step (fun K hK => ?_); (first | (refine ⟨?_, Or.inl ⟨by rfl, ?_⟩, ?_⟩; rotate_left; (focus (intro W; go_simp; try with_reducible rfl))) | refine ⟨undef, Or.inr ⟨by rfl, rfl⟩, ?_⟩); go_simp; refine hK _ ?_; clear hK K)
          (refine pure_step (fun K hK => ?_); (first | (refine ⟨?_, Or.inl ⟨by rfl, ?_⟩, ?_⟩; rotate_left; (focus (intro W; go_simp; try with_reducible rfl))) | refine ⟨undef, Or.inr ⟨by rfl, rfl⟩, ?_⟩); go_simp; refine hK _ ?_; clear hK K)
          refine pure_nil ?_
          refine wpAny_ready (rs := [0, 25]) (by kernel_rfl) (by simp) ?_
          refine AllReady.cons rfl (fun K hK => ?_) (AllReady.cons rfl (fun K hK => ?_) AllReady.nil)
          · go_simp
            refine hK _ _ ?_
            clear hK K
            refine wpAny_ready (rs := [25]) (by kernel_rfl) (by simp) ?_
            refine AllReady.cons rfl (fun K hK => ?_) AllReady.nil
            go_simp
            go_wp2_with (go_at_call 41; refine (hl2 _).mono ?_; rintro e w' ⟨rfl, rfl⟩)
            refine wpAny_pures 3 26 3 (by kernel_rfl) (by kernel_rfl) (by kernel_rfl) (fun _ _ _ _ _ h => h) ?_
            simp only [List.drop_succ_cons, List.drop_zero, List.take_succ_cons, List.take_zero]
            (refine pure_step (fun K hK => ?_); (first | (refine ⟨?_, Or.inl ⟨by rfl, ?_⟩, ?_⟩; rotate_left; (focus (intro W; go_simp; try with_reducible rfl))) | refine ⟨undef, Or.inr ⟨by rfl, rfl⟩, ?_⟩); go_simp; refine hK _ ?_; clear hK K)
            (refine pure_step (fun K hK => ?_); (first | (refine ⟨?_, Or.inl ⟨by rfl, ?_⟩, ?_⟩; rotate_left; (focus (intro W; go_simp; try with_reducible rfl))) | refine ⟨undef, Or.inr ⟨by rfl, rfl⟩, ?_⟩); go_simp; refine hK _ ?_; clear hK K)
            (refine pure_step (fun K hK => ?_); (first | (refine ⟨?_, Or.inl ⟨by rfl, ?_⟩, ?_⟩; rotate_left; (focus (intro W; go_simp; try with_reducible rfl))) | refine ⟨undef, Or.inr ⟨by rfl, rfl⟩, ?_⟩); go_simp; refine hK _ ?_; clear hK K)
            refine pure_nil ?_
            refine wpAny_tailL 29 3 (by kernel_rfl) (by kernel_rfl) ?_
            simp only [List.drop_succ_cons, List.drop_zero, List.take_succ_cons, List.take_zero]
            go_wp2_with fail
            refine bodyPost_ret (results_cell_tmp2_row (cs := #[.int .i64 4, .int .i64 (k : Int), .string ⟨#[]⟩, .int .u64 0, .int .u64 0, .int .u64 0, .int .u64 0, .int .i64 (n : Int)]) (by rfl) _ _ w.heap.size 35 _ _ _ (by rfl) (by rfl) (by rfl) (by apply Blk.eq; (focus (repeat (first | with_reducible exact S0.out.2.1 | with_reducible apply Blk.drew | with_reducible apply Blk.set_ | (apply Blk.far _ (by simp); rotate_left)))); simp) Tryz.underlying35 (by rfl) (by kernel_rfl)) rfl ?_
            refine WordR.bool (v := ⟨4, [], 0, (n : Int)⟩) (n := i - k) HW.out ?_ (by omega) (by repeat (first | with_reducible exact S0.out.2.2 | with_reducible refine Below.drew ?_ | refine Below.setCell ?_ (by simp) _))
            simp [wdV, wdC, wd_zero]
          · go_simp
            go_wp2_with (go_at_call 41; refine (hl2 _).mono ?_; rintro e w' ⟨rfl, rfl⟩)
            refine wpAny_pures 3 26 4 (by kernel_rfl) (by kernel_rfl) (by kernel_rfl) (fun _ _ _ _ _ h => h) ?_
            simp only [List.drop_succ_cons, List.drop_zero, List.take_succ_cons, List.take_zero]
            (refine pure_step (fun K hK => ?_); (first | (refine ⟨?_, Or.inl ⟨by rfl, ?_⟩, ?_⟩; rotate_left; (focus (intro W; go_simp; try with_reducible rfl))) | refine ⟨undef, Or.inr ⟨by rfl, rfl⟩, ?_⟩); go_simp; refine hK _ ?_; clear hK K)
            (refine pure_step (fun K hK => ?_); (first | (refine ⟨?_, Or.inl ⟨by rfl, ?_⟩, ?_⟩; rotate_left; (focus (intro W; go_simp; try with_reducible rfl))) | refine ⟨undef, Or.inr ⟨by rfl, rfl⟩, ?_⟩); go_simp; refine hK _ ?_; clear hK K)
            (refine pure_step (fun K hK => ?_); (first | (refine ⟨?_, Or.inl ⟨by rfl, ?_⟩, ?_⟩; rotate_left; (focus (intro W; go_simp; try with_reducible rfl))) | refine ⟨undef, Or.inr ⟨by rfl, rfl⟩, ?_⟩); go_simp; refine hK _ ?_; clear hK K)
            refine pure_nil ?_
            refine wpAny_ready (rs := [0]) (by kernel_rfl) (by simp) ?_
            refine AllReady.cons rfl (fun K hK => ?_) AllReady.nil
            go_simp
            refine hK _ _ ?_
            clear hK K
            refine wpAny_tailL 29 3 (by kernel_rfl) (by kernel_rfl) ?_
            simp only [List.drop_succ_cons, List.drop_zero, List.take_succ_cons, List.take_zero]
            go_wp2_with fail
            refine bodyPost_ret (results_cell_tmp2_row (cs := #[.int .i64 4, .int .i64 (k : Int), .string ⟨#[]⟩, .int .u64 0, .int .u64 0, .int .u64 0, .int .u64 0, .int .i64 (n : Int)]) (by rfl) _ _ w.heap.size 35 _ _ _ (by rfl) (by rfl) (by rfl) (by apply Blk.eq; (focus (repeat (first | with_reducible exact S0.out.2.1 | with_reducible apply Blk.drew | with_reducible apply Blk.set_ | (apply Blk.far _ (by simp); rotate_left)))); simp) Tryz.underlying35 (by rfl) (by kernel_rfl)) rfl ?_
            refine WordR.bool (v := ⟨4, [], 0, (n : Int)⟩) (n := i - k) HW.out ?_ (by omega) (by repeat (first | with_reducible exact S0.out.2.2 | with_reducible refine Below.drew ?_ | refine Below.setCell ?_ (by simp) _))
            simp [wdV, wdC, wd_zero]
        · have gk : ((i : Int) == (k : Int) + 1) = false := by simp; omega
          have HW := Lib.hid (show wordF (s.data.toList.drop k) = none by
            cases hl : letterB (d.toNat : Int) with
            | true => exact N.out.1 hlt2 (by rw [hd]; exact hl)
            | false => rw [N.out.2 (fun h => by rw [hd]; exact hl), if_neg (fun h => h.2.elim (fun x => x H48.out) hik)])
          clear N
          go_wp2_with (go_at_call 42; refine (hd2 _).mono ?_; rintro e w' ⟨rfl, rfl⟩)
          go_region
          all_goals
            go_wp2_with fail
            refine bodyPost_ret (results_cell_tmp2_row (cs := #[.int .i64 4, .int .i64 (k : Int), .string ⟨#[]⟩, .int .u64 0, .int .u64 0, .int .u64 0, .int .u64 0, .int .i64 (n : Int)]) (by rfl) _ _ w.heap.size 35 _ _ _ (by rfl) (by rfl) (by rfl) (by apply Blk.eq; (focus (repeat (first | with_reducible exact S0.out.2.1 | with_reducible apply Blk.drew | with_reducible apply Blk.set_ | (apply Blk.far _ (by simp); rotate_left)))); simp) Tryz.underlying35 (by rfl) (by kernel_rfl)) rfl ?_
            refine WordR.no HW.out (v := ⟨4, [], 0, (n : Int)⟩) ?_ (by repeat (first | with_reducible exact S0.out.2.2 | with_reducible refine Below.drew ?_ | refine Below.setCell ?_ (by simp) _))
            simp [wdV, wdC, wd_zero]
    · obtain rfl : i = s.size := by omega
      have hke : dw s k = s.size - k := by have := A.out.2.1; rw [dw_end] at this; simpa using this
      have hki2 : k < s.size := hk
      have N := Lib.hid (HC.out.1 s.size hki2 hi hke n A.out.2.2)
      clear HC A
      by_cases hik : s.size = k + 1
      · have HIK := Lib.hid hik
        have g9 : (s.size : Int) - (k : Int) ≤ 9 := by omega
        have gk : ((s.size : Int) == (k : Int) + 1) = true := by simp; omega
        clear hik
        have HW := Lib.hid (show wordF (s.data.toList.drop k) = some (⟨4, [], 0, (n : Int)⟩, s.size - k) by
          rw [N.out.2 (fun h => absurd h (Nat.lt_irrefl _)), if_pos ⟨by have := HIK.out; omega, .inr HIK.out⟩])
        clear N
        go_wp2_with fail
        go_region
        all_goals
          go_wp2_with fail
          refine bodyPost_ret (results_cell_tmp2_row (cs := #[.int .i64 4, .int .i64 (k : Int), .string ⟨#[]⟩, .int .u64 0, .int .u64 0, .int .u64 0, .int .u64 0, .int .i64 (n : Int)]) (by rfl) _ _ w.heap.size 35 _ _ _ (by rfl) (by rfl) (by rfl) (by apply Blk.eq; (focus (repeat (first | with_reducible exact S0.out.2.1 | with_reducible apply Blk.drew | with_reducible apply Blk.set_ | (apply Blk.far _ (by simp); rotate_left)))); simp) Tryz.underlying35 (by rfl) (by kernel_rfl)) rfl ?_
          refine WordR.yes (v := ⟨4, [], 0, (n : Int)⟩) (n := s.size - k) HW.out ?_ (by omega) (by repeat (first | with_reducible exact S0.out.2.2 | with_reducible refine Below.drew ?_ | refine Below.setCell ?_ (by simp) _))
          simp [wdV, wdC, wd_zero]
      · have gk : ((s.size : Int) == (k : Int) + 1) = false := by simp; omega
        have HW := Lib.hid (show wordF (s.data.toList.drop k) = none by
          rw [N.out.2 (fun h => absurd h (Nat.lt_irrefl _)), if_neg (fun h => h.2.elim (fun x => x H48.out) hik)])
        clear N
        go_wp2_with fail
        go_region
        all_goals
          go_wp2_with fail
          refine bodyPost_ret (results_cell_tmp2_row (cs := #[.int .i64 4, .int .i64 (k : Int), .string ⟨#[]⟩, .int .u64 0, .int .u64 0, .int .u64 0, .int .u64 0, .int .i64 (n : Int)]) (by rfl) _ _ w.heap.size 35 _ _ _ (by rfl) (by rfl) (by rfl) (by apply Blk.eq; (focus (repeat (first | with_reducible exact S0.out.2.1 | with_reducible apply Blk.drew | with_reducible apply Blk.set_ | (apply Blk.far _ (by simp); rotate_left)))); simp) Tryz.underlying35 (by rfl) (by kernel_rfl)) rfl ?_
          refine WordR.no HW.out (v := ⟨4, [], 0, (n : Int)⟩) ?_ (by repeat (first | with_reducible exact S0.out.2.2 | with_reducible refine Below.drew ?_ | refine Below.setCell ?_ (by simp) _))
          simp [wdV, wdC, wd_zero]
end Go.Proofs.YtacgnbelcpmjfaaGreatDoor.Dx
