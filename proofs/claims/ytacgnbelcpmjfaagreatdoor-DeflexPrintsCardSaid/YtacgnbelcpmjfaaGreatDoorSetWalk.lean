/-
  WALKS of the reader: set.
-/
import Derived.Test.YtacgnbelcpmjfaaGreatDoorLaws
set_option linter.unusedVariables false
set_option linter.unusedSimpArgs false
namespace Go.Proofs.YtacgnbelcpmjfaaGreatDoor.Dx
open Go.RowKit Go.Proofs Mx

def SetOut (s : ByteArray) (k g : Nat) (w : World) : Option (Nat × Nat) → Ending → World → Prop
  | some (M, n), e, w' => e = .returned (.tuple #[setV M, .bool true]) ∧ Rd w' g s (k + n) ∧ w.grownBy w' (some g)
  | none, e, w' => e = .returned (.tuple #[setV 0, .bool false]) ∧ w.grownBy w' (some g)

theorem grown_new {a w : World} {row : Option Nat} (h : a.grownBy w row) {p : Addr} (hp : a.heap.size ≤ p.block) (u : Value) : a.grownBy (w.setCell p u) row :=
  ⟨h.os, h.tape, h.output, by simpa [World.setCell] using h.size, fun i hi hne => (Below.heap_setCell w p u i (by rintro rfl; omega)).trans (h.block i hi hne)⟩
theorem sread_one (t : ByteArray) (ht : t.size ≤ 400000000) : ∃ (M : Nat) (c : Int), (∀ w, Calls Tryz.prog 88 #[.string t] w fun e w' => e = .returned (.tuple #[.agg #[.int .u64 (wd M 0), .int .u64 (wd M 1), .int .u64 (wd M 2), .int .u64 (wd M 3)], .int .i64 c]) ∧ Below w.heap.size w w') ∧
    ((readF t.data.toList = some M ∧ c = 0) ∨ (readF t.data.toList = none ∧ M = 0 ∧ c = 120)) := by
  cases h : readF t.data.toList with
  | none =>
    refine ⟨0, 120, fun w => (sread_any t ht w).mono ?_, .inr ⟨rfl, rfl, rfl⟩⟩
    rintro e w' ⟨he, hb⟩
    rw [h] at he
    exact ⟨he, hb⟩
  | some M =>
    refine ⟨M, 0, fun w => (sread_any t ht w).mono ?_, .inl ⟨rfl, rfl⟩⟩
    rintro e w' ⟨he, hb⟩
    rw [h] at he
    exact ⟨he, hb⟩
theorem keepS {W w4 : World} {g : Nat} {a b : Value} (hb : Below W.heap.size W w4) (hg : g < W.heap.size)
    (h : W.cell? ⟨g, 0, none⟩ = some a ∧ W.cell? ⟨g, 1, none⟩ = some b) : w4.cell? ⟨g, 0, none⟩ = some a ∧ w4.cell? ⟨g, 1, none⟩ = some b :=
  ⟨(hb.cell (p := ⟨g, 0, none⟩) hg).trans h.1, (hb.cell (p := ⟨g, 1, none⟩) hg).trans h.2⟩
set_option maxRecDepth 100000 in
set_option maxHeartbeats 2000000 in
theorem rset_any (g : Nat) (s : ByteArray) (k : Nat) (w : World) (hs : s.size ≤ 400000000) (hk : k < s.size) (hR : Rd w g s k) :
    Calls Tryz.prog 74 #[.pointer (some ⟨g, 0, none⟩)] w (SetOut s k g w (setF (s.data.toList.drop k))) := by
  have hgw : g < w.heap.size := hR.lt
  have hR1 := hR.alloc (.cells #[.int .u64 0, .int .u64 0, .int .u64 0, .int .u64 0] 33)
  have hB1 : Blk (w.alloc (.cells #[.int .u64 0, .int .u64 0, .int .u64 0, .int .u64 0] 33)) w.heap.size 33 (setC 0) := Blk.new_ rfl _ _
  have hG1 : w.grownBy (w.alloc (.cells #[.int .u64 0, .int .u64 0, .int .u64 0, .int .u64 0] 33)) (some g) := grown_alloc (grown_refl _ _) _
  obtain ⟨w1, hw1⟩ : ∃ w1, w.alloc (.cells #[.int .u64 0, .int .u64 0, .int .u64 0, .int .u64 0] 33) = w1 := ⟨_, rfl⟩
  rw [hw1] at hR1 hB1 hG1
  obtain ⟨c0, c1, cf⟩ := hR1.facts2
  have H1 := Lib.hid (And.intro hR1 (And.intro hB1 hG1))
  clear hR1 hB1 hG1
  obtain ⟨T, hT⟩ : ∃ T, scanB (s.data.toList.drop k) = T := ⟨_, rfl⟩
  rw [setF, hT]
  go_enter Tryz.func74, Tryz.ntmps74
  go_wp2_with fail
  go_step3
  go_wp2_with fail
  go_step3
  go_wp2_with fail
  go_loopg [] (s.size - k) (fun m wr => ∃ i : Nat, k ≤ i ∧ m = s.size - i ∧ Rd wr g s i ∧ Blk wr w.heap.size 33 (setC 0) ∧ w.grownBy wr (some g) ∧ T = (scanB (s.data.toList.drop i)).map (· + (i - k)))
  case atStart => exact ⟨k, Nat.le_refl _, rfl, H1.out.1, H1.out.2.1, H1.out.2.2, by rw [hT]; cases T <;> simp⟩
  case round =>
    obtain ⟨i, hki, hm, hRi, hBi, hGi, hrel⟩ := hrel
    have A := Lib.hid (And.intro hm (And.intro hRi (And.intro hBi (And.intro hGi (And.intro hrel hki)))))
    clear c0 c1 cf hT
    obtain ⟨c0, c1, cf⟩ := hRi.facts2
    clear hm hRi hBi hGi hrel hki hR
    by_cases hlt : i < s.size
    · obtain ⟨c, hc⟩ : ∃ c, s[i] = c := ⟨_, rfl⟩
      have HD := Lib.hid (drop_cons s i hlt)
      rw [hc] at HD
      have hx0 : (0 : Int) ≤ (i : Int) := by omega
      have hx1 : (i : Int) < (s.size : Int) := by omega
      by_cases h92 : c = 92
      · subst h92
        have hcx : ((92 : UInt8).toNat : Int) = 92 := rfl
        have hT : T = (scanB (s.data.toList.drop (i + 2))).map (· + (i + 2 - k)) := by
          have := A.out.2.2.2.2.2
          rw [A.out.2.2.2.2.1, HD.out, scanB_esc, List.drop_drop, Option.map_map]
          congr 1
          funext x
          simp
          omega
        have HT := Lib.hid hT
        clear hT
        go_wp2_with fail
        go_quiet (fail)
        go_wp2_with fail
        go_quiet (fail)
        go_wp2_with fail
        go_roundg (s.size - (i + 2))
        case measure => have := A.out.1; omega
        case rel =>
          have := A.out.2.2.2.2.2
          refine ⟨i + 2, by omega, rfl, ?_, ?_, ?_, HT.out⟩
          · exact Rd.at_ (Rd.at_ (j := i + 1) (A.out.2.1.drewN _) (by omega)) (by omega)
          · exact ((A.out.2.2.1.drewN _).far (p := ⟨g, 1, none⟩) (by simp; omega) _).far (p := ⟨g, 1, none⟩) (by simp; omega) _
          · exact grown_set (grown_set (grown_drewN A.out.2.2.2.1 _) rfl _) rfl _
      have n92 : ¬ (c.toNat : Int) = 92 := u8_ne h92
      by_cases h93 : c = 93
      · subst h93
        have hcx : ((93 : UInt8).toNat : Int) = 93 := rfl
        go_wp2_with fail
        go_quiet (fail)
        go_wp2_with fail
        go_quiet (fail)
        have hd2 : decide ((s.size : Int) ≤ (i : Int)) = false := by simp; omega
        go_wp2_with fail
        go_quiet (fail)
        go_wp2_with fail
        have key : ∀ q, Rd ((wr.drewN q).setCell ⟨g, 1, none⟩ (.int .i64 ((i : Int) + 1))) g s (i + 1) ∧ Blk ((wr.drewN q).setCell ⟨g, 1, none⟩ (.int .i64 ((i : Int) + 1))) w.heap.size 33 (setC 0) ∧ w.grownBy ((wr.drewN q).setCell ⟨g, 1, none⟩ (.int .i64 ((i : Int) + 1))) (some g) := fun q =>
          ⟨Rd.at_ (A.out.2.1.drewN q) (by omega), (A.out.2.2.1.drewN q).far (p := ⟨g, 1, none⟩) (by simp; omega) _, grown_set (grown_drewN A.out.2.2.2.1 q) rfl _⟩
        generalize hW2 : (wr.drewN _).setCell ⟨g, 1, none⟩ (.int .i64 ((i : Int) + 1)) = W2
        have kq : Rd W2 g s (i + 1) ∧ Blk W2 w.heap.size 33 (setC 0) ∧ w.grownBy W2 (some g) := by rw [← hW2]; exact key _
        clear hW2 key c0 c1 cf
        obtain ⟨d0, d1, df⟩ := kq.1.facts2
        have hk0 : (0 : Int) ≤ (k : Int) := by omega
        obtain ⟨j, hj⟩ : ∃ j : Int, ((i + 1 : Nat) : Int) = j := ⟨_, rfl⟩
        have hk1 : (k : Int) ≤ j := by have := A.out.2.2.2.2.2; omega
        have hk2 : j ≤ (s.size : Int) := by omega
        obtain ⟨t, ht⟩ : ∃ t, s.extract k (i + 1) = t := ⟨_, rfl⟩
        have hte : s.extract k j.toNat = t := by rw [← ht, ← hj]; congr 1
        have htz : t.size ≤ 400000000 := by rw [← ht]; simp; omega
        obtain ⟨M, cd, hrd, hrv⟩ := sread_one t htz
        have HRS := Lib.hid hrd
        have HJ := Lib.hid (And.intro hj (And.intro ht hrv))
        rw [hj] at d1
        have KQ := Lib.hid kq
        have hgW : g < W2.heap.size := kq.1.lt
        have n0 := World.new_ne W2 _ d0
        have n1 := World.new_ne W2 _ d1
        clear ht hj htz kq hrd hrv
        go_region_held3 (fun W => W.cell? ⟨g, 0, none⟩ = some (.string s) ∧ W.cell? ⟨g, 1, none⟩ = some (.int .i64 j)) (first | assumption | go_keep)
          (first
            | (go_at_call 88; refine (HRS.out _).mono ?_; rintro e w4 ⟨rfl, hb4⟩; obtain ⟨q0, q1⟩ := keepS (g := g) (a := .string s) (b := .int .i64 j) hb4 (by first | exact hgW | exact Nat.lt_succ_of_lt hgW | (simp; omega)) (by first | assumption | exact ⟨by assumption, by assumption⟩); obtain ⟨z0, z1, z2, z3, zf⟩ := ((Blk.new W2 33 #[.int .u64 0, .int .u64 0, .int .u64 0, .int .u64 0]).drew.below hb4 (by simp)).facts4)
            | (go_at_call 88; refine (HRS.out _).mono ?_; rintro e w4 ⟨rfl, hb4⟩; obtain ⟨q0, q1⟩ := keepS (g := g) (a := .string s) (b := .int .i64 j) hb4 (by first | exact hgW | exact Nat.lt_succ_of_lt hgW | (simp; omega)) (by first | assumption | exact ⟨by assumption, by assumption⟩)))
        · have SUM : Blk (w4.alloc (.cells #[.int .u64 (wd M 0), .int .u64 (wd M 1), .int .u64 (wd M 2), .int .u64 (wd M 3)] 33)) w4.heap.size 33 (setC M) ∧ Blk (w4.alloc (.cells #[.int .u64 (wd M 0), .int .u64 (wd M 1), .int .u64 (wd M 2), .int .u64 (wd M 3)] 33)) w.heap.size 33 (setC 0) ∧ Rd (w4.alloc (.cells #[.int .u64 (wd M 0), .int .u64 (wd M 1), .int .u64 (wd M 2), .int .u64 (wd M 3)] 33)) g s (i + 1) ∧ w.grownBy (w4.alloc (.cells #[.int .u64 (wd M 0), .int .u64 (wd M 1), .int .u64 (wd M 2), .int .u64 (wd M 3)] 33)) (some g) ∧ w.heap.size < w4.heap.size := by
            have hne : w.heap.size < W2.heap.size := KQ.out.2.1.lt
            have hsz := hb4.size
            simp at hsz
            have hs4 := (KQ.out.2.1.drew.below hb4 hne)
            have hr4 := (KQ.out.1.drew.below hb4 hgW)
            have hg4 := grown_below (grown_drewN KQ.out.2.2 1) hb4
            exact ⟨Blk.new w4 _ _, hs4.alloc _, hr4.alloc _, grown_alloc hg4 _, by omega⟩
          clear q0 q1 d0 d1 df n0 n1
          generalize w4.alloc (.cells #[.int .u64 (wd M 0), .int .u64 (wd M 1), .int .u64 (wd M 2), .int .u64 (wd M 3)] 33) = W5 at SUM ⊢
          obtain ⟨z, hz⟩ : ∃ z, w4.heap.size = z := ⟨_, rfl⟩
          rw [hz] at SUM ⊢
          have S := Lib.hid SUM
          obtain ⟨y0, y1, y2, y3, yf⟩ := Blk.facts4 (v0 := .int .u64 (wd M 0)) (v1 := .int .u64 (wd M 1)) (v2 := .int .u64 (wd M 2)) (v3 := .int .u64 (wd M 3)) SUM.1
          obtain ⟨x0, x1, x2, x3, xf⟩ := SUM.2.1.facts4
          clear SUM hz
          rcases HJ.out.2.2 with ⟨hrd, hcd⟩ | ⟨hrd, hM0, hcd⟩
          · subst hcd
            have HD2 := Lib.hid hrd
            clear hrd
            go_wp2_with fail
            try rw [Exit.noGoto_ret]
            have hbk := ((((S.out.2.1.set_ 0 (.int .u64 (wd M 0))).set_ 1 (.int .u64 (wd M 1))).set_ 2 (.int .u64 (wd M 2))).set_ 3 (.int .u64 (wd M 3)))
            refine bodyPost_ret (results_cell_tmp_row (by rfl) _ _ w.heap.size 33 _ _ _ (by rfl) (by rfl) hbk Tryz.underlying33 (by rfl) (by kernel_rfl)) rfl ?_
            have hT : T = some (i - k) := by rw [A.out.2.2.2.2.1, HD.out, scanB_end]; simp
            have htl : ((s.data.toList.drop k).take (i - k + 1)) = t.data.toList := by
              rw [← HJ.out.2.1, ByteArray.data_extract, Array.toList_extract, List.extract_eq_take_drop]
              have := A.out.2.2.2.2.2
              congr 1; omega
            rw [hT]
            simp only [Option.bind_some]
            rw [htl, HD2.out]
            refine ⟨rfl, ?_, ?_⟩
            · have := A.out.2.2.2.2.2
              rw [show k + (i - k + 1) = i + 1 by omega]
              exact (((S.out.2.2.1.far (p := ⟨w.heap.size, 0, none⟩) (by simp; omega) _).far (p := ⟨w.heap.size, 1, none⟩) (by simp; omega) _).far (p := ⟨w.heap.size, 2, none⟩) (by simp; omega) _).far (p := ⟨w.heap.size, 3, none⟩) (by simp; omega) _
            · refine grown_new (grown_new (grown_new (grown_new S.out.2.2.2.1 ?_ _) ?_ _) ?_ _) ?_ _ <;> simp
          · subst hcd
            subst hM0
            have HD2 := Lib.hid hrd
            clear hrd
            go_wp2_with fail
            try rw [Exit.noGoto_ret]
            have hbk := ((((S.out.2.1.set_ 0 (.int .u64 (wd 0 0))).set_ 1 (.int .u64 (wd 0 1))).set_ 2 (.int .u64 (wd 0 2))).set_ 3 (.int .u64 (wd 0 3)))
            refine bodyPost_ret (results_cell_tmp_row (by rfl) _ _ w.heap.size 33 _ _ _ (by rfl) (by rfl) hbk Tryz.underlying33 (by rfl) (by kernel_rfl)) rfl ?_
            have hT : T = some (i - k) := by rw [A.out.2.2.2.2.1, HD.out, scanB_end]; simp
            have htl : ((s.data.toList.drop k).take (i - k + 1)) = t.data.toList := by
              rw [← HJ.out.2.1, ByteArray.data_extract, Array.toList_extract, List.extract_eq_take_drop]
              have := A.out.2.2.2.2.2
              congr 1; omega
            rw [hT]
            simp only [Option.bind_some]
            rw [htl, HD2.out]
            refine ⟨rfl, ?_⟩
            refine grown_new (grown_new (grown_new (grown_new S.out.2.2.2.1 ?_ _) ?_ _) ?_ _) ?_ _ <;> simp
        · have SUM : Blk ((((w4.setCell ⟨W2.heap.size, 0, none⟩ (.int .u64 (wd M 0))).setCell ⟨W2.heap.size, 1, none⟩ (.int .u64 (wd M 1))).setCell ⟨W2.heap.size, 2, none⟩ (.int .u64 (wd M 2))).setCell ⟨W2.heap.size, 3, none⟩ (.int .u64 (wd M 3))) W2.heap.size 33 (setC M) ∧ Blk ((((w4.setCell ⟨W2.heap.size, 0, none⟩ (.int .u64 (wd M 0))).setCell ⟨W2.heap.size, 1, none⟩ (.int .u64 (wd M 1))).setCell ⟨W2.heap.size, 2, none⟩ (.int .u64 (wd M 2))).setCell ⟨W2.heap.size, 3, none⟩ (.int .u64 (wd M 3))) w.heap.size 33 (setC 0) ∧ Rd ((((w4.setCell ⟨W2.heap.size, 0, none⟩ (.int .u64 (wd M 0))).setCell ⟨W2.heap.size, 1, none⟩ (.int .u64 (wd M 1))).setCell ⟨W2.heap.size, 2, none⟩ (.int .u64 (wd M 2))).setCell ⟨W2.heap.size, 3, none⟩ (.int .u64 (wd M 3))) g s (i + 1) ∧ w.grownBy ((((w4.setCell ⟨W2.heap.size, 0, none⟩ (.int .u64 (wd M 0))).setCell ⟨W2.heap.size, 1, none⟩ (.int .u64 (wd M 1))).setCell ⟨W2.heap.size, 2, none⟩ (.int .u64 (wd M 2))).setCell ⟨W2.heap.size, 3, none⟩ (.int .u64 (wd M 3))) (some g) ∧ w.heap.size < W2.heap.size := by
            have hne : w.heap.size < W2.heap.size := KQ.out.2.1.lt
            have hz4 := (Blk.new W2 33 #[.int .u64 0, .int .u64 0, .int .u64 0, .int .u64 0]).drew.below hb4 (by simp)
            have hs4 := (KQ.out.2.1.alloc (.cells #[.int .u64 0, .int .u64 0, .int .u64 0, .int .u64 0] 33)).drew.below hb4 (by simp; omega)
            have hr4 := (KQ.out.1.alloc (.cells #[.int .u64 0, .int .u64 0, .int .u64 0, .int .u64 0] 33)).drew.below hb4 (by simp; omega)
            have hg4 := grown_below (grown_drewN (grown_alloc KQ.out.2.2 (.cells #[.int .u64 0, .int .u64 0, .int .u64 0, .int .u64 0] 33)) 1) hb4
            refine ⟨((((hz4.set_ 0 _).set_ 1 _).set_ 2 _).set_ 3 _), ?_, ?_, ?_, hne⟩
            · exact (((hs4.far (p := ⟨W2.heap.size, 0, none⟩) (by simp; omega) _).far (p := ⟨W2.heap.size, 1, none⟩) (by simp; omega) _).far (p := ⟨W2.heap.size, 2, none⟩) (by simp; omega) _).far (p := ⟨W2.heap.size, 3, none⟩) (by simp; omega) _
            · exact (((hr4.far (p := ⟨W2.heap.size, 0, none⟩) (by simp; omega) _).far (p := ⟨W2.heap.size, 1, none⟩) (by simp; omega) _).far (p := ⟨W2.heap.size, 2, none⟩) (by simp; omega) _).far (p := ⟨W2.heap.size, 3, none⟩) (by simp; omega) _
            · refine grown_new (grown_new (grown_new (grown_new hg4 ?_ _) ?_ _) ?_ _) ?_ _ <;> simp <;> omega
          clear q0 q1 d0 d1 df n0 n1
          generalize (((w4.setCell ⟨W2.heap.size, 0, none⟩ (.int .u64 (wd M 0))).setCell ⟨W2.heap.size, 1, none⟩ (.int .u64 (wd M 1))).setCell ⟨W2.heap.size, 2, none⟩ (.int .u64 (wd M 2))).setCell ⟨W2.heap.size, 3, none⟩ (.int .u64 (wd M 3)) = W5 at SUM ⊢
          obtain ⟨z, hz⟩ : ∃ z, W2.heap.size = z := ⟨_, rfl⟩
          rw [hz] at SUM ⊢
          have S := Lib.hid SUM
          obtain ⟨y0, y1, y2, y3, yf⟩ := Blk.facts4 (v0 := .int .u64 (wd M 0)) (v1 := .int .u64 (wd M 1)) (v2 := .int .u64 (wd M 2)) (v3 := .int .u64 (wd M 3)) SUM.1
          obtain ⟨x0, x1, x2, x3, xf⟩ := SUM.2.1.facts4
          clear SUM hz
          rcases HJ.out.2.2 with ⟨hrd, hcd⟩ | ⟨hrd, hM0, hcd⟩
          · subst hcd
            have HD2 := Lib.hid hrd
            clear hrd
            go_wp2_with fail
            try rw [Exit.noGoto_ret]
            have hbk := ((((S.out.2.1.set_ 0 (.int .u64 (wd M 0))).set_ 1 (.int .u64 (wd M 1))).set_ 2 (.int .u64 (wd M 2))).set_ 3 (.int .u64 (wd M 3)))
            refine bodyPost_ret (results_cell_tmp_row (by rfl) _ _ w.heap.size 33 _ _ _ (by rfl) (by rfl) hbk Tryz.underlying33 (by rfl) (by kernel_rfl)) rfl ?_
            have hT : T = some (i - k) := by rw [A.out.2.2.2.2.1, HD.out, scanB_end]; simp
            have htl : ((s.data.toList.drop k).take (i - k + 1)) = t.data.toList := by
              rw [← HJ.out.2.1, ByteArray.data_extract, Array.toList_extract, List.extract_eq_take_drop]
              have := A.out.2.2.2.2.2
              congr 1; omega
            rw [hT]
            simp only [Option.bind_some]
            rw [htl, HD2.out]
            refine ⟨rfl, ?_, ?_⟩
            · have := A.out.2.2.2.2.2
              rw [show k + (i - k + 1) = i + 1 by omega]
              exact (((S.out.2.2.1.far (p := ⟨w.heap.size, 0, none⟩) (by simp; omega) _).far (p := ⟨w.heap.size, 1, none⟩) (by simp; omega) _).far (p := ⟨w.heap.size, 2, none⟩) (by simp; omega) _).far (p := ⟨w.heap.size, 3, none⟩) (by simp; omega) _
            · refine grown_new (grown_new (grown_new (grown_new S.out.2.2.2.1 ?_ _) ?_ _) ?_ _) ?_ _ <;> simp
          · subst hcd
            subst hM0
            have HD2 := Lib.hid hrd
            clear hrd
            go_wp2_with fail
            try rw [Exit.noGoto_ret]
            have hbk := ((((S.out.2.1.set_ 0 (.int .u64 (wd 0 0))).set_ 1 (.int .u64 (wd 0 1))).set_ 2 (.int .u64 (wd 0 2))).set_ 3 (.int .u64 (wd 0 3)))
            refine bodyPost_ret (results_cell_tmp_row (by rfl) _ _ w.heap.size 33 _ _ _ (by rfl) (by rfl) hbk Tryz.underlying33 (by rfl) (by kernel_rfl)) rfl ?_
            have hT : T = some (i - k) := by rw [A.out.2.2.2.2.1, HD.out, scanB_end]; simp
            have htl : ((s.data.toList.drop k).take (i - k + 1)) = t.data.toList := by
              rw [← HJ.out.2.1, ByteArray.data_extract, Array.toList_extract, List.extract_eq_take_drop]
              have := A.out.2.2.2.2.2
              congr 1; omega
            rw [hT]
            simp only [Option.bind_some]
            rw [htl, HD2.out]
            refine ⟨rfl, ?_⟩
            refine grown_new (grown_new (grown_new (grown_new S.out.2.2.2.1 ?_ _) ?_ _) ?_ _) ?_ _ <;> simp
      · have n93 : ¬ (c.toNat : Int) = 93 := u8_ne h93
        have hT : T = (scanB (s.data.toList.drop (i + 1))).map (· + (i + 1 - k)) := by
          have := A.out.2.2.2.2.2
          rw [A.out.2.2.2.2.1, HD.out, scanB_other c _ h92 h93, Option.map_map]
          congr 1
          funext x
          simp
          omega
        have HT := Lib.hid hT
        clear hT h92 h93
        go_wp2_with fail
        go_quiet (fail)
        go_wp2_with fail
        go_quiet (fail)
        go_wp2_with fail
        go_roundg (s.size - (i + 1))
        case measure => have := A.out.1; omega
        case rel =>
          have := A.out.2.2.2.2.2
          refine ⟨i + 1, by omega, rfl, ?_, ?_, ?_, HT.out⟩
          · exact Rd.at_ (A.out.2.1.drewN _) (by omega)
          · exact (A.out.2.2.1.drewN _).far (p := ⟨g, 1, none⟩) (by simp; omega) _
          · exact grown_set (grown_drewN A.out.2.2.2.1 _) rfl _
    · have hd : decide ((i : Int) < (s.size : Int)) = false := by simp; omega
      have hd2 : decide ((s.size : Int) ≤ (i : Int)) = true := by simp; omega
      obtain ⟨b0, b1, b2, b3, bf⟩ := A.out.2.2.1.facts4
      go_wp2_with fail
      go_quiet (fail)
      go_wp2_with fail
      go_quiet (fail)
      go_wp2_with fail
      rw [Exit.noGoto_ret]
      have hbk := ((((A.out.2.2.1.set_ 0 (.int .u64 0)).set_ 1 (.int .u64 0)).set_ 2 (.int .u64 0)).set_ 3 (.int .u64 0))
      refine bodyPost_ret (results_cell_tmp_row (by rfl) _ _ w.heap.size 33 _ _ _ (by rfl) (by rfl) hbk Tryz.underlying33 (by rfl) (by kernel_rfl)) rfl ?_
      have hT : T = none := by rw [A.out.2.2.2.2.1, drop_all s i (by omega), scanB_nil]; rfl
      rw [hT]
      refine ⟨rfl, grown_new (grown_new (grown_new (grown_new (grown_drewN A.out.2.2.2.1 _) ?_ _) ?_ _) ?_ _) ?_ _⟩ <;> simp
end Go.Proofs.YtacgnbelcpmjfaaGreatDoor.Dx
