/-
  WALKS of the reader: word (a set; a number), and whatever begins there.
-/
import Derived.Test.YtacgnbelcpmjfaaGreatDoorWord1
import Derived.Test.YtacgnbelcpmjfaaGreatDoorSetWalk
set_option linter.unusedVariables false
set_option linter.unusedSimpArgs false
namespace Go.Proofs.YtacgnbelcpmjfaaGreatDoor.Dx
open Go.RowKit Go.Proofs Mx

set_option maxRecDepth 100000 in
set_option maxHeartbeats 2000000 in
theorem word_set (g : Nat) (s : ByteArray) (k : Nat) (w : World) (hs : s.size ≤ 400000000) (hk : k < s.size) (hR : Rd w g s k) (hc : classI (s[k].toNat : Int) = 4) :
    Calls Tryz.prog 58 #[.pointer (some ⟨g, 0, none⟩)] w (WordOut s k g w (wordF (s.data.toList.drop k))) := by
  have HD := Lib.hid (drop_cons s k hk)
  obtain ⟨b, hb⟩ : ∃ b, s[k] = b := ⟨_, rfl⟩
  rw [hb] at hc HD
  have hgw : g < w.heap.size := hR.lt
  obtain ⟨c0, c1, cf⟩ := hR.facts2
  have hx0 : (0 : Int) ≤ (k : Int) := by omega
  have hx1 : (k : Int) < (s.size : Int) := by omega
  have n1 : (classI (b.toNat : Int) == 1) = false := by rw [hc]; rfl
  have n2 : (classI (b.toNat : Int) == 2) = false := by rw [hc]; rfl
  have n3 : (classI (b.toNat : Int) == 3) = false := by rw [hc]; rfl
  have n4 : (classI (b.toNat : Int) == 4) = true := by rw [hc]; rfl
  have HC := Lib.hid hc
  clear hc
  have HB := Lib.hid (show ∀ n, Blk (((w.alloc (.cells #[.int .i64 0, .int .i64 0, .string ⟨#[]⟩, .int .u64 0, .int .u64 0, .int .u64 0, .int .u64 0, .int .i64 0] 35)).alloc (.cells #[.int .i64 0, .int .i64 (k : Int), .string ⟨#[]⟩, .int .u64 0, .int .u64 0, .int .u64 0, .int .u64 0, .int .i64 0] 35)).drewN n) (w.heap.size + 1) 35 #[.int .i64 0, .int .i64 (k : Int), .string ⟨#[]⟩, .int .u64 0, .int .u64 0, .int .u64 0, .int .u64 0, .int .i64 0] ∧ Blk (((w.alloc (.cells #[.int .i64 0, .int .i64 0, .string ⟨#[]⟩, .int .u64 0, .int .u64 0, .int .u64 0, .int .u64 0, .int .i64 0] 35)).alloc (.cells #[.int .i64 0, .int .i64 (k : Int), .string ⟨#[]⟩, .int .u64 0, .int .u64 0, .int .u64 0, .int .u64 0, .int .i64 0] 35)).drewN n) w.heap.size 35 zeroC ∧ Rd (((w.alloc (.cells #[.int .i64 0, .int .i64 0, .string ⟨#[]⟩, .int .u64 0, .int .u64 0, .int .u64 0, .int .u64 0, .int .i64 0] 35)).alloc (.cells #[.int .i64 0, .int .i64 (k : Int), .string ⟨#[]⟩, .int .u64 0, .int .u64 0, .int .u64 0, .int .u64 0, .int .i64 0] 35)).drewN n) g s k ∧ w.grownBy (((w.alloc (.cells #[.int .i64 0, .int .i64 0, .string ⟨#[]⟩, .int .u64 0, .int .u64 0, .int .u64 0, .int .u64 0, .int .i64 0] 35)).alloc (.cells #[.int .i64 0, .int .i64 (k : Int), .string ⟨#[]⟩, .int .u64 0, .int .u64 0, .int .u64 0, .int .u64 0, .int .i64 0] 35)).drewN n) (some g) from fun n =>
    ⟨(Blk.new_ (by simp) _ _).drewN n, ((Blk.new_ rfl _ _).alloc _).drewN n, ((hR.alloc _).alloc _).drewN n, grown_drewN (grown_alloc (grown_alloc (grown_refl _ _) _) _) n⟩)
  go_enter Tryz.func58, Tryz.ntmps58
  go_wp2_with fail
  go_quiet ((first | (go_at_call 37; refine (class_q b _).mono ?_; rintro e w' ⟨rfl, rfl⟩; exact ⟨rfl, _, rfl⟩)))
  go_wp2_with fail
  have key : ∀ q, Blk ((((w.alloc (.cells #[.int .i64 0, .int .i64 0, .string ⟨#[]⟩, .int .u64 0, .int .u64 0, .int .u64 0, .int .u64 0, .int .i64 0] 35)).alloc (.cells #[.int .i64 0, .int .i64 (k : Int), .string ⟨#[]⟩, .int .u64 0, .int .u64 0, .int .u64 0, .int .u64 0, .int .i64 0] 35)).drewN q).setCell ⟨w.heap.size + 1, 0, none⟩ (.int .i64 3)) (w.heap.size + 1) 35 #[.int .i64 3, .int .i64 (k : Int), .string ⟨#[]⟩, .int .u64 0, .int .u64 0, .int .u64 0, .int .u64 0, .int .i64 0] ∧ Blk ((((w.alloc (.cells #[.int .i64 0, .int .i64 0, .string ⟨#[]⟩, .int .u64 0, .int .u64 0, .int .u64 0, .int .u64 0, .int .i64 0] 35)).alloc (.cells #[.int .i64 0, .int .i64 (k : Int), .string ⟨#[]⟩, .int .u64 0, .int .u64 0, .int .u64 0, .int .u64 0, .int .i64 0] 35)).drewN q).setCell ⟨w.heap.size + 1, 0, none⟩ (.int .i64 3)) w.heap.size 35 zeroC ∧ Rd ((((w.alloc (.cells #[.int .i64 0, .int .i64 0, .string ⟨#[]⟩, .int .u64 0, .int .u64 0, .int .u64 0, .int .u64 0, .int .i64 0] 35)).alloc (.cells #[.int .i64 0, .int .i64 (k : Int), .string ⟨#[]⟩, .int .u64 0, .int .u64 0, .int .u64 0, .int .u64 0, .int .i64 0] 35)).drewN q).setCell ⟨w.heap.size + 1, 0, none⟩ (.int .i64 3)) g s k ∧ w.grownBy ((((w.alloc (.cells #[.int .i64 0, .int .i64 0, .string ⟨#[]⟩, .int .u64 0, .int .u64 0, .int .u64 0, .int .u64 0, .int .i64 0] 35)).alloc (.cells #[.int .i64 0, .int .i64 (k : Int), .string ⟨#[]⟩, .int .u64 0, .int .u64 0, .int .u64 0, .int .u64 0, .int .i64 0] 35)).drewN q).setCell ⟨w.heap.size + 1, 0, none⟩ (.int .i64 3)) (some g) := fun q =>
    ⟨(HB.out q).1.set_ 0 _, (HB.out q).2.1.far (p := ⟨w.heap.size + 1, 0, none⟩) (by simp) _, (HB.out q).2.2.1.far (p := ⟨w.heap.size + 1, 0, none⟩) (by simp; omega) _, grown_new2 (HB.out q).2.2.2 (p := ⟨w.heap.size + 1, 0, none⟩) (Nat.le_succ _) _⟩
  generalize hW2 : (((w.alloc (.cells #[.int .i64 0, .int .i64 0, .string ⟨#[]⟩, .int .u64 0, .int .u64 0, .int .u64 0, .int .u64 0, .int .i64 0] 35)).alloc (.cells #[.int .i64 0, .int .i64 (k : Int), .string ⟨#[]⟩, .int .u64 0, .int .u64 0, .int .u64 0, .int .u64 0, .int .i64 0] 35)).drewN _).setCell ⟨w.heap.size + 1, 0, none⟩ (.int .i64 3) = W2
  have kq : Blk W2 (w.heap.size + 1) 35 #[.int .i64 3, .int .i64 (k : Int), .string ⟨#[]⟩, .int .u64 0, .int .u64 0, .int .u64 0, .int .u64 0, .int .i64 0] ∧ Blk W2 w.heap.size 35 zeroC ∧ Rd W2 g s k ∧ w.grownBy W2 (some g) := by rw [← hW2]; exact key _
  clear hW2 key HB c0 c1 cf
  have hcall := rset_any g s k W2 (by omega) hk kq.2.2.1
  cases ht : setF (s.data.toList.drop k) with
  | some p =>
    obtain ⟨M, n⟩ := p
    rw [ht] at hcall
    have HW := Lib.hid (show wordF (s.data.toList.drop k) = some (⟨3, [], M, 0⟩, n) by
      rw [HD.out] at ht
      rw [HD.out, wordF, HC.out, if_neg (by decide), if_neg (by decide), if_neg (by decide), if_pos rfl, ht]
      rfl)
    clear ht
    refine hcall.mono ?_
    rintro e w2 ⟨rfl, hR2, hg2⟩
    unfold setV
    have B0 : Blk w2 (w.heap.size + 1) 35 #[.int .i64 3, .int .i64 (k : Int), .string ⟨#[]⟩, .int .u64 0, .int .u64 0, .int .u64 0, .int .u64 0, .int .i64 0] ∧ Blk w2 w.heap.size 35 zeroC ∧ Rd w2 g s (k + n) ∧ w.grownBy w2 (some g) :=
      ⟨kq.1.grown hg2 (by simp; omega), kq.2.1.grown hg2 (by simp; omega), hR2, grown_trans kq.2.2.2 hg2⟩
    have S0 := Lib.hid B0
    obtain ⟨z0, z1, z2, z3, z4, z5, z6, z7, zf⟩ := B0.1.facts8
    obtain ⟨x0, x1, x2, x3, x4, x5, x6, x7, xf⟩ := B0.2.1.facts8
    clear B0 hg2
    go_wp2_with fail
    have hbk := ((((((((((((S0.out.2.1.far (p := ⟨w.heap.size + 1, 3, none⟩) (by simp) (.int .u64 (wd M 0))).far (p := ⟨w.heap.size + 1, 4, none⟩) (by simp) (.int .u64 (wd M 1))).far (p := ⟨w.heap.size + 1, 5, none⟩) (by simp) (.int .u64 (wd M 2))).far (p := ⟨w.heap.size + 1, 6, none⟩) (by simp) (.int .u64 (wd M 3))).set_ 0 (.int .i64 3)).set_ 1 (.int .i64 (k : Int))).set_ 2 (.string ⟨#[]⟩)).set_ 3 (.int .u64 (wd M 0))).set_ 4 (.int .u64 (wd M 1))).set_ 5 (.int .u64 (wd M 2))).set_ 6 (.int .u64 (wd M 3))).set_ 7 (.int .i64 0))
    refine bodyPost_ret (results_cell_row (by rfl) _ _ w.heap.size 35 _ (0, 0) _ (by rfl) hbk Tryz.underlying35 (by rfl) (by kernel_rfl)) rfl ?_
    rw [HW.out]
    exact ⟨rfl, ((((((((((((S0.out.2.2.1.far (p := ⟨w.heap.size + 1, 3, none⟩) (by simp; omega) _).far (p := ⟨w.heap.size + 1, 4, none⟩) (by simp; omega) _).far (p := ⟨w.heap.size + 1, 5, none⟩) (by simp; omega) _).far (p := ⟨w.heap.size + 1, 6, none⟩) (by simp; omega) _).far (p := ⟨w.heap.size, 0, none⟩) (by simp; omega) _).far (p := ⟨w.heap.size, 1, none⟩) (by simp; omega) _).far (p := ⟨w.heap.size, 2, none⟩) (by simp; omega) _).far (p := ⟨w.heap.size, 3, none⟩) (by simp; omega) _).far (p := ⟨w.heap.size, 4, none⟩) (by simp; omega) _).far (p := ⟨w.heap.size, 5, none⟩) (by simp; omega) _).far (p := ⟨w.heap.size, 6, none⟩) (by simp; omega) _).far (p := ⟨w.heap.size, 7, none⟩) (by simp; omega) _), (grown_new2 (grown_new2 (grown_new2 (grown_new2 (grown_new2 (grown_new2 (grown_new2 (grown_new2 (grown_new2 (grown_new2 (grown_new2 (grown_new2 S0.out.2.2.2 (p := ⟨w.heap.size + 1, 3, none⟩) (Nat.le_succ _) _) (p := ⟨w.heap.size + 1, 4, none⟩) (Nat.le_succ _) _) (p := ⟨w.heap.size + 1, 5, none⟩) (Nat.le_succ _) _) (p := ⟨w.heap.size + 1, 6, none⟩) (Nat.le_succ _) _) (p := ⟨w.heap.size, 0, none⟩) (Nat.le_refl _) _) (p := ⟨w.heap.size, 1, none⟩) (Nat.le_refl _) _) (p := ⟨w.heap.size, 2, none⟩) (Nat.le_refl _) _) (p := ⟨w.heap.size, 3, none⟩) (Nat.le_refl _) _) (p := ⟨w.heap.size, 4, none⟩) (Nat.le_refl _) _) (p := ⟨w.heap.size, 5, none⟩) (Nat.le_refl _) _) (p := ⟨w.heap.size, 6, none⟩) (Nat.le_refl _) _) (p := ⟨w.heap.size, 7, none⟩) (Nat.le_refl _) _)⟩
  | none =>
    rw [ht] at hcall
    have HW := Lib.hid (show wordF (s.data.toList.drop k) = none by
      rw [HD.out] at ht
      rw [HD.out, wordF, HC.out, if_neg (by decide), if_neg (by decide), if_neg (by decide), if_pos rfl, ht]
      rfl)
    clear ht
    refine hcall.mono ?_
    rintro e w2 ⟨rfl, hg2⟩
    unfold setV
    have B0 : Blk w2 (w.heap.size + 1) 35 #[.int .i64 3, .int .i64 (k : Int), .string ⟨#[]⟩, .int .u64 0, .int .u64 0, .int .u64 0, .int .u64 0, .int .i64 0] ∧ Blk w2 w.heap.size 35 zeroC ∧  w.grownBy w2 (some g) :=
      ⟨kq.1.grown hg2 (by simp; omega), kq.2.1.grown hg2 (by simp; omega),  grown_trans kq.2.2.2 hg2⟩
    have S0 := Lib.hid B0
    obtain ⟨z0, z1, z2, z3, z4, z5, z6, z7, zf⟩ := B0.1.facts8
    obtain ⟨x0, x1, x2, x3, x4, x5, x6, x7, xf⟩ := B0.2.1.facts8
    clear B0 hg2
    go_wp2_with fail
    rw [HW.out]
    exact ⟨rfl, rfl, (grown_new2 (grown_new2 (grown_new2 (grown_new2 S0.out.2.2 (p := ⟨w.heap.size + 1, 3, none⟩) (Nat.le_succ _) _) (p := ⟨w.heap.size + 1, 4, none⟩) (Nat.le_succ _) _) (p := ⟨w.heap.size + 1, 5, none⟩) (Nat.le_succ _) _) (p := ⟨w.heap.size + 1, 6, none⟩) (Nat.le_succ _) _)⟩

end Go.Proofs.YtacgnbelcpmjfaaGreatDoor.Dx
