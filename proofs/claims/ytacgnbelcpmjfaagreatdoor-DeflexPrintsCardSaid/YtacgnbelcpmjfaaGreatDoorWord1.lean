/-
  WALKS of the reader: word (by what the next byte may begin).
-/
import Derived.Test.YtacgnbelcpmjfaaGreatDoorAtoi
import Derived.Deep.RegionHeld3
set_option linter.unusedVariables false
set_option linter.unusedSimpArgs false
namespace Go.Proofs.YtacgnbelcpmjfaaGreatDoor.Dx
open Go.RowKit Go.Proofs Mx

/-- A word with its place, as its eight cells; as a value. -/
def wdC (p : Int) (v : Wd) : Array Value := #[.int .i64 v.kind, .int .i64 p, .string ⟨v.text.toArray⟩, .int .u64 (wd v.set 0), .int .u64 (wd v.set 1), .int .u64 (wd v.set 2), .int .u64 (wd v.set 3), .int .i64 v.num]
def wdV (p : Int) (v : Wd) : Value := .agg (wdC p v)
def WordOut (s : ByteArray) (k g : Nat) (w : World) : Option (Wd × Nat) → Ending → World → Prop
  | some (v, n), e, w' => e = .returned (wdV k v) ∧ Rd w' g s (k + n) ∧ w.grownBy w' (some g)
  | none, e, w' => e = .panicked [{ v := .iface 78 (.agg #[.int .i64 (k : Int)]), recovered := false }] ∧ w.grownBy w' (some g)
def zeroC : Array Value := #[.int .i64 0, .int .i64 0, .string ⟨#[]⟩, .int .u64 0, .int .u64 0, .int .u64 0, .int .u64 0, .int .i64 0]
theorem Blk.facts8' {w : World} {g : Nat} {t : TypeId} {cs : Array Value} (h : Blk w g t cs) (v0 v1 v2 v3 v4 v5 v6 v7 : Value) (hc : cs = #[v0, v1, v2, v3, v4, v5, v6, v7]) : w.cell? ⟨g, 0, none⟩ = some v0 ∧ w.cell? ⟨g, 1, none⟩ = some v1 ∧ w.cell? ⟨g, 2, none⟩ = some v2 ∧ w.cell? ⟨g, 3, none⟩ = some v3 ∧ w.cell? ⟨g, 4, none⟩ = some v4 ∧ w.cell? ⟨g, 5, none⟩ = some v5 ∧ w.cell? ⟨g, 6, none⟩ = some v6 ∧ w.cell? ⟨g, 7, none⟩ = some v7 ∧ (∀ i, w.frozen? ⟨g, i, none⟩ = false) := by
  subst hc; exact h.facts8
theorem wd_zero (j : Nat) : wd 0 j = 0 := by simp [wd]
theorem ext_str (x : ByteArray) : (⟨x.data.toList.toArray⟩ : ByteArray) = x := by cases x; simp
theorem run_text (s : ByteArray) (k : Nat) : (s.extract k (k + tw s k)).data.toList = (s.data.toList.drop k).takeWhile wordB := by
  rw [ByteArray.data_extract, Array.toList_extract, List.extract_eq_take_drop, show k + tw s k - k = tw s k by omega, tw]
  exact (List.prefix_iff_eq_take.1 (List.takeWhile_prefix wordB)).symm
theorem tw_le (s : ByteArray) (k : Nat) : tw s k ≤ s.size := by
  have := tw_len (s.data.toList.drop k)
  rw [List.length_drop, ← Lib.size_eq] at this
  exact Nat.le_trans this (Nat.sub_le _ _)
theorem run_size (s : ByteArray) (k : Nat) : (s.extract k (k + tw s k)).size = tw s k := by
  rw [Lib.size_eq, run_text]; rfl
theorem grown_new2 {a w : World} {row : Option Nat} (h : a.grownBy w row) {p : Addr} (hp : a.heap.size ≤ p.block) (u : Value) : a.grownBy (w.setCell p u) row :=
  ⟨h.os, h.tape, h.output, by simpa [World.setCell] using h.size, fun i hi hne => (Below.heap_setCell w p u i (by rintro rfl; omega)).trans (h.block i hi hne)⟩
theorem set_far {W : World} {p q : Addr} {v u : Value} (h : W.cell? q = some v) (n : q.block ≠ p.block ∨ q.off ≠ p.off) : (W.setCell p u).cell? q = some v := by
  rw [World.cell?_setCell_other]
  · exact h
  · intro e
    subst e
    rcases n with n | n <;> exact n rfl
theorem keep3 {W : World} {p q0 q1 q2 : Addr} {v0 v1 v2 u : Value} (h : W.cell? q0 = some v0 ∧ W.cell? q1 = some v1 ∧ W.cell? q2 = some v2)
    (n0 : q0.block ≠ p.block ∨ q0.off ≠ p.off) (n1 : q1.block ≠ p.block ∨ q1.off ≠ p.off) (n2 : q2.block ≠ p.block ∨ q2.off ≠ p.off) :
    (W.setCell p u).drew.cell? q0 = some v0 ∧ (W.setCell p u).drew.cell? q1 = some v1 ∧ (W.setCell p u).drew.cell? q2 = some v2 :=
  ⟨set_far h.1 n0, set_far h.2.1 n1, set_far h.2.2 n2⟩
set_option maxRecDepth 100000 in
set_option maxHeartbeats 2000000 in
theorem word_bad (g : Nat) (s : ByteArray) (k : Nat) (w : World) (hs : s.size ≤ 400000000) (hk : k < s.size) (hR : Rd w g s k) (hc : classI (s[k].toNat : Int) = 0) :
    Calls Tryz.prog 58 #[.pointer (some ⟨g, 0, none⟩)] w (WordOut s k g w (wordF (s.data.toList.drop k))) := by
  have HD := Lib.hid (drop_cons s k hk)
  obtain ⟨b, hb⟩ : ∃ b, s[k] = b := ⟨_, rfl⟩
  rw [hb] at hc HD
  have hgw : g < w.heap.size := hR.lt
  obtain ⟨c0, c1, cf⟩ := hR.facts2
  have hx0 : (0 : Int) ≤ (k : Int) := by omega
  have hx1 : (k : Int) < (s.size : Int) := by omega
  have n1 : (classI (b.toNat : Int) == 1) = false := by rw [hc]; rfl
  have n2 : (classI (b.toNat : Int) == 2) = false := by rw [hc]; rfl
  have n3 : (classI (b.toNat : Int) == 3) = false := by rw [hc]; rfl
  have n4 : (classI (b.toNat : Int) == 4) = false := by rw [hc]; rfl
  have n5 : (classI (b.toNat : Int) == 5) = false := by rw [hc]; rfl
  have HC := Lib.hid hc
  clear hc
  have HW := Lib.hid (show wordF (s.data.toList.drop k) = none by
    rw [HD.out, wordF, HC.out]
    simp)
  go_enter Tryz.func58, Tryz.ntmps58
  go_wp2_with fail
  go_quiet ((first | (go_at_call 37; refine (class_q b _).mono ?_; rintro e w' ⟨rfl, rfl⟩; exact ⟨rfl, _, rfl⟩)))
  go_wp2_with fail
  rw [HW.out]
  exact ⟨rfl, rfl, grown_drewN (grown_alloc (grown_alloc (grown_refl _ _) _) _) _⟩
set_option maxRecDepth 100000 in
set_option maxHeartbeats 2000000 in
theorem word_sign (g : Nat) (s : ByteArray) (k : Nat) (w : World) (hs : s.size ≤ 400000000) (hk : k < s.size) (hR : Rd w g s k) (hc : classI (s[k].toNat : Int) = 5) :
    Calls Tryz.prog 58 #[.pointer (some ⟨g, 0, none⟩)] w (WordOut s k g w (wordF (s.data.toList.drop k))) := by
  have HD := Lib.hid (drop_cons s k hk)
  obtain ⟨b, hb⟩ : ∃ b, s[k] = b := ⟨_, rfl⟩
  rw [hb] at hc HD
  have hgw : g < w.heap.size := hR.lt
  obtain ⟨c0, c1, cf⟩ := hR.facts2
  have hx0 : (0 : Int) ≤ (k : Int) := by omega
  have hx1 : (k : Int) < (s.size : Int) := by omega
  have n1 : (classI (b.toNat : Int) == 1) = false := by rw [hc]; rfl
  have n2 : (classI (b.toNat : Int) == 2) = false := by rw [hc]; rfl
  have n3 : (classI (b.toNat : Int) == 3) = false := by rw [hc]; rfl
  have n4 : (classI (b.toNat : Int) == 4) = false := by rw [hc]; rfl
  have n5 : (classI (b.toNat : Int) == 5) = true := by rw [hc]; rfl
  have HC := Lib.hid hc
  clear hc
  have HW := Lib.hid (show wordF (s.data.toList.drop k) = some (⟨5, [b], 0, 0⟩, 1) by
    rw [HD.out, wordF, HC.out]
    simp)
  have hext : s.extract k (k + 1) = ⟨#[b]⟩ := by
    have h := HD.out
    have : (s.extract k (k + 1)).data.toList = [b] := by
      rw [ByteArray.data_extract, Array.toList_extract, List.extract_eq_take_drop, h, show k + 1 - k = 1 by omega]
      rfl
    rw [← ext_str (s.extract k (k + 1)), this]
  have HE := Lib.hid hext
  clear hext
  have HB := Lib.hid (show ∀ n, Blk (((w.alloc (.cells #[.int .i64 0, .int .i64 0, .string ⟨#[]⟩, .int .u64 0, .int .u64 0, .int .u64 0, .int .u64 0, .int .i64 0] 35)).alloc (.cells #[.int .i64 0, .int .i64 (k : Int), .string ⟨#[]⟩, .int .u64 0, .int .u64 0, .int .u64 0, .int .u64 0, .int .i64 0] 35)).drewN n) (w.heap.size + 1) 35 #[.int .i64 0, .int .i64 (k : Int), .string ⟨#[]⟩, .int .u64 0, .int .u64 0, .int .u64 0, .int .u64 0, .int .i64 0] ∧ Blk (((w.alloc (.cells #[.int .i64 0, .int .i64 0, .string ⟨#[]⟩, .int .u64 0, .int .u64 0, .int .u64 0, .int .u64 0, .int .i64 0] 35)).alloc (.cells #[.int .i64 0, .int .i64 (k : Int), .string ⟨#[]⟩, .int .u64 0, .int .u64 0, .int .u64 0, .int .u64 0, .int .i64 0] 35)).drewN n) w.heap.size 35 zeroC ∧ Rd (((w.alloc (.cells #[.int .i64 0, .int .i64 0, .string ⟨#[]⟩, .int .u64 0, .int .u64 0, .int .u64 0, .int .u64 0, .int .i64 0] 35)).alloc (.cells #[.int .i64 0, .int .i64 (k : Int), .string ⟨#[]⟩, .int .u64 0, .int .u64 0, .int .u64 0, .int .u64 0, .int .i64 0] 35)).drewN n) g s k ∧ w.grownBy (((w.alloc (.cells #[.int .i64 0, .int .i64 0, .string ⟨#[]⟩, .int .u64 0, .int .u64 0, .int .u64 0, .int .u64 0, .int .i64 0] 35)).alloc (.cells #[.int .i64 0, .int .i64 (k : Int), .string ⟨#[]⟩, .int .u64 0, .int .u64 0, .int .u64 0, .int .u64 0, .int .i64 0] 35)).drewN n) (some g) from fun n =>
    ⟨(Blk.new_ (by simp) _ _).drewN n, ((Blk.new_ rfl _ _).alloc _).drewN n, ((hR.alloc _).alloc _).drewN n, grown_drewN (grown_alloc (grown_alloc (grown_refl _ _) _) _) n⟩)
  go_enter Tryz.func58, Tryz.ntmps58
  go_wp2_with fail
  go_quiet ((first | (go_at_call 37; refine (class_q b _).mono ?_; rintro e w' ⟨rfl, rfl⟩; exact ⟨rfl, _, rfl⟩)))
  go_wp2_with fail
  have key : ∀ q, Blk ((((w.alloc (.cells #[.int .i64 0, .int .i64 0, .string ⟨#[]⟩, .int .u64 0, .int .u64 0, .int .u64 0, .int .u64 0, .int .i64 0] 35)).alloc (.cells #[.int .i64 0, .int .i64 (k : Int), .string ⟨#[]⟩, .int .u64 0, .int .u64 0, .int .u64 0, .int .u64 0, .int .i64 0] 35)).drewN q).setCell ⟨g, 1, none⟩ (.int .i64 ((k : Int) + 1))) (w.heap.size + 1) 35 #[.int .i64 0, .int .i64 (k : Int), .string ⟨#[]⟩, .int .u64 0, .int .u64 0, .int .u64 0, .int .u64 0, .int .i64 0] ∧ Blk ((((w.alloc (.cells #[.int .i64 0, .int .i64 0, .string ⟨#[]⟩, .int .u64 0, .int .u64 0, .int .u64 0, .int .u64 0, .int .i64 0] 35)).alloc (.cells #[.int .i64 0, .int .i64 (k : Int), .string ⟨#[]⟩, .int .u64 0, .int .u64 0, .int .u64 0, .int .u64 0, .int .i64 0] 35)).drewN q).setCell ⟨g, 1, none⟩ (.int .i64 ((k : Int) + 1))) w.heap.size 35 zeroC ∧ Rd ((((w.alloc (.cells #[.int .i64 0, .int .i64 0, .string ⟨#[]⟩, .int .u64 0, .int .u64 0, .int .u64 0, .int .u64 0, .int .i64 0] 35)).alloc (.cells #[.int .i64 0, .int .i64 (k : Int), .string ⟨#[]⟩, .int .u64 0, .int .u64 0, .int .u64 0, .int .u64 0, .int .i64 0] 35)).drewN q).setCell ⟨g, 1, none⟩ (.int .i64 ((k : Int) + 1))) g s (k + 1) ∧ w.grownBy ((((w.alloc (.cells #[.int .i64 0, .int .i64 0, .string ⟨#[]⟩, .int .u64 0, .int .u64 0, .int .u64 0, .int .u64 0, .int .i64 0] 35)).alloc (.cells #[.int .i64 0, .int .i64 (k : Int), .string ⟨#[]⟩, .int .u64 0, .int .u64 0, .int .u64 0, .int .u64 0, .int .i64 0] 35)).drewN q).setCell ⟨g, 1, none⟩ (.int .i64 ((k : Int) + 1))) (some g) := fun q =>
    ⟨(HB.out q).1.far (p := ⟨g, 1, none⟩) (by simp; omega) _, (HB.out q).2.1.far (p := ⟨g, 1, none⟩) (by simp; omega) _, Rd.at_ (HB.out q).2.2.1 (by omega), grown_set (HB.out q).2.2.2 rfl _⟩
  generalize hW2 : (((w.alloc (.cells #[.int .i64 0, .int .i64 0, .string ⟨#[]⟩, .int .u64 0, .int .u64 0, .int .u64 0, .int .u64 0, .int .i64 0] 35)).alloc (.cells #[.int .i64 0, .int .i64 (k : Int), .string ⟨#[]⟩, .int .u64 0, .int .u64 0, .int .u64 0, .int .u64 0, .int .i64 0] 35)).drewN _).setCell ⟨g, 1, none⟩ (.int .i64 ((k : Int) + 1)) = W2
  have kq : Blk W2 (w.heap.size + 1) 35 #[.int .i64 0, .int .i64 (k : Int), .string ⟨#[]⟩, .int .u64 0, .int .u64 0, .int .u64 0, .int .u64 0, .int .i64 0] ∧ Blk W2 w.heap.size 35 zeroC ∧ Rd W2 g s (k + 1) ∧ w.grownBy W2 (some g) := by rw [← hW2]; exact key _
  clear hW2 key HB c0 c1 cf
  obtain ⟨d0, d1, df⟩ := kq.2.2.1.facts2
  obtain ⟨j, hj⟩ : ∃ j : Int, ((k + 1 : Nat) : Int) = j := ⟨_, rfl⟩
  have hk1 : (k : Int) ≤ j := by omega
  have hk2 : j ≤ (s.size : Int) := by omega
  have hte : s.extract k j.toNat = ⟨#[b]⟩ := by rw [← HE.out, ← hj]; congr 1
  rw [hj] at d1
  obtain ⟨z0, z1, z2, z3, z4, z5, z6, z7, zf⟩ := kq.1.facts8
  have n0 := World.new_ne W2 _ d0
  have n1 := World.new_ne W2 _ d1
  have n2 := World.new_ne W2 _ z1
  have S0 := Lib.hid kq
  clear kq
  go_region_held3 (fun W => W.cell? ⟨g, 0, none⟩ = some (.string s) ∧ W.cell? ⟨g, 1, none⟩ = some (.int .i64 j) ∧ W.cell? ⟨w.heap.size + 1, 1, none⟩ = some (.int .i64 (k : Int))) (first | assumption | exact keep3 (by first | assumption | exact ⟨by assumption, by assumption, by assumption⟩) (by first | (simp; done) | (simp; omega)) (by first | (simp; done) | (simp; omega)) (by first | (simp; done) | (simp; omega)) | go_keep) (fail)
  have SUM : Blk (((W2.setCell ⟨w.heap.size + 1, 0, none⟩ (.int .i64 5)).setCell ⟨w.heap.size + 1, 2, none⟩ (.string ⟨#[b]⟩)).drew) (w.heap.size + 1) 35 #[(.int .i64 5), (.int .i64 (k : Int)), (.string ⟨#[b]⟩), (.int .u64 0), (.int .u64 0), (.int .u64 0), (.int .u64 0), (.int .i64 0)] ∧ Blk (((W2.setCell ⟨w.heap.size + 1, 0, none⟩ (.int .i64 5)).setCell ⟨w.heap.size + 1, 2, none⟩ (.string ⟨#[b]⟩)).drew) w.heap.size 35 zeroC ∧ Rd (((W2.setCell ⟨w.heap.size + 1, 0, none⟩ (.int .i64 5)).setCell ⟨w.heap.size + 1, 2, none⟩ (.string ⟨#[b]⟩)).drew) g s (k + 1) ∧ w.grownBy (((W2.setCell ⟨w.heap.size + 1, 0, none⟩ (.int .i64 5)).setCell ⟨w.heap.size + 1, 2, none⟩ (.string ⟨#[b]⟩)).drew) (some g) :=
    ⟨(((S0.out).1.set_ 0 (.int .i64 5)).set_ 2 (.string ⟨#[b]⟩)).drew, (((S0.out).2.1.far (p := ⟨w.heap.size + 1, 0, none⟩) (by simp; try omega) _).far (p := ⟨w.heap.size + 1, 2, none⟩) (by simp; try omega) _).drew, (((S0.out).2.2.1.far (p := ⟨w.heap.size + 1, 0, none⟩) (by simp; try omega) _).far (p := ⟨w.heap.size + 1, 2, none⟩) (by simp; try omega) _).drew, (grown_drewN (grown_new2 (grown_new2 (S0.out).2.2.2 (p := ⟨w.heap.size + 1, 0, none⟩) (Nat.le_succ _) _) (p := ⟨w.heap.size + 1, 2, none⟩) (Nat.le_succ _) _) 1)⟩
  clear z0 z1 z2 z3 z4 z5 z6 z7 zf
  generalize ((W2.setCell ⟨w.heap.size + 1, 0, none⟩ (.int .i64 5)).setCell ⟨w.heap.size + 1, 2, none⟩ (.string ⟨#[b]⟩)).drew = W5 at SUM ⊢
  have S := Lib.hid SUM
  clear SUM
  obtain ⟨y0, y1, y2, y3, y4, y5, y6, y7, yf⟩ := Blk.facts8' S.out.1 (.int .i64 5) (.int .i64 (k : Int)) (.string ⟨#[b]⟩) (.int .u64 0) (.int .u64 0) (.int .u64 0) (.int .u64 0) (.int .i64 0) rfl
  obtain ⟨x0, x1, x2, x3, x4, x5, x6, x7, xf⟩ := S.out.2.1.facts8
  go_wp2_with fail
  have hbk := ((((((((S.out.2.1.set_ 0 (.int .i64 5)).set_ 1 (.int .i64 (k : Int))).set_ 2 (.string ⟨#[b]⟩)).set_ 3 (.int .u64 0)).set_ 4 (.int .u64 0)).set_ 5 (.int .u64 0)).set_ 6 (.int .u64 0)).set_ 7 (.int .i64 0))
  refine bodyPost_ret (results_cell_row (by rfl) _ _ w.heap.size 35 _ (0, 0) _ (by rfl) hbk Tryz.underlying35 (by rfl) (by kernel_rfl)) rfl ?_
  rw [HW.out]
  exact ⟨(by rw [wdV, wdC]; simp only [wd_zero]; rfl), ((((((((S.out.2.2.1.far (p := ⟨w.heap.size, 0, none⟩) (by simp; omega) _).far (p := ⟨w.heap.size, 1, none⟩) (by simp; omega) _).far (p := ⟨w.heap.size, 2, none⟩) (by simp; omega) _).far (p := ⟨w.heap.size, 3, none⟩) (by simp; omega) _).far (p := ⟨w.heap.size, 4, none⟩) (by simp; omega) _).far (p := ⟨w.heap.size, 5, none⟩) (by simp; omega) _).far (p := ⟨w.heap.size, 6, none⟩) (by simp; omega) _).far (p := ⟨w.heap.size, 7, none⟩) (by simp; omega) _), (grown_new2 (grown_new2 (grown_new2 (grown_new2 (grown_new2 (grown_new2 (grown_new2 (grown_new2 S.out.2.2.2 (Nat.le_refl _) _) (Nat.le_refl _) _) (Nat.le_refl _) _) (Nat.le_refl _) _) (Nat.le_refl _) _) (Nat.le_refl _) _) (Nat.le_refl _) _) (Nat.le_refl _) _)⟩

set_option maxRecDepth 100000 in
set_option maxHeartbeats 2000000 in
theorem word_letter (g : Nat) (s : ByteArray) (k : Nat) (w : World) (hs : s.size ≤ 400000000) (hk : k < s.size) (hR : Rd w g s k) (hc : classI (s[k].toNat : Int) = 1) :
    Calls Tryz.prog 58 #[.pointer (some ⟨g, 0, none⟩)] w (WordOut s k g w (wordF (s.data.toList.drop k))) := by
  have HD := Lib.hid (drop_cons s k hk)
  obtain ⟨b, hb⟩ : ∃ b, s[k] = b := ⟨_, rfl⟩
  rw [hb] at hc HD
  have hgw : g < w.heap.size := hR.lt
  obtain ⟨c0, c1, cf⟩ := hR.facts2
  have hx0 : (0 : Int) ≤ (k : Int) := by omega
  have hx1 : (k : Int) < (s.size : Int) := by omega
  have n1 : (classI (b.toNat : Int) == 1) = true := by rw [hc]; rfl
  have HC := Lib.hid hc
  clear hc
  have hbw : (b :: s.data.toList.drop (k + 1)).takeWhile wordB = (s.data.toList.drop k).takeWhile wordB := by rw [HD.out]
  have HBW := Lib.hid hbw
  clear hbw
  have HB := Lib.hid (show ∀ n, Blk (((w.alloc (.cells #[.int .i64 0, .int .i64 0, .string ⟨#[]⟩, .int .u64 0, .int .u64 0, .int .u64 0, .int .u64 0, .int .i64 0] 35)).alloc (.cells #[.int .i64 0, .int .i64 (k : Int), .string ⟨#[]⟩, .int .u64 0, .int .u64 0, .int .u64 0, .int .u64 0, .int .i64 0] 35)).drewN n) (w.heap.size + 1) 35 #[.int .i64 0, .int .i64 (k : Int), .string ⟨#[]⟩, .int .u64 0, .int .u64 0, .int .u64 0, .int .u64 0, .int .i64 0] ∧ Blk (((w.alloc (.cells #[.int .i64 0, .int .i64 0, .string ⟨#[]⟩, .int .u64 0, .int .u64 0, .int .u64 0, .int .u64 0, .int .i64 0] 35)).alloc (.cells #[.int .i64 0, .int .i64 (k : Int), .string ⟨#[]⟩, .int .u64 0, .int .u64 0, .int .u64 0, .int .u64 0, .int .i64 0] 35)).drewN n) w.heap.size 35 zeroC ∧ Rd (((w.alloc (.cells #[.int .i64 0, .int .i64 0, .string ⟨#[]⟩, .int .u64 0, .int .u64 0, .int .u64 0, .int .u64 0, .int .i64 0] 35)).alloc (.cells #[.int .i64 0, .int .i64 (k : Int), .string ⟨#[]⟩, .int .u64 0, .int .u64 0, .int .u64 0, .int .u64 0, .int .i64 0] 35)).drewN n) g s k ∧ w.grownBy (((w.alloc (.cells #[.int .i64 0, .int .i64 0, .string ⟨#[]⟩, .int .u64 0, .int .u64 0, .int .u64 0, .int .u64 0, .int .i64 0] 35)).alloc (.cells #[.int .i64 0, .int .i64 (k : Int), .string ⟨#[]⟩, .int .u64 0, .int .u64 0, .int .u64 0, .int .u64 0, .int .i64 0] 35)).drewN n) (some g) from fun n =>
    ⟨(Blk.new_ (by simp) _ _).drewN n, ((Blk.new_ rfl _ _).alloc _).drewN n, ((hR.alloc _).alloc _).drewN n, grown_drewN (grown_alloc (grown_alloc (grown_refl _ _) _) _) n⟩)
  go_enter Tryz.func58, Tryz.ntmps58
  go_wp2_with fail
  go_quiet ((first | (go_at_call 37; refine (class_q b _).mono ?_; rintro e w' ⟨rfl, rfl⟩; exact ⟨rfl, _, rfl⟩)))
  go_wp2_with fail
  refine (run_any g s k _ (by omega) (by omega) (HB.out _).2.2.1).mono ?_
  rintro e w2 ⟨rfl, hR2, hg2⟩
  have B0 : Blk w2 (w.heap.size + 1) 35 #[.int .i64 0, .int .i64 (k : Int), .string ⟨#[]⟩, .int .u64 0, .int .u64 0, .int .u64 0, .int .u64 0, .int .i64 0] ∧ Blk w2 w.heap.size 35 zeroC ∧ Rd w2 g s (k + tw s k) ∧ w.grownBy w2 (some g) :=
    ⟨(HB.out _).1.grown hg2 (by simp; omega), (HB.out _).2.1.grown hg2 (by simp; omega), hR2, grown_trans (HB.out _).2.2.2 hg2⟩
  have S0 := Lib.hid B0
  obtain ⟨z0, z1, z2, z3, z4, z5, z6, z7, zf⟩ := B0.1.facts8
  obtain ⟨x0, x1, x2, x3, x4, x5, x6, x7, xf⟩ := B0.2.1.facts8
  clear B0 hR2 hg2 HB c0 c1 cf
  have hrs := run_size s k
  have hrt := run_text s k
  obtain ⟨r, hr⟩ : ∃ r, s.extract k (k + tw s k) = r := ⟨_, rfl⟩
  rw [hr] at hrs hrt ⊢
  by_cases h64 : tw s k ≤ 64
  · have hl : (r.size : Int) ≤ 64 := by omega
    have HW := Lib.hid (show wordF (s.data.toList.drop k) = some (⟨1, r.data.toList, 0, 0⟩, tw s k) by
      have h2 : ((s.data.toList.drop k).takeWhile wordB).length = tw s k := rfl
      rw [HD.out, wordF, HC.out, if_pos rfl, HBW.out, if_pos (by omega), hrt]; rfl)
    have HX := Lib.hid (ext_str r)
    clear hrt hrs hr h64
    go_wp2_with fail
    have hbk := ((((((((((S0.out.2.1.far (p := ⟨w.heap.size + 1, 0, none⟩) (by simp) (.int .i64 1)).far (p := ⟨w.heap.size + 1, 2, none⟩) (by simp) (.string r)).set_ 0 (.int .i64 1)).set_ 1 (.int .i64 (k : Int))).set_ 2 (.string r)).set_ 3 (.int .u64 0)).set_ 4 (.int .u64 0)).set_ 5 (.int .u64 0)).set_ 6 (.int .u64 0)).set_ 7 (.int .i64 0))
    refine bodyPost_ret (results_cell_row (by rfl) _ _ w.heap.size 35 _ (0, 0) _ (by rfl) hbk Tryz.underlying35 (by rfl) (by kernel_rfl)) rfl ?_
    rw [HW.out]
    exact ⟨(by rw [wdV, wdC]; simp only [wd_zero, HX.out]; rfl), ((((((((((S0.out.2.2.1.far (p := ⟨w.heap.size + 1, 0, none⟩) (by simp; omega) _).far (p := ⟨w.heap.size + 1, 2, none⟩) (by simp; omega) _).far (p := ⟨w.heap.size, 0, none⟩) (by simp; omega) _).far (p := ⟨w.heap.size, 1, none⟩) (by simp; omega) _).far (p := ⟨w.heap.size, 2, none⟩) (by simp; omega) _).far (p := ⟨w.heap.size, 3, none⟩) (by simp; omega) _).far (p := ⟨w.heap.size, 4, none⟩) (by simp; omega) _).far (p := ⟨w.heap.size, 5, none⟩) (by simp; omega) _).far (p := ⟨w.heap.size, 6, none⟩) (by simp; omega) _).far (p := ⟨w.heap.size, 7, none⟩) (by simp; omega) _), (grown_new2 (grown_new2 (grown_new2 (grown_new2 (grown_new2 (grown_new2 (grown_new2 (grown_new2 (grown_new2 (grown_new2 S0.out.2.2.2 (p := ⟨w.heap.size + 1, 0, none⟩) (Nat.le_succ _) _) (p := ⟨w.heap.size + 1, 2, none⟩) (Nat.le_succ _) _) (p := ⟨w.heap.size, 0, none⟩) (Nat.le_refl _) _) (p := ⟨w.heap.size, 1, none⟩) (Nat.le_refl _) _) (p := ⟨w.heap.size, 2, none⟩) (Nat.le_refl _) _) (p := ⟨w.heap.size, 3, none⟩) (Nat.le_refl _) _) (p := ⟨w.heap.size, 4, none⟩) (Nat.le_refl _) _) (p := ⟨w.heap.size, 5, none⟩) (Nat.le_refl _) _) (p := ⟨w.heap.size, 6, none⟩) (Nat.le_refl _) _) (p := ⟨w.heap.size, 7, none⟩) (Nat.le_refl _) _)⟩
  · have hl : decide ((r.size : Int) ≤ 64) = false := by simp; omega
    have HW := Lib.hid (show wordF (s.data.toList.drop k) = none by
      have h2 : ((s.data.toList.drop k).takeWhile wordB).length = tw s k := rfl
      rw [HD.out, wordF, HC.out, if_pos rfl, HBW.out, if_neg (by omega)])
    clear hrt hrs hr h64
    go_wp2_with fail
    rw [HW.out]
    exact ⟨rfl, rfl, (grown_new2 (grown_new2 S0.out.2.2.2 (p := ⟨w.heap.size + 1, 0, none⟩) (Nat.le_succ _) _) (p := ⟨w.heap.size + 1, 2, none⟩) (Nat.le_succ _) _)⟩

set_option maxRecDepth 100000 in
set_option maxHeartbeats 2000000 in
theorem word_text (g : Nat) (s : ByteArray) (k : Nat) (w : World) (hs : s.size ≤ 400000000) (hk : k < s.size) (hR : Rd w g s k) (E : Env w) (hg6 : LB ≤ g) (hc : classI (s[k].toNat : Int) = 3) :
    Calls Tryz.prog 58 #[.pointer (some ⟨g, 0, none⟩)] w (WordOut s k g w (wordF (s.data.toList.drop k))) := by
  have HD := Lib.hid (drop_cons s k hk)
  obtain ⟨b, hb⟩ : ∃ b, s[k] = b := ⟨_, rfl⟩
  rw [hb] at hc HD
  have hgw : g < w.heap.size := hR.lt
  obtain ⟨c0, c1, cf⟩ := hR.facts2
  have hx0 : (0 : Int) ≤ (k : Int) := by omega
  have hx1 : (k : Int) < (s.size : Int) := by omega
  have n1 : (classI (b.toNat : Int) == 1) = false := by rw [hc]; rfl
  have n2 : (classI (b.toNat : Int) == 2) = false := by rw [hc]; rfl
  have n3 : (classI (b.toNat : Int) == 3) = true := by rw [hc]; rfl
  have HC := Lib.hid hc
  clear hc
  have HB := Lib.hid (show ∀ n, Blk (((w.alloc (.cells #[.int .i64 0, .int .i64 0, .string ⟨#[]⟩, .int .u64 0, .int .u64 0, .int .u64 0, .int .u64 0, .int .i64 0] 35)).alloc (.cells #[.int .i64 0, .int .i64 (k : Int), .string ⟨#[]⟩, .int .u64 0, .int .u64 0, .int .u64 0, .int .u64 0, .int .i64 0] 35)).drewN n) (w.heap.size + 1) 35 #[.int .i64 0, .int .i64 (k : Int), .string ⟨#[]⟩, .int .u64 0, .int .u64 0, .int .u64 0, .int .u64 0, .int .i64 0] ∧ Blk (((w.alloc (.cells #[.int .i64 0, .int .i64 0, .string ⟨#[]⟩, .int .u64 0, .int .u64 0, .int .u64 0, .int .u64 0, .int .i64 0] 35)).alloc (.cells #[.int .i64 0, .int .i64 (k : Int), .string ⟨#[]⟩, .int .u64 0, .int .u64 0, .int .u64 0, .int .u64 0, .int .i64 0] 35)).drewN n) w.heap.size 35 zeroC ∧ Rd (((w.alloc (.cells #[.int .i64 0, .int .i64 0, .string ⟨#[]⟩, .int .u64 0, .int .u64 0, .int .u64 0, .int .u64 0, .int .i64 0] 35)).alloc (.cells #[.int .i64 0, .int .i64 (k : Int), .string ⟨#[]⟩, .int .u64 0, .int .u64 0, .int .u64 0, .int .u64 0, .int .i64 0] 35)).drewN n) g s k ∧ w.grownBy (((w.alloc (.cells #[.int .i64 0, .int .i64 0, .string ⟨#[]⟩, .int .u64 0, .int .u64 0, .int .u64 0, .int .u64 0, .int .i64 0] 35)).alloc (.cells #[.int .i64 0, .int .i64 (k : Int), .string ⟨#[]⟩, .int .u64 0, .int .u64 0, .int .u64 0, .int .u64 0, .int .i64 0] 35)).drewN n) (some g) from fun n =>
    ⟨(Blk.new_ (by simp) _ _).drewN n, ((Blk.new_ rfl _ _).alloc _).drewN n, ((hR.alloc _).alloc _).drewN n, grown_drewN (grown_alloc (grown_alloc (grown_refl _ _) _) _) n⟩)
  go_enter Tryz.func58, Tryz.ntmps58
  go_wp2_with fail
  go_quiet ((first | (go_at_call 37; refine (class_q b _).mono ?_; rintro e w' ⟨rfl, rfl⟩; exact ⟨rfl, _, rfl⟩)))
  go_wp2_with fail
  have key : ∀ q, Blk ((((w.alloc (.cells #[.int .i64 0, .int .i64 0, .string ⟨#[]⟩, .int .u64 0, .int .u64 0, .int .u64 0, .int .u64 0, .int .i64 0] 35)).alloc (.cells #[.int .i64 0, .int .i64 (k : Int), .string ⟨#[]⟩, .int .u64 0, .int .u64 0, .int .u64 0, .int .u64 0, .int .i64 0] 35)).drewN q).setCell ⟨w.heap.size + 1, 0, none⟩ (.int .i64 2)) (w.heap.size + 1) 35 #[.int .i64 2, .int .i64 (k : Int), .string ⟨#[]⟩, .int .u64 0, .int .u64 0, .int .u64 0, .int .u64 0, .int .i64 0] ∧ Blk ((((w.alloc (.cells #[.int .i64 0, .int .i64 0, .string ⟨#[]⟩, .int .u64 0, .int .u64 0, .int .u64 0, .int .u64 0, .int .i64 0] 35)).alloc (.cells #[.int .i64 0, .int .i64 (k : Int), .string ⟨#[]⟩, .int .u64 0, .int .u64 0, .int .u64 0, .int .u64 0, .int .i64 0] 35)).drewN q).setCell ⟨w.heap.size + 1, 0, none⟩ (.int .i64 2)) w.heap.size 35 zeroC ∧ Rd ((((w.alloc (.cells #[.int .i64 0, .int .i64 0, .string ⟨#[]⟩, .int .u64 0, .int .u64 0, .int .u64 0, .int .u64 0, .int .i64 0] 35)).alloc (.cells #[.int .i64 0, .int .i64 (k : Int), .string ⟨#[]⟩, .int .u64 0, .int .u64 0, .int .u64 0, .int .u64 0, .int .i64 0] 35)).drewN q).setCell ⟨w.heap.size + 1, 0, none⟩ (.int .i64 2)) g s k ∧ w.grownBy ((((w.alloc (.cells #[.int .i64 0, .int .i64 0, .string ⟨#[]⟩, .int .u64 0, .int .u64 0, .int .u64 0, .int .u64 0, .int .i64 0] 35)).alloc (.cells #[.int .i64 0, .int .i64 (k : Int), .string ⟨#[]⟩, .int .u64 0, .int .u64 0, .int .u64 0, .int .u64 0, .int .i64 0] 35)).drewN q).setCell ⟨w.heap.size + 1, 0, none⟩ (.int .i64 2)) (some g) := fun q =>
    ⟨(HB.out q).1.set_ 0 _, (HB.out q).2.1.far (p := ⟨w.heap.size + 1, 0, none⟩) (by simp) _, (HB.out q).2.2.1.far (p := ⟨w.heap.size + 1, 0, none⟩) (by simp; omega) _, grown_new2 (HB.out q).2.2.2 (p := ⟨w.heap.size + 1, 0, none⟩) (Nat.le_succ _) _⟩
  generalize hW2 : (((w.alloc (.cells #[.int .i64 0, .int .i64 0, .string ⟨#[]⟩, .int .u64 0, .int .u64 0, .int .u64 0, .int .u64 0, .int .i64 0] 35)).alloc (.cells #[.int .i64 0, .int .i64 (k : Int), .string ⟨#[]⟩, .int .u64 0, .int .u64 0, .int .u64 0, .int .u64 0, .int .i64 0] 35)).drewN _).setCell ⟨w.heap.size + 1, 0, none⟩ (.int .i64 2) = W2
  have kq : Blk W2 (w.heap.size + 1) 35 #[.int .i64 2, .int .i64 (k : Int), .string ⟨#[]⟩, .int .u64 0, .int .u64 0, .int .u64 0, .int .u64 0, .int .i64 0] ∧ Blk W2 w.heap.size 35 zeroC ∧ Rd W2 g s k ∧ w.grownBy W2 (some g) := by rw [← hW2]; exact key _
  clear hW2 key HB c0 c1 cf
  have hE2 : Env W2 := E.grown kq.2.2.2 hg6
  have hcall := text_any g s k W2 (by omega) hk kq.2.2.1 hE2 hg6
  cases ht : txt (s.data.toList.drop (k + 1)) with
  | some p =>
    obtain ⟨o, n⟩ := p
    rw [ht] at hcall
    have HW := Lib.hid (show wordF (s.data.toList.drop k) = some (⟨2, o, 0, 0⟩, n + 1) by
      rw [HD.out, wordF, HC.out, if_neg (by decide), if_neg (by decide), if_pos rfl, ht]
      rfl)
    clear ht
    refine hcall.mono ?_
    rintro e w2 ⟨rfl, hR2, hg2⟩
    have B0 : Blk w2 (w.heap.size + 1) 35 #[.int .i64 2, .int .i64 (k : Int), .string ⟨#[]⟩, .int .u64 0, .int .u64 0, .int .u64 0, .int .u64 0, .int .i64 0] ∧ Blk w2 w.heap.size 35 zeroC ∧ Rd w2 g s (k + (n + 1)) ∧ w.grownBy w2 (some g) :=
      ⟨kq.1.grown hg2 (by simp; omega), kq.2.1.grown hg2 (by simp; omega), (by rw [show k + (n + 1) = k + 1 + n by omega]; exact hR2), grown_trans kq.2.2.2 hg2⟩
    have S0 := Lib.hid B0
    obtain ⟨z0, z1, z2, z3, z4, z5, z6, z7, zf⟩ := B0.1.facts8
    obtain ⟨x0, x1, x2, x3, x4, x5, x6, x7, xf⟩ := B0.2.1.facts8
    clear B0 hg2
    go_wp2_with fail
    have hbk := (((((((((S0.out.2.1.far (p := ⟨w.heap.size + 1, 2, none⟩) (by simp) (.string ⟨o.toArray⟩)).set_ 0 (.int .i64 2)).set_ 1 (.int .i64 (k : Int))).set_ 2 (.string ⟨o.toArray⟩)).set_ 3 (.int .u64 0)).set_ 4 (.int .u64 0)).set_ 5 (.int .u64 0)).set_ 6 (.int .u64 0)).set_ 7 (.int .i64 0))
    refine bodyPost_ret (results_cell_row (by rfl) _ _ w.heap.size 35 _ (0, 0) _ (by rfl) hbk Tryz.underlying35 (by rfl) (by kernel_rfl)) rfl ?_
    rw [HW.out]
    exact ⟨(by rw [wdV, wdC]; simp only [wd_zero]; rfl), (((((((((S0.out.2.2.1.far (p := ⟨w.heap.size + 1, 2, none⟩) (by simp; omega) _).far (p := ⟨w.heap.size, 0, none⟩) (by simp; omega) _).far (p := ⟨w.heap.size, 1, none⟩) (by simp; omega) _).far (p := ⟨w.heap.size, 2, none⟩) (by simp; omega) _).far (p := ⟨w.heap.size, 3, none⟩) (by simp; omega) _).far (p := ⟨w.heap.size, 4, none⟩) (by simp; omega) _).far (p := ⟨w.heap.size, 5, none⟩) (by simp; omega) _).far (p := ⟨w.heap.size, 6, none⟩) (by simp; omega) _).far (p := ⟨w.heap.size, 7, none⟩) (by simp; omega) _), (grown_new2 (grown_new2 (grown_new2 (grown_new2 (grown_new2 (grown_new2 (grown_new2 (grown_new2 (grown_new2 S0.out.2.2.2 (p := ⟨w.heap.size + 1, 2, none⟩) (Nat.le_succ _) _) (p := ⟨w.heap.size, 0, none⟩) (Nat.le_refl _) _) (p := ⟨w.heap.size, 1, none⟩) (Nat.le_refl _) _) (p := ⟨w.heap.size, 2, none⟩) (Nat.le_refl _) _) (p := ⟨w.heap.size, 3, none⟩) (Nat.le_refl _) _) (p := ⟨w.heap.size, 4, none⟩) (Nat.le_refl _) _) (p := ⟨w.heap.size, 5, none⟩) (Nat.le_refl _) _) (p := ⟨w.heap.size, 6, none⟩) (Nat.le_refl _) _) (p := ⟨w.heap.size, 7, none⟩) (Nat.le_refl _) _)⟩
  | none =>
    rw [ht] at hcall
    have HW := Lib.hid (show wordF (s.data.toList.drop k) = none by
      rw [HD.out, wordF, HC.out, if_neg (by decide), if_neg (by decide), if_pos rfl, ht]
      rfl)
    clear ht
    refine hcall.mono ?_
    rintro e w2 ⟨rfl, hg2⟩
    have B0 : Blk w2 (w.heap.size + 1) 35 #[.int .i64 2, .int .i64 (k : Int), .string ⟨#[]⟩, .int .u64 0, .int .u64 0, .int .u64 0, .int .u64 0, .int .i64 0] ∧ Blk w2 w.heap.size 35 zeroC ∧  w.grownBy w2 (some g) :=
      ⟨kq.1.grown hg2 (by simp; omega), kq.2.1.grown hg2 (by simp; omega),  grown_trans kq.2.2.2 hg2⟩
    have S0 := Lib.hid B0
    obtain ⟨z0, z1, z2, z3, z4, z5, z6, z7, zf⟩ := B0.1.facts8
    obtain ⟨x0, x1, x2, x3, x4, x5, x6, x7, xf⟩ := B0.2.1.facts8
    clear B0 hg2
    go_wp2_with fail
    rw [HW.out]
    exact ⟨rfl, rfl, (grown_new2 S0.out.2.2 (p := ⟨w.heap.size + 1, 2, none⟩) (Nat.le_succ _) _)⟩

end Go.Proofs.YtacgnbelcpmjfaaGreatDoor.Dx
