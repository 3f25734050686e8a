/-
  WALKS of the reader: word (a number), and whatever begins there.
-/
import Derived.Test.YtacgnbelcpmjfaaGreatDoorWord2
set_option linter.unusedVariables false
set_option linter.unusedSimpArgs false
namespace Go.Proofs.YtacgnbelcpmjfaaGreatDoor.Dx
open Go.RowKit Go.Proofs Mx

def AtoiOut : Option Int → Ending → Prop
  | some v, e => e = .returned (.tuple #[.int .i64 v, .nilIface])
  | none, e => ∃ (x : Int) (N : Nat), e = .returned (.tuple #[.int .i64 x, .iface 136 (.pointer (some ⟨N, 0, none⟩))])
theorem atoi_any (s : ByteArray) (hs : s.size ≤ 400000000) (w : World) (E : Env w) :
    Calls Tryz.prog 72 #[.string s] w fun e w' => AtoiOut (atoiO s.data.toList) e ∧ Below w.heap.size w w' := by
  obtain ⟨st, sp, hsy⟩ := E.synt
  obtain ⟨rt, rp, hra⟩ := E.rang
  unfold atoiO
  cases h : Lib.atoiAll s.data.toList with
  | ok v =>
    refine (Tryz.strconv_Atoi_ok s (by omega) v h w).mono ?_
    rintro e w' ⟨rfl, h2⟩
    refine ⟨rfl, ?_⟩
    rcases h2 with rfl | ⟨t, rfl⟩
    · exact Below.refl _ _
    · exact Lib.bytesWorld_below _ _ _
  | range =>
    refine (Tryz.strconv_Atoi_range s (by omega) h _ w hra (.inr ⟨rt, rp, rfl⟩)).mono ?_
    rintro e w' ⟨N, rfl, _, _, hb⟩
    exact ⟨⟨_, N, rfl⟩, hb⟩
  | _ =>
    refine (Any.strconv_Atoi_syntax Tryz.laysC172 s (by omega) h _ w hsy (.inr ⟨st, sp, rfl⟩)).mono ?_
    rintro e w' ⟨N, rfl, _, _, hb⟩
    exact ⟨⟨_, N, rfl⟩, hb⟩
set_option maxRecDepth 100000 in
set_option maxHeartbeats 2000000 in
theorem word_num (g : Nat) (s : ByteArray) (k : Nat) (w : World) (hs : s.size ≤ 400000000) (hk : k < s.size) (hR : Rd w g s k) (E : Env w) (hg6 : LB ≤ g) (hc : classI (s[k].toNat : Int) = 2) :
    Calls Tryz.prog 58 #[.pointer (some ⟨g, 0, none⟩)] w (WordOut s k g w (wordF (s.data.toList.drop k))) := by
  have HD := Lib.hid (drop_cons s k hk)
  obtain ⟨b, hb⟩ : ∃ b, s[k] = b := ⟨_, rfl⟩
  rw [hb] at hc HD
  have hgw : g < w.heap.size := hR.lt
  obtain ⟨c0, c1, cf⟩ := hR.facts2
  have hx0 : (0 : Int) ≤ (k : Int) := by omega
  have hx1 : (k : Int) < (s.size : Int) := by omega
  have n1 : (classI (b.toNat : Int) == 1) = false := by rw [hc]; rfl
  have n2 : (classI (b.toNat : Int) == 2) = true := by rw [hc]; rfl
  have HC := Lib.hid hc
  clear hc
  have hbw : (b :: s.data.toList.drop (k + 1)).takeWhile wordB = (s.data.toList.drop k).takeWhile wordB := by rw [HD.out]
  have HBW := Lib.hid hbw
  clear hbw
  have HB := Lib.hid (show ∀ n, Blk (((w.alloc (.cells #[.int .i64 0, .int .i64 0, .string ⟨#[]⟩, .int .u64 0, .int .u64 0, .int .u64 0, .int .u64 0, .int .i64 0] 35)).alloc (.cells #[.int .i64 0, .int .i64 (k : Int), .string ⟨#[]⟩, .int .u64 0, .int .u64 0, .int .u64 0, .int .u64 0, .int .i64 0] 35)).drewN n) (w.heap.size + 1) 35 #[.int .i64 0, .int .i64 (k : Int), .string ⟨#[]⟩, .int .u64 0, .int .u64 0, .int .u64 0, .int .u64 0, .int .i64 0] ∧ Blk (((w.alloc (.cells #[.int .i64 0, .int .i64 0, .string ⟨#[]⟩, .int .u64 0, .int .u64 0, .int .u64 0, .int .u64 0, .int .i64 0] 35)).alloc (.cells #[.int .i64 0, .int .i64 (k : Int), .string ⟨#[]⟩, .int .u64 0, .int .u64 0, .int .u64 0, .int .u64 0, .int .i64 0] 35)).drewN n) w.heap.size 35 zeroC ∧ Rd (((w.alloc (.cells #[.int .i64 0, .int .i64 0, .string ⟨#[]⟩, .int .u64 0, .int .u64 0, .int .u64 0, .int .u64 0, .int .i64 0] 35)).alloc (.cells #[.int .i64 0, .int .i64 (k : Int), .string ⟨#[]⟩, .int .u64 0, .int .u64 0, .int .u64 0, .int .u64 0, .int .i64 0] 35)).drewN n) g s k ∧ w.grownBy (((w.alloc (.cells #[.int .i64 0, .int .i64 0, .string ⟨#[]⟩, .int .u64 0, .int .u64 0, .int .u64 0, .int .u64 0, .int .i64 0] 35)).alloc (.cells #[.int .i64 0, .int .i64 (k : Int), .string ⟨#[]⟩, .int .u64 0, .int .u64 0, .int .u64 0, .int .u64 0, .int .i64 0] 35)).drewN n) (some g) from fun n =>
    ⟨(Blk.new_ (by simp) _ _).drewN n, ((Blk.new_ rfl _ _).alloc _).drewN n, ((hR.alloc _).alloc _).drewN n, grown_drewN (grown_alloc (grown_alloc (grown_refl _ _) _) _) n⟩)
  go_enter Tryz.func58, Tryz.ntmps58
  go_wp2_with fail
  go_quiet ((first | (go_at_call 37; refine (class_q b _).mono ?_; rintro e w' ⟨rfl, rfl⟩; exact ⟨rfl, _, rfl⟩)))
  go_wp2_with fail
  refine (run_any g s k _ (by omega) (by omega) (HB.out _).2.2.1).mono ?_
  rintro e w2 ⟨rfl, hR2, hg2⟩
  have B0 : Blk w2 (w.heap.size + 1) 35 #[.int .i64 0, .int .i64 (k : Int), .string ⟨#[]⟩, .int .u64 0, .int .u64 0, .int .u64 0, .int .u64 0, .int .i64 0] ∧ Blk w2 w.heap.size 35 zeroC ∧ Rd w2 g s (k + tw s k) ∧ w.grownBy w2 (some g) :=
    ⟨(HB.out _).1.grown hg2 (by simp; omega), (HB.out _).2.1.grown hg2 (by simp; omega), hR2, grown_trans (HB.out _).2.2.2 hg2⟩
  have S0 := Lib.hid B0
  obtain ⟨z0, z1, z2, z3, z4, z5, z6, z7, zf⟩ := B0.1.facts8
  obtain ⟨x0, x1, x2, x3, x4, x5, x6, x7, xf⟩ := B0.2.1.facts8
  clear B0 hR2 hg2 HB c0 c1 cf
  have hrs := run_size s k
  have hrt := run_text s k
  obtain ⟨r, hr⟩ : ∃ r, s.extract k (k + tw s k) = r := ⟨_, rfl⟩
  rw [hr] at hrs hrt ⊢
  have hE2 : Env w2 := E.grown S0.out.2.2.2 hg6
  have hS2 := Lib.hid hE2
  obtain ⟨c, t, hct⟩ : ∃ c t, r.data.toList = c :: t ∧ c = b ∧ digB c = true := by
    have hwb : wordB b = true := (word_cls b).2 (.inr HC.out)
    refine ⟨b, (s.data.toList.drop (k + 1)).takeWhile wordB, ?_, rfl, ?_⟩
    · rw [hrt, ← HBW.out, List.takeWhile_cons, if_pos hwb]
    · have := classI_cases (b.toNat : Int) _ (sign_index b) sign_range
      have := HC.out
      exact digitB_true.2 (by omega)
  obtain ⟨hct, rfl, hdig⟩ := hct
  have hlen : (c :: t).length = tw s k := by rw [← hct, ← Lib.size_eq, hrs]
  have htr : (s.data.toList.drop k).takeWhile wordB = c :: t := by rw [← hrt, hct]
  clear hE2
  have hrz : r.size ≤ 400000000 := by have := tw_le s k; omega
  have hr1 : 0 < r.size := by rw [hrs, ← hlen]; simp
  have hat := fun W hE => atoi_any r hrz W hE
  cases hn : numF (c :: t) with
  | some n =>
    obtain ⟨a1, a2, a3⟩ := atoiO_num c t hdig n hn
    have HW := Lib.hid (show wordF (s.data.toList.drop k) = some (⟨4, [], 0, n⟩, tw s k) by
      have h2 : ((s.data.toList.drop k).takeWhile wordB).length = tw s k := rfl
      rw [HD.out, wordF, HC.out, if_neg (by decide), if_pos rfl, HBW.out, htr, hn, hlen]
      rfl)
    rw [hct, a1] at hat
    have HA := Lib.hid hat
    have hz9 : (r.size : Int) ≤ 9 := by omega
    have HZ := Lib.hid (And.intro hct (And.intro hlen hrs))
    have hq : (r.toList == [48]) = true ∨ ((r.toList == [48]) = false ∧ ((c.toNat : Int) != 48) = true) := by
      rw [ByteArray.toList_eq, hct]
      by_cases h1 : c :: t = [48]
      · exact .inl (by rw [h1]; rfl)
      · refine .inr ⟨by simpa using h1, ?_⟩
        rcases a3 with a3 | a3
        · exact absurd a3 h1
        · simp only [bne_iff_ne, ne_eq]; exact u8_ne a3
    have hr0 : (0 : Int) < (r.size : Int) := by omega
    have hrc : r[0]'hr1 = c := by
      have h0 : r.data.toList[0]? = some c := by rw [hct]; rfl
      have hlt : 0 < r.data.toList.length := by rw [hct]; simp
      rw [List.getElem?_eq_getElem hlt, Array.getElem_toList] at h0
      exact Option.some.inj h0
    clear hat a1 a2 a3 hn hct hlen hrs hrt hr htr hdig
    clear z0 z1 z2 z3 z4 z5 z6 z7 zf x0 x1 x2 x3 x4 x5 x6 x7 xf
    go_wp2_with fail
    refine (HA.out _ hS2.out).mono ?_
    rintro e w3 ⟨rfl, hb3⟩
    have B0 : Blk w3 (w.heap.size + 1) 35 #[.int .i64 0, .int .i64 (k : Int), .string ⟨#[]⟩, .int .u64 0, .int .u64 0, .int .u64 0, .int .u64 0, .int .i64 0] ∧ Blk w3 w.heap.size 35 zeroC ∧ Rd w3 g s (k + tw s k) ∧ w.grownBy w3 (some g) :=
      ⟨S0.out.1.below hb3 S0.out.1.lt, S0.out.2.1.below hb3 S0.out.2.1.lt, S0.out.2.2.1.below hb3 S0.out.2.2.1.lt, grown_below S0.out.2.2.2 hb3⟩
    have S1 := Lib.hid B0
    obtain ⟨z0, z1, z2, z3, z4, z5, z6, z7, zf⟩ := B0.1.facts8
    obtain ⟨x0, x1, x2, x3, x4, x5, x6, x7, xf⟩ := B0.2.1.facts8
    clear B0 hb3
    rcases hq with hq | ⟨hq, hq2⟩
    · go_wp2_with fail
      have hbk := ((((((((((S1.out.2.1.far (p := ⟨w.heap.size + 1, 0, none⟩) (by simp) (.int .i64 4)).far (p := ⟨w.heap.size + 1, 7, none⟩) (by simp) (.int .i64 (n : Int))).set_ 0 (.int .i64 4)).set_ 1 (.int .i64 (k : Int))).set_ 2 (.string ⟨#[]⟩)).set_ 3 (.int .u64 0)).set_ 4 (.int .u64 0)).set_ 5 (.int .u64 0)).set_ 6 (.int .u64 0)).set_ 7 (.int .i64 (n : Int)))
      refine bodyPost_ret (results_cell_row (by rfl) _ _ w.heap.size 35 _ (0, 0) _ (by rfl) hbk Tryz.underlying35 (by rfl) (by kernel_rfl)) rfl ?_
      rw [HW.out]
      exact ⟨(by rw [wdV, wdC]; simp only [wd_zero]; rfl), ((((((((((S1.out.2.2.1.far (p := ⟨w.heap.size + 1, 0, none⟩) (by simp; omega) _).far (p := ⟨w.heap.size + 1, 7, none⟩) (by simp; omega) _).far (p := ⟨w.heap.size, 0, none⟩) (by simp; omega) _).far (p := ⟨w.heap.size, 1, none⟩) (by simp; omega) _).far (p := ⟨w.heap.size, 2, none⟩) (by simp; omega) _).far (p := ⟨w.heap.size, 3, none⟩) (by simp; omega) _).far (p := ⟨w.heap.size, 4, none⟩) (by simp; omega) _).far (p := ⟨w.heap.size, 5, none⟩) (by simp; omega) _).far (p := ⟨w.heap.size, 6, none⟩) (by simp; omega) _).far (p := ⟨w.heap.size, 7, none⟩) (by simp; omega) _), (grown_new2 (grown_new2 (grown_new2 (grown_new2 (grown_new2 (grown_new2 (grown_new2 (grown_new2 (grown_new2 (grown_new2 S1.out.2.2.2 (p := ⟨w.heap.size + 1, 0, none⟩) (Nat.le_succ _) _) (p := ⟨w.heap.size + 1, 7, none⟩) (Nat.le_succ _) _) (p := ⟨w.heap.size, 0, none⟩) (Nat.le_refl _) _) (p := ⟨w.heap.size, 1, none⟩) (Nat.le_refl _) _) (p := ⟨w.heap.size, 2, none⟩) (Nat.le_refl _) _) (p := ⟨w.heap.size, 3, none⟩) (Nat.le_refl _) _) (p := ⟨w.heap.size, 4, none⟩) (Nat.le_refl _) _) (p := ⟨w.heap.size, 5, none⟩) (Nat.le_refl _) _) (p := ⟨w.heap.size, 6, none⟩) (Nat.le_refl _) _) (p := ⟨w.heap.size, 7, none⟩) (Nat.le_refl _) _)⟩
    · go_wp2_with fail
      have hbk := ((((((((((S1.out.2.1.far (p := ⟨w.heap.size + 1, 0, none⟩) (by simp) (.int .i64 4)).far (p := ⟨w.heap.size + 1, 7, none⟩) (by simp) (.int .i64 (n : Int))).set_ 0 (.int .i64 4)).set_ 1 (.int .i64 (k : Int))).set_ 2 (.string ⟨#[]⟩)).set_ 3 (.int .u64 0)).set_ 4 (.int .u64 0)).set_ 5 (.int .u64 0)).set_ 6 (.int .u64 0)).set_ 7 (.int .i64 (n : Int)))
      refine bodyPost_ret (results_cell_row (by rfl) _ _ w.heap.size 35 _ (0, 0) _ (by rfl) hbk Tryz.underlying35 (by rfl) (by kernel_rfl)) rfl ?_
      rw [HW.out]
      exact ⟨(by rw [wdV, wdC]; simp only [wd_zero]; rfl), ((((((((((S1.out.2.2.1.far (p := ⟨w.heap.size + 1, 0, none⟩) (by simp; omega) _).far (p := ⟨w.heap.size + 1, 7, none⟩) (by simp; omega) _).far (p := ⟨w.heap.size, 0, none⟩) (by simp; omega) _).far (p := ⟨w.heap.size, 1, none⟩) (by simp; omega) _).far (p := ⟨w.heap.size, 2, none⟩) (by simp; omega) _).far (p := ⟨w.heap.size, 3, none⟩) (by simp; omega) _).far (p := ⟨w.heap.size, 4, none⟩) (by simp; omega) _).far (p := ⟨w.heap.size, 5, none⟩) (by simp; omega) _).far (p := ⟨w.heap.size, 6, none⟩) (by simp; omega) _).far (p := ⟨w.heap.size, 7, none⟩) (by simp; omega) _), (grown_new2 (grown_new2 (grown_new2 (grown_new2 (grown_new2 (grown_new2 (grown_new2 (grown_new2 (grown_new2 (grown_new2 S1.out.2.2.2 (p := ⟨w.heap.size + 1, 0, none⟩) (Nat.le_succ _) _) (p := ⟨w.heap.size + 1, 7, none⟩) (Nat.le_succ _) _) (p := ⟨w.heap.size, 0, none⟩) (Nat.le_refl _) _) (p := ⟨w.heap.size, 1, none⟩) (Nat.le_refl _) _) (p := ⟨w.heap.size, 2, none⟩) (Nat.le_refl _) _) (p := ⟨w.heap.size, 3, none⟩) (Nat.le_refl _) _) (p := ⟨w.heap.size, 4, none⟩) (Nat.le_refl _) _) (p := ⟨w.heap.size, 5, none⟩) (Nat.le_refl _) _) (p := ⟨w.heap.size, 6, none⟩) (Nat.le_refl _) _) (p := ⟨w.heap.size, 7, none⟩) (Nat.le_refl _) _)⟩
  | none =>
    have HW := Lib.hid (show wordF (s.data.toList.drop k) = none by
      have h2 : ((s.data.toList.drop k).takeWhile wordB).length = tw s k := rfl
      rw [HD.out, wordF, HC.out, if_neg (by decide), if_pos rfl, HBW.out, htr, hn]
      rfl)
    rcases atoiO_none c t hdig hn with a1 | ⟨x, a1, a2 | ⟨a2, a3, a4⟩⟩
    · rw [hct, a1] at hat
      have HA := Lib.hid hat
      clear hat a1 hn hct hlen hrs hrt hr htr hdig
      clear z0 z1 z2 z3 z4 z5 z6 z7 zf x0 x1 x2 x3 x4 x5 x6 x7 xf
      go_wp2_with fail
      refine (HA.out _ hS2.out).mono ?_
      rintro e w3 ⟨⟨x, N, rfl⟩, hb3⟩
      have B0 : Blk w3 (w.heap.size + 1) 35 #[.int .i64 0, .int .i64 (k : Int), .string ⟨#[]⟩, .int .u64 0, .int .u64 0, .int .u64 0, .int .u64 0, .int .i64 0] ∧ Blk w3 w.heap.size 35 zeroC ∧ Rd w3 g s (k + tw s k) ∧ w.grownBy w3 (some g) :=
        ⟨S0.out.1.below hb3 S0.out.1.lt, S0.out.2.1.below hb3 S0.out.2.1.lt, S0.out.2.2.1.below hb3 S0.out.2.2.1.lt, grown_below S0.out.2.2.2 hb3⟩
      have S1 := Lib.hid B0
      obtain ⟨z0, z1, z2, z3, z4, z5, z6, z7, zf⟩ := B0.1.facts8
      obtain ⟨x0, x1, x2, x3, x4, x5, x6, x7, xf⟩ := B0.2.1.facts8
      clear B0 hb3
      go_wp2_with fail
      rw [HW.out]
      exact ⟨rfl, rfl, (grown_new2 (grown_new2 S1.out.2.2.2 (p := ⟨w.heap.size + 1, 0, none⟩) (Nat.le_succ _) _) (p := ⟨w.heap.size + 1, 7, none⟩) (Nat.le_succ _) _)⟩
    · rw [hct, a1] at hat
      have HA := Lib.hid hat
      have hz9 : decide ((r.size : Int) ≤ 9) = false := by simp; omega
      clear hat a1 a2 hn hct hlen hrs hrt hr htr hdig
      clear z0 z1 z2 z3 z4 z5 z6 z7 zf x0 x1 x2 x3 x4 x5 x6 x7 xf
      go_wp2_with fail
      refine (HA.out _ hS2.out).mono ?_
      rintro e w3 ⟨rfl, hb3⟩
      have B0 : Blk w3 (w.heap.size + 1) 35 #[.int .i64 0, .int .i64 (k : Int), .string ⟨#[]⟩, .int .u64 0, .int .u64 0, .int .u64 0, .int .u64 0, .int .i64 0] ∧ Blk w3 w.heap.size 35 zeroC ∧ Rd w3 g s (k + tw s k) ∧ w.grownBy w3 (some g) :=
        ⟨S0.out.1.below hb3 S0.out.1.lt, S0.out.2.1.below hb3 S0.out.2.1.lt, S0.out.2.2.1.below hb3 S0.out.2.2.1.lt, grown_below S0.out.2.2.2 hb3⟩
      have S1 := Lib.hid B0
      obtain ⟨z0, z1, z2, z3, z4, z5, z6, z7, zf⟩ := B0.1.facts8
      obtain ⟨x0, x1, x2, x3, x4, x5, x6, x7, xf⟩ := B0.2.1.facts8
      clear B0 hb3
      go_wp2_with fail
      rw [HW.out]
      exact ⟨rfl, rfl, (grown_new2 (grown_new2 S1.out.2.2.2 (p := ⟨w.heap.size + 1, 0, none⟩) (Nat.le_succ _) _) (p := ⟨w.heap.size + 1, 7, none⟩) (Nat.le_succ _) _)⟩
    · rw [hct, a1] at hat
      have HA := Lib.hid hat
      have hz9 : (r.size : Int) ≤ 9 := by omega
      have hq : (r.toList == [48]) = false := by
        rw [ByteArray.toList_eq, hct]
        simpa using a3
      have hq2 : ((c.toNat : Int) != 48) = false := by subst a4; rfl
      have hr0 : (0 : Int) < (r.size : Int) := by omega
      have hrc : r[0]'hr1 = c := by
        have h0 : r.data.toList[0]? = some c := by rw [hct]; rfl
        have hlt : 0 < r.data.toList.length := by rw [hct]; simp
        rw [List.getElem?_eq_getElem hlt, Array.getElem_toList] at h0
        exact Option.some.inj h0
      clear hat a1 a2 a3 a4 hn hct hlen hrs hrt hr htr hdig
      clear z0 z1 z2 z3 z4 z5 z6 z7 zf x0 x1 x2 x3 x4 x5 x6 x7 xf
      go_wp2_with fail
      refine (HA.out _ hS2.out).mono ?_
      rintro e w3 ⟨rfl, hb3⟩
      have B0 : Blk w3 (w.heap.size + 1) 35 #[.int .i64 0, .int .i64 (k : Int), .string ⟨#[]⟩, .int .u64 0, .int .u64 0, .int .u64 0, .int .u64 0, .int .i64 0] ∧ Blk w3 w.heap.size 35 zeroC ∧ Rd w3 g s (k + tw s k) ∧ w.grownBy w3 (some g) :=
        ⟨S0.out.1.below hb3 S0.out.1.lt, S0.out.2.1.below hb3 S0.out.2.1.lt, S0.out.2.2.1.below hb3 S0.out.2.2.1.lt, grown_below S0.out.2.2.2 hb3⟩
      have S1 := Lib.hid B0
      obtain ⟨z0, z1, z2, z3, z4, z5, z6, z7, zf⟩ := B0.1.facts8
      obtain ⟨x0, x1, x2, x3, x4, x5, x6, x7, xf⟩ := B0.2.1.facts8
      clear B0 hb3
      go_wp2_with fail
      rw [HW.out]
      exact ⟨rfl, rfl, (grown_new2 (grown_new2 S1.out.2.2.2 (p := ⟨w.heap.size + 1, 0, none⟩) (Nat.le_succ _) _) (p := ⟨w.heap.size + 1, 7, none⟩) (Nat.le_succ _) _)⟩


/-- The word that begins at the reader's place, or that none does. -/
theorem word_any (g : Nat) (s : ByteArray) (k : Nat) (w : World) (hs : s.size ≤ 400000000) (hk : k < s.size) (hR : Rd w g s k) (E : Env w) (hg6 : LB ≤ g) :
    Calls Tryz.prog 58 #[.pointer (some ⟨g, 0, none⟩)] w (WordOut s k g w (wordF (s.data.toList.drop k))) := by
  have h := classI_cases (s[k].toNat : Int) _ (sign_index s[k]) sign_range
  rcases h with h | h | h | h | h | h
  · exact word_letter g s k w hs hk hR h.1
  · exact word_num g s k w hs hk hR E hg6 h.1
  · exact word_text g s k w hs hk hR E hg6 h.1
  · exact word_set g s k w hs hk hR h.1
  · exact word_sign g s k w hs hk hR h.1
  · exact word_bad g s k w hs hk hR h.1
end Go.Proofs.YtacgnbelcpmjfaaGreatDoor.Dx
