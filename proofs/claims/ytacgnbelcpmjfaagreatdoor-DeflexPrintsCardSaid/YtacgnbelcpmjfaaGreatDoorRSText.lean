/-
  WALKS: the document's text of a set.
-/
import Derived.Test.YtacgnbelcpmjfaaGreatDoorRRanges
import Derived.Test.YtacgnbelcpmjfaaGreatDoorRBase
import Derived.Test.YtacgnbelcpmjfaaGreatDoorSText
import Derived.Test.YtacgnbelcpmjfaaGreatDoorLaws
set_option linter.unusedVariables false
set_option linter.unusedSimpArgs false
namespace Go.Proofs.YtacgnbelcpmjfaaGreatDoor.Dx
open Go.RowKit Go.Proofs Mx Bx
theorem wrap_subR (a b : UInt8) : IntKind.i64.wrap ((b.toNat : Int) - (a.toNat : Int)) = (b.toNat : Int) - (a.toNat : Int) := by
  have := a.toNat_lt; have := b.toNat_lt; rw [IntKind.wrap_i64]; omega
theorem one_text (c : UInt8) : ∃ T : ByteArray, T.data.toList = oneF c ∧ T.size ≤ 4 ∧ ∀ W, Calls Tryz.prog 70 #[.int .u8 (c.toNat : Int)] W fun e w' => e = .returned (.string T) ∧ Below W.heap.size W w' := by
  refine ⟨⟨(oneF c).toArray⟩, by simp, ?_, fun W => rone_any c W⟩
  rw [Lib.size_eq]
  simpa using oneF_len c
set_option maxRecDepth 100000 in
set_option maxHeartbeats 4000000 in
theorem rstext_any (M : Nat) (hM : M < 2 ^ 256) (w : World) :
    Calls Tryz.prog 56 #[setV M] w fun e w' => e = .returned (.string ⟨(setText M).toArray⟩) ∧ Below w.heap.size w w' := by
  have hby := fun W => rbytes_any M W
  unfold setV at hby ⊢
  go_enter Tryz.func56, Tryz.ntmps56
  go_wp2_with fail
  refine (hby _).mono ?_
  rintro e w1 ⟨v, rfl, hl, hb1⟩
  obtain ⟨la, lc, rfl⟩ := own_shape hl
  have hS1 : Blk w1 w.heap.size 33 #[.int .u64 (wd M 0), .int .u64 (wd M 1), .int .u64 (wd M 2), .int .u64 (wd M 3)] := (Blk.new w _ _).below hb1 (by simp)
  have hL1 : Below w.heap.size w w1 := ((Below.refl w.heap.size w).alloc (Nat.le_refl _) _).trans (hb1.mono (by simp))
  have H1 := Lib.hid (And.intro hS1 hL1)
  obtain ⟨c0, c1, c2, c3, cf⟩ := hS1.facts4
  clear hby hl hb1 hS1 hL1
  by_cases hbig : 128 < (bytesOf M).length
  case' pos =>
    have hbi : (128 : Int) < ((bytesOf M).length : Int) := by omega
    have hnot := fun W => rnot_any M hM W
    unfold setV at hnot
    go_wp2_with fail
    refine (hnot _).mono ?_
    rintro e w4 ⟨rfl, hb4⟩
    have hS4 := H1.out.1.below hb4 H1.out.1.lt
    have hL4 := H1.out.2.trans (hb4.mono H1.out.2.size)
    obtain ⟨f0, f1, f2, f3, ff⟩ := hS4.facts4
    clear c0 c1 c2 c3 cf hnot hS4
    go_wp2_with fail
    obtain ⟨W, hW⟩ : ∃ W, (((w4.setCell ⟨w.heap.size, 0, none⟩ (.int .u64 (wd (notM M) 0))).setCell ⟨w.heap.size, 1, none⟩ (.int .u64 (wd (notM M) 1))).setCell ⟨w.heap.size, 2, none⟩ (.int .u64 (wd (notM M) 2))).setCell ⟨w.heap.size, 3, none⟩ (.int .u64 (wd (notM M) 3)) = W := ⟨_, rfl⟩
    obtain ⟨N, hN⟩ : ∃ N, notM M = N := ⟨_, rfl⟩
    have hBeW : Below w.heap.size w W := by
      rw [← hW]
      exact (((hL4.setCell (p := ⟨w.heap.size, 0, none⟩) (Nat.le_refl _) _).setCell (p := ⟨w.heap.size, 1, none⟩) (Nat.le_refl _) _).setCell (p := ⟨w.heap.size, 2, none⟩) (Nat.le_refl _) _).setCell (p := ⟨w.heap.size, 3, none⟩) (Nat.le_refl _) _
    obtain ⟨P, hP⟩ : ∃ P : ByteArray, (⟨#[91, 94]⟩ : ByteArray) = P := ⟨_, rfl⟩
    have hst : setText M = P.data.toList ++ (itemsT N ++ [93]) := by rw [setText, if_pos hbig, ← hP, ← hN]; rfl
    have hPl : P.size ≤ 2 := by rw [← hP]; decide
    clear f0 f1 f2 f3 ff hb4 hL4 hbig H1 hbi
    rw [hW, hN, hP]
    have HS := Lib.hid (And.intro hBeW (And.intro hst hPl))
    clear hBeW hst hN hW hPl hP
  case' neg =>
    have hbi : ¬ (128 : Int) < ((bytesOf M).length : Int) := by omega
    go_wp2_with fail
    obtain ⟨W, hW⟩ : ∃ W, w1 = W := ⟨_, rfl⟩
    obtain ⟨N, hN⟩ : ∃ N, M = N := ⟨_, rfl⟩
    obtain ⟨P, hP⟩ : ∃ P : ByteArray, (⟨#[91]⟩ : ByteArray) = P := ⟨_, rfl⟩
    have hBeW : Below w.heap.size w W := by rw [← hW]; exact H1.out.2
    have hst : setText M = P.data.toList ++ (itemsT N ++ [93]) := by rw [setText, if_neg hbig, ← hP, ← hN]; rfl
    have hPl : P.size ≤ 2 := by rw [← hP]; decide
    clear c0 c1 c2 c3 cf hbig H1 hbi
    rw [hW, hN, hP]
    have HS := Lib.hid (And.intro hBeW (And.intro hst hPl))
    clear hBeW hst hN hW hPl hP
  all_goals
    have hrg := rranges_any N W
    unfold setV at hrg
    refine hrg.mono ?_
    rintro e w5 ⟨v, rfl, hown, hb5⟩
    have hle := (rgL_to N 256 (Nat.le_refl _)).1
    have hl256 : (rgL (bytesOf N)).length ≤ 256 := Nat.le_trans (rgL_len_le _) (bytesOf_len N)
    have hit : itemsT N = (rgL (bytesOf N)).flatMap itemT := rfl
    rw [show rgL (bytesTo N 256) = rgL (bytesOf N) from rfl] at hle
    obtain ⟨l, hll⟩ : ∃ l, rgL (bytesOf N) = l := ⟨_, rfl⟩
    rw [hll] at hown hle hl256 hit
    obtain ⟨sa, sc, rfl⟩ := own_shape hown
    have hBe5 := HS.out.1.trans (hb5.mono HS.out.1.size)
    have H5 := Lib.hid (And.intro hown (And.intro hBe5 (And.intro hit hle)))
    clear hown hBe5 hit hle hb5 hll hrg
    go_wp2_with fail
    go_loopg [3, 5] l.length (fun m v3 v5 wr => ∃ (k : Nat) (O : ByteArray), k ≤ l.length ∧ m = l.length - k ∧ v5 = .int .i64 k ∧ v3 = .string O ∧ O.size ≤ 2 + 9 * k ∧ O.data.toList = P.data.toList ++ (l.take k).flatMap itemT ∧ Below w5.heap.size w5 wr)
    case atStart => exact ⟨0, P, Nat.zero_le _, rfl, rfl, rfl, HS.out.2.2, by simp, Below.refl _ _⟩
    case round =>
      obtain ⟨k, O, hk, hm, rfl, rfl, hO, hOl, hbe⟩ := hrel
      by_cases hlt : k < l.length
      · obtain ⟨ab, hab⟩ : ∃ ab, l[k]? = some ab := ⟨l[k], List.getElem?_eq_getElem hlt⟩
        obtain ⟨a, b⟩ := ab
        have hle : a.toNat ≤ b.toNat := H5.out.2.2.2 (a, b) (List.mem_of_getElem? hab)
        obtain ⟨g, rfl⟩ : ∃ g, sa = some ⟨g, 0, none⟩ := by
          rcases H5.out.1.2 with ⟨_, h0⟩ | ⟨g, cap, cur, hv, _⟩
          · omega
          · injection hv with e1 _ _; exact ⟨g, e1⟩
        have hrow := row_below H5.out.1 hbe
        obtain ⟨ca, cb⟩ := rcells_get l k a b hab
        have ca' : wr.cell? ⟨g, k * 2, none⟩ = some (.int .u8 (a.toNat : Int)) := (hrow.cellAt (k * 2) (by omega)).trans ca
        have cb' : wr.cell? ⟨g, k * 2 + 1, none⟩ = some (.int .u8 (b.toNat : Int)) := (hrow.cellAt (k * 2 + 1) (by omega)).trans cb
        have hki : (k : Int) < (l.length : Int) := by omega
        have hk0 : (0 : Int) ≤ (k : Int) := by omega
        have hnext := items_take l k a b hab
        obtain ⟨TA, hTA, hTAs, hone⟩ := one_text a
        obtain ⟨TB, hTB, hTBs, honeb⟩ := one_text b
        have ha256 := a.toNat_lt
        have hb256 := b.toNat_lt
        have hgw : g < wr.heap.size := (hrow.lt g rfl).2
        have H6 := Lib.hid (And.intro hm (And.intro hbe (And.intro hnext (And.intro hOl (And.intro hTA hTB)))))
        have hs1 : ¬ 9223372036854775807 < O.size + TA.size := by omega
        have hs2 : ¬ 9223372036854775807 < O.size + TA.size + TB.size := by omega
        have hs3 : ¬ 9223372036854775807 < O.size + TA.size + 1 := by omega
        have hs4 : ¬ 9223372036854775807 < O.size + TA.size + 1 + TB.size := by omega
        have hwa := wrap_bR a
        have hwb := wrap_bR b
        have hws := wrap_subR a b
        clear hrow hm hbe hnext hab ca cb hOl hTA hTB
        go_wp2_with fail
        refine (hone _).mono ?_
        rintro e w6 ⟨rfl, hb6⟩
        have da : w6.cell? ⟨g, k * 2, none⟩ = some (.int .u8 (a.toNat : Int)) := (hb6.cell (p := ⟨g, k * 2, none⟩) hgw).trans ca'
        have db : w6.cell? ⟨g, k * 2 + 1, none⟩ = some (.int .u8 (b.toNat : Int)) := (hb6.cell (p := ⟨g, k * 2 + 1, none⟩) hgw).trans cb'
        have H7 := Lib.hid (H6.out.2.1.trans (hb6.mono H6.out.2.1.size))
        clear hb6 ca' cb' hone
        by_cases hba : b = a
        · have hq1 : ((b.toNat : Int) != (a.toNat : Int)) = false := by rw [hba]; simp
          have hq2 : ¬ (1 : Int) < (b.toNat : Int) - (a.toNat : Int) := by rw [hba]; omega
          have hIT := Lib.hid (itemT_one a b hba)
          clear hba hle
          go_wp2_with fail
          go_quiet (fail)
          go_wp2_with fail
          go_quiet (fail)
          go_wp2_with fail
          go_roundg (l.length - (k + 1))
          case measure => have := H6.out.1; omega
          case rel =>
            refine ⟨k + 1, O ++ TA, by omega, rfl, rfl, rfl, by rw [ByteArray.size_append]; omega, ?_, below_drewN H7.out _⟩
            rw [H6.out.2.2.1, hIT.out, ByteArray.data_append, Array.toList_append, H6.out.2.2.2.1, H6.out.2.2.2.2.1, List.append_assoc]
        · have hne : b.toNat ≠ a.toNat := fun e => hba (UInt8.toNat_inj.1 e)
          have hq1 : ((b.toNat : Int) != (a.toNat : Int)) = true := by simp; omega
          by_cases hd : 1 < b.toNat - a.toNat
          · have hq2 : (1 : Int) < (b.toNat : Int) - (a.toNat : Int) := by omega
            have hIT := Lib.hid (itemT_dash a b hba hd)
            clear hba hd hne hle
            go_wp2_with fail
            go_quiet (fail)
            go_wp2_with fail
            go_quiet (fail)
            go_wp2_with fail
            refine (honeb _).mono ?_
            rintro e w8 ⟨rfl, hb8⟩
            have H8 := Lib.hid ((below_drewN H7.out _).trans (hb8.mono (Below.size (below_drewN H7.out _))))
            clear hb8
            go_wp2_with fail
            go_roundg (l.length - (k + 1))
            case measure => have := H6.out.1; omega
            case rel =>
              refine ⟨k + 1, ((O ++ TA) ++ ⟨#[45]⟩) ++ TB, by omega, rfl, rfl, rfl, by simp only [ByteArray.size_append]; show O.size + TA.size + 1 + TB.size ≤ _; omega, ?_, H8.out⟩
              rw [H6.out.2.2.1, hIT.out]
              simp only [ByteArray.data_append, Array.toList_append, H6.out.2.2.2.1, H6.out.2.2.2.2.1, H6.out.2.2.2.2.2, List.append_assoc]
          · have hq2 : ¬ (1 : Int) < (b.toNat : Int) - (a.toNat : Int) := by omega
            have hIT := Lib.hid (itemT_two a b hba hd)
            clear hba hd hne hle
            go_wp2_with fail
            go_quiet (fail)
            go_wp2_with fail
            go_quiet (fail)
            go_wp2_with fail
            refine (honeb _).mono ?_
            rintro e w8 ⟨rfl, hb8⟩
            have H8 := Lib.hid ((below_drewN H7.out _).trans (hb8.mono (Below.size (below_drewN H7.out _))))
            clear hb8
            go_wp2_with fail
            go_roundg (l.length - (k + 1))
            case measure => have := H6.out.1; omega
            case rel =>
              refine ⟨k + 1, (O ++ TA) ++ TB, by omega, rfl, rfl, rfl, by simp only [ByteArray.size_append]; omega, ?_, H8.out⟩
              rw [H6.out.2.2.1, hIT.out]
              simp only [ByteArray.data_append, Array.toList_append, H6.out.2.2.2.1, H6.out.2.2.2.2.1, H6.out.2.2.2.2.2, List.append_assoc]
      · obtain rfl : k = l.length := by omega
        have A := Lib.hid (And.intro hOl hbe)
        have hs1 : ¬ 9223372036854775807 < O.size + 1 := by omega
        clear hOl hbe hm
        go_wp2_with fail
        go_ret
        refine ⟨?_, H5.out.2.1.trans (A.out.2.mono H5.out.2.1.size)⟩
        have hfin : (O ++ ⟨#[93]⟩ : ByteArray).data.toList = setText M := by
          rw [HS.out.2.1, H5.out.2.2.1, str_app O _ [93] A.out.1, List.take_length, List.append_assoc]
        rw [str_eq _ _ hfin]
        rfl
end Go.Proofs.YtacgnbelcpmjfaaGreatDoor.Dx
