/-
  DeflexPrints.
-/
import Derived.Test.YtacgnbelcpmjfaaGreatDoorICells
import Derived.Test.YtacgnbelcpmjfaaGreatDoorRPrint
import Derived.Test.YtacgnbelcpmjfaaGreatDoorRSame
import Derived.Laws.AppendOwnNone
import Derived.RegionTactic
set_option linter.unusedVariables false
set_option linter.unusedSimpArgs false
namespace Go.Proofs.YtacgnbelcpmjfaaGreatDoor.Dx
open Go.RowKit Go.Proofs Mx Bx
theorem tell_part (l : List (Int × Wd)) (hn : l.length ≤ 300) (ht : ∀ q ∈ l, q.2.text.length ≤ 5000) (h : allMay l = true) : (tellL (l.map (·.2))).length ≤ 100000000000 := by
  have := tell_all (l.map (·.2)) 5000 (by rw [← allMay_map]; exact h) (by
    intro v hv
    obtain ⟨q, hq, rfl⟩ := List.mem_map.1 hv
    exact ht q hq)
  rw [List.length_map] at this
  have h3 : l.length * (4 * 5000 + 2501) ≤ 300 * (4 * 5000 + 2501) := Nat.mul_le_mul_right _ hn
  omega
theorem slice_cases {w : World} {a : Option Addr} {n c : Nat} {l : List (Int × Wd)} (h : SliceW w (.slice a n c) l) : (a = none ∧ n = 0 ∧ c = 0 ∧ l = []) ∨ ∃ g o, a = some ⟨g, o, none⟩ ∧ RowW w g o l ∧ n = l.length := by
  cases h with
  | nil => exact .inl ⟨rfl, rfl, rfl, rfl⟩
  | row h hc => exact .inr ⟨_, _, rfl, h, rfl⟩
abbrev w77 : List Value := [.int .i64 0, .int .i64 77, .string ⟨#[]⟩, .int .u64 0, .int .u64 0, .int .u64 0, .int .u64 0, .int .i64 0]
theorem w77_new (w : World) (g : Nat) (hg : w.heap.size = g) : ∀ j u, w77[j]? = some u → (w.alloc (.cells #[.int .i64 0, .int .i64 77, .string ⟨#[]⟩, .int .u64 0, .int .u64 0, .int .u64 0, .int .u64 0, .int .i64 0] 35)).cell? ((⟨g, 0, none⟩ : Addr).add j) = some u := by
  intro j u hj
  have hb : Blk (w.alloc (.cells #[.int .i64 0, .int .i64 77, .string ⟨#[]⟩, .int .u64 0, .int .u64 0, .int .u64 0, .int .u64 0, .int .i64 0] 35)) g 35 #[.int .i64 0, .int .i64 77, .string ⟨#[]⟩, .int .u64 0, .int .u64 0, .int .u64 0, .int .u64 0, .int .i64 0] := Blk.new_ hg _ _
  have hadd : (⟨g, 0, none⟩ : Addr).add j = ⟨g, j, none⟩ := by simp [Addr.add]; intro h; exact h.symm
  rw [hadd, hb.cell j, ← hj]
  exact List.getElem?_toArray
theorem w77_one : ∀ u ∈ w77, u.oneCell' = true := by
  intro u hu; simp [w77] at hu; rcases hu with rfl | rfl | rfl | rfl | rfl <;> rfl
set_option maxRecDepth 100000 in
set_option maxHeartbeats 8000000 in
theorem prints_law (V : Value) (l : List (Int × Wd)) (U : Value) (k : List (Int × Wd)) (w : World) (hV : SliceW w V l) (hset : ∀ q ∈ l, q.2.set < 2 ^ 256) (hU : SliceW w U k) (hset2 : ∀ q ∈ k, q.2.set < 2 ^ 256) (E : Env w) (R : Bru w) :
    Calls Tryz.prog 4 #[V, U] w fun e w' => e = .returned (.bool true) ∧ Below w.heap.size w w' := by
  have hwk := works_any w E R
  have h10 := E.big
  have HE := Lib.hid (And.intro E R)
  clear E R
  obtain ⟨a0, c0, rfl, ho⟩ := hV.opt
  obtain ⟨b0, d0, rfl, hq⟩ := hU.opt
  have HV := Lib.hid (And.intro hV (And.intro hset (And.intro ho (And.intro hU hset2))))
  clear hV hset ho hU hset2 hq
  go_enter Tryz.func4, Tryz.ntmps4
  by_cases ha : 300 < l.length
  · have ha' : (300 : Int) < (l.length : Int) := by omega
    go_wp2_with fail
    refine hwk.mono ?_
    rintro e wz ⟨rfl, hbz⟩
    have HY := Lib.hid hbz
    clear hbz
    go_wp2_with fail
    go_ret
    exact ⟨rfl, HY.out⟩
  have ha' : ¬ (300 : Int) < (l.length : Int) := by omega
  by_cases hb : 300 < k.length
  · have hb' : (300 : Int) < (k.length : Int) := by omega
    go_wp2_with fail
    refine hwk.mono ?_
    rintro e wz ⟨rfl, hbz⟩
    have HY := Lib.hid hbz
    clear hbz
    go_wp2_with fail
    go_ret
    exact ⟨rfl, HY.out⟩
  have hb' : ¬ (300 : Int) < (k.length : Int) := by omega
  go_wp2_with fail
  go_loopg [5] l.length (fun m v wr => ∃ i : Nat, i ≤ l.length ∧ m = l.length - i ∧ v = .int .i64 i ∧ wr = w ∧ (∀ j p v, j < i → l[j]? = some (p, v) → v.text.length ≤ 5000))
  case atStart => exact ⟨0, by omega, by omega, rfl, rfl, fun j _ _ hj => absurd hj (by omega)⟩
  case round =>
    obtain ⟨i, hi, hm, rfl, rfl, hall⟩ := hrel
    have A := Lib.hid (And.intro hm hall)
    clear hm hall
    by_cases hlt : i < l.length
    · obtain ⟨g, o, rfl, hr⟩ := HV.out.2.2.1.some (by omega)
      obtain ⟨q, hq⟩ : ∃ q, l[i]? = some q := ⟨_, List.getElem?_eq_getElem hlt⟩
      obtain ⟨p, v⟩ := q
      obtain ⟨x0, x1, x2, x3, x4, x5, x6, x7⟩ := hr.cells i p v hq
      have hlt' : (i : Int) < (l.length : Int) := by omega
      have hi0 : (0 : Int) ≤ (i : Int) := by omega
      have hsz : (⟨v.text.toArray⟩ : ByteArray).size = v.text.length := by rw [Lib.size_eq]
      have HQ := Lib.hid hq
      clear hr hq
      by_cases hbig : 5000 < v.text.length
      · have hbig' : (5000 : Int) < ((⟨v.text.toArray⟩ : ByteArray).size : Int) := by omega
        go_wp2_with fail
        refine hwk.mono ?_
        rintro e wz ⟨rfl, hbz⟩
        have HY := Lib.hid hbz
        clear hbz
        go_wp2_with fail
        go_ret
        exact ⟨rfl, HY.out⟩
      · have hbig' : ¬ (5000 : Int) < ((⟨v.text.toArray⟩ : ByteArray).size : Int) := by omega
        have HBG := Lib.hid hbig
        clear hbig
        go_wp2_with fail
        go_roundg (l.length - (i + 1))
        case measure => have := A.out.1; omega
        case rel =>
          refine ⟨i + 1, by omega, by omega, rfl, rfl, ?_⟩
          intro j p' v' hj hjv
          by_cases hji : j = i
          · subst hji
            rw [HQ.out] at hjv
            cases hjv
            exact Nat.le_of_not_lt HBG.out
          · exact A.out.2 j p' v' (by omega) hjv
    · obtain rfl : i = l.length := by omega
      have hfit : ∀ q ∈ l, q.2.text.length ≤ 5000 := by
        intro q hq
        obtain ⟨j, hj, hjq⟩ := List.getElem_of_mem hq
        exact A.out.2 j q.1 q.2 hj (by rw [List.getElem?_eq_getElem hj, hjq])
      have htot : ∀ n, allMay (l.take n) = true → (tellL ((l.take n).map (·.2))).length ≤ 100000000000 := fun n h =>
        tell_part (l.take n) (by rw [List.length_take]; omega) (fun q hq => hfit q (List.mem_of_mem_take hq)) h
      have htot0 : allMay l = true → (tellL (l.map (·.2))).length ≤ 100000000000 := fun h => tell_part l (by omega) hfit h
      have HF := Lib.hid (And.intro (show ∀ q ∈ l, fitW q.2 from fun q hq => ⟨HV.out.2.1 q hq, Nat.le_trans (hfit q hq) (by decide)⟩) (And.intro htot htot0))
      have hl300 : l.length ≤ 300 := by omega
      have hk300 : k.length ≤ 300 := by omega
      clear hfit htot htot0 A hwk hlt hi
      obtain ⟨i0, hi, hz0, hz1, hz2⟩ := info_parts infoWord
      have HM := Lib.hid (And.intro (show l.length + 1 ≤ maxLen by unfold maxLen; omega) (show (l.length + 1) * 72 ≤ 140737488355328 by omega))
      rcases slice_cases HV.out.1 with ⟨rfl, hn0, rfl, hl0⟩ | ⟨g, o, rfl, hr, _⟩
      case' inl =>
        have HS0 := Lib.hid (show Value.slice none l.length 0 = Value.slice none 0 0 by rw [hn0])
        have HO := Lib.hid (show (wr.alloc (.cells #[] 35)).ownsRow wr.heap.size 35 8 (.slice (some ⟨wr.heap.size, 0, none⟩) 0 0) l.length (icells l) by rw [hl0]; exact own_none wr _ 8)
        have HN := Lib.hid (And.intro (w77_new (wr.alloc (.cells #[] 35)) (wr.heap.size + 1) (by simp)) (show wr.heap.size ≤ ((wr.alloc (.cells #[] 35)).alloc (.cells #[.int .i64 0, .int .i64 77, .string ⟨#[]⟩, .int .u64 0, .int .u64 0, .int .u64 0, .int .u64 0, .int .i64 0] 35)).heap.size by simp; omega))
        clear hn0 hl0
        go_wp2_with (first | (at_builtin; refine wpList_append_own_none rfl _ _ 23 rfl wr.heap.size 35 i0 8 Tryz.underlying23 hi _ 0 [] rfl (own_none wr _ 8) HS0.out ?_) | (at_builtin; refine wpList_append_own _ rfl _ _ 23 rfl wr.heap.size 35 i0 (.agg zeroC) 8 72 Tryz.underlying23 hi hz0 hz1 hz2 rfl (by decide) _ _ _ rfl (HO.out.alloc _) ⟨wr.heap.size + 1, 0, none⟩ 1 1 w77 rfl rfl HN.out.1 w77_one HM.out.1 HM.out.2 HN.out.2 ?_))
        intro v2 w2 hown2 hgrow2 _
        have hbe2 : Below wr.heap.size wr w2 := (((Below.refl wr.heap.size wr).alloc (Nat.le_refl _) _).alloc (by simp) _).grown hgrow2 (by simp; omega) (fun b hb => ((own_none wr 35 8).lt b hb).1)
        clear HO HS0 hgrow2 HN
      case' inr =>
        have HN := Lib.hid (And.intro (icells_row (hr.below ((Below.refl wr.heap.size wr).alloc (Nat.le_refl _) (.cells #[] 35)) hr.lt)) (And.intro (show 0 + l.length ≤ maxLen by unfold maxLen; omega) (And.intro (show (0 + l.length) * 72 ≤ 140737488355328 by omega) (show wr.heap.size ≤ (wr.alloc (.cells #[] 35)).heap.size by simp))))
        clear hr
        go_wp2_with (at_builtin; refine wpList_append_own _ rfl _ _ 23 rfl wr.heap.size 35 i0 (.agg zeroC) 8 72 Tryz.underlying23 hi hz0 hz1 hz2 rfl (by decide) _ _ _ rfl (own_none wr _ 8) ⟨g, o, none⟩ l.length c0 (icells l) rfl (icells_length l) HN.out.1 (icells_one l) HN.out.2.1 HN.out.2.2.1 HN.out.2.2.2 ?_)
        intro v1 w1 hown hgrow _
        have hbe1 : Below wr.heap.size wr w1 := ((Below.refl wr.heap.size wr).alloc (Nat.le_refl _) _).grown hgrow (by simp) (fun b hb => ((own_none wr 35 8).lt b hb).1)
        have HO := Lib.hid (And.intro hown hbe1)
        have hw1 : wr.heap.size ≤ w1.heap.size := hbe1.size
        clear hown hgrow hbe1 HN
        have HN := Lib.hid (And.intro (w77_new w1 w1.heap.size rfl) (show wr.heap.size ≤ (w1.alloc (.cells #[.int .i64 0, .int .i64 77, .string ⟨#[]⟩, .int .u64 0, .int .u64 0, .int .u64 0, .int .u64 0, .int .i64 0] 35)).heap.size by simp; omega))
        go_wp2_with (at_builtin; refine wpList_append_own _ rfl _ _ 23 rfl wr.heap.size 35 i0 (.agg zeroC) 8 72 Tryz.underlying23 hi hz0 hz1 hz2 rfl (by decide) _ _ _ rfl (HO.out.1.alloc _) ⟨w1.heap.size, 0, none⟩ 1 1 w77 rfl rfl HN.out.1 w77_one HM.out.1 HM.out.2 HN.out.2 ?_)
        intro v2 w2 hown2 hgrow2 _
        have hbe2 : Below wr.heap.size wr w2 := (HO.out.2.alloc hw1 _).grown hgrow2 (by simp; omega) (fun b hb => (HO.out.1.lt b hb).1)
        clear HO hgrow2 hw1 HN
      all_goals
        obtain ⟨g2, cap2, rfl, hg2⟩ := own_last hown2
        obtain ⟨hrow, hcap, hB2, hmore⟩ := own_words hown2
        have h77 : w2.cell? ⟨g2, l.length * 8 + 1, none⟩ = some (.int .i64 77) := hmore 1 _ rfl (by decide)
        have hm2 : SliceW w2 (.slice (some ⟨g2, 0, none⟩) l.length cap2) l := .row hrow (by omega)
        have hpr := print_any _ l (by omega) HF.out.1 HF.out.2.2 w2 (HE.out.1.below hbe2 h10) (HE.out.2.below hbe2 h10) hm2
        obtain ⟨r, hrp⟩ : ∃ r, printF (l.map (·.2)) = r := ⟨_, rfl⟩
        obtain ⟨rs, rn⟩ := r
        rw [hrp] at hpr
        have hc1 : (l.length : Int) ≤ (cap2 : Int) := by omega
        have hc2 : (l.length : Int) + 1 ≤ (cap2 : Int) := by omega
        have hc0 : (0 : Int) ≤ (l.length : Int) := by omega
        have H2 := Lib.hid (And.intro hbe2 (And.intro hrow (And.intro h77 hrp)))
        clear hbe2 hrow h77 hmore hm2 hown2 hrp hcap hB2
        go_wp2_with fail
        refine hpr.mono ?_
        rintro e w3 ⟨rfl, hb3⟩
        have hbe3 := H2.out.1.trans (hb3.mono H2.out.1.size)
        have hpr2 := rprint_any _ l (by omega) HF.out.1 HF.out.2.1 w3 (HE.out.1.below hbe3 h10) (HV.out.1.below hbe3)
        rw [H2.out.2.2.2] at hpr2
        have H3 := Lib.hid (And.intro hbe3 (And.intro (H2.out.2.1.below hb3 H2.out.2.1.lt) ((hb3.cell (p := ⟨g2, l.length * 8 + 1, none⟩) H2.out.2.1.lt).trans H2.out.2.2.1)))
        clear hpr hb3 hbe3
        go_wp2_with fail
        refine hpr2.mono ?_
        rintro e w4 ⟨rfl, hb4⟩
        have H4 := Lib.hid (And.intro (H3.out.1.trans (hb4.mono H3.out.1.size)) (And.intro (H3.out.2.1.below hb4 H3.out.2.1.lt) ((hb4.cell (p := ⟨g2, l.length * 8 + 1, none⟩) H3.out.2.1.lt).trans H3.out.2.2)))
        clear hpr2 hb4
        have hnq := neq_word
        have hqq := fun p v hv => eqW_bool p v v hv hv true (by simp)
        go_wp2_with fail
        go_loopg [11] l.length (fun m v wx => ∃ i : Nat, i ≤ l.length ∧ m = l.length - i ∧ v = .int .i64 i ∧ Below w4.heap.size w4 wx)
        case atStart => exact ⟨0, by omega, by omega, rfl, Below.refl _ _⟩
        case round =>
          obtain ⟨i, hi5, hm, rfl, hbe⟩ := hrel
          have A := Lib.hid (And.intro hm hbe)
          clear hm hbe
          by_cases hlt : i < l.length
          · obtain ⟨q, hq⟩ : ∃ q, l[i]? = some q := ⟨_, List.getElem?_eq_getElem hlt⟩
            obtain ⟨p, v⟩ := q
            have hlt' : (i : Int) < (l.length : Int) := by omega
            have hi0 : (0 : Int) ≤ (i : Int) := by omega
            have hvs := HV.out.2.1 (p, v) (List.mem_of_getElem? hq)
            have hq1 := hqq p v hvs
            have hca := (H4.out.2.1.cells i p v hq).below A.out.2 H4.out.2.1.lt
            obtain ⟨g9, o9, hv9, hr9⟩ := HV.out.2.2.1.some (by omega)
            have hr10 := hr9.below H4.out.1 hr9.lt
            have hcb := (hr10.cells i p v hq).below A.out.2 hr10.lt
            clear hq hr9 hr10 hvs hqq
            obtain ⟨c0', c1, c2, c3, c4, c5, c6, c7⟩ := hca
            obtain ⟨d0', d1, d2, d3, d4, d5, d6, d7⟩ := hcb
            simp only [Nat.zero_add] at c0' c1 c2 c3 c4 c5 c6 c7
            cases hv9
            all_goals
              go_wp2_with fail
              go_region
              all_goals
                go_wp2_with fail
                go_roundg (l.length - (i + 1))
                case measure => have := A.out.1; omega
                case rel => exact ⟨i + 1, by omega, by omega, rfl, by first | exact A.out.2 | exact A.out.2.drew⟩
          · obtain rfl : i = l.length := by omega
            have hx77 := (A.out.2.cell (p := ⟨g2, l.length * 8 + 1, none⟩) H4.out.2.1.lt).trans H4.out.2.2
            have hbx := H4.out.1.trans (A.out.2.mono H4.out.1.size)
            obtain ⟨b1, hb1⟩ : ∃ b, decide (l.map (·.2) = k.map (·.2)) = b := ⟨_, rfl⟩
            have hb2 : decide (k.map (·.2) = l.map (·.2)) = b1 := by rw [← hb1]; exact decide_eq_decide.2 ⟨Eq.symm, Eq.symm⟩
            have sm1 := fun W h => same_any _ _ l k (by omega) (by omega) HV.out.2.1 HV.out.2.2.2.2 W (HV.out.1.below h) (HV.out.2.2.2.1.below h)
            have sm2 := fun W h => same_any _ _ k l (by omega) (by omega) HV.out.2.2.2.2 HV.out.2.1 W (HV.out.2.2.2.1.below h) (HV.out.1.below h)
            have rs1 := fun W h => rsame_any _ _ l k (by omega) (by omega) HV.out.2.1 HV.out.2.2.2.2 W (HV.out.1.below h) (HV.out.2.2.2.1.below h)
            simp only [hb1] at sm1 rs1
            simp only [hb2] at sm2
            have HX := Lib.hid hbx
            clear hbx hb1 hb2 A hqq hnq
            go_wp2_with fail
            refine (num_any _ _).mono ?_
            rintro e w5 ⟨rfl, rfl⟩
            go_wp2_with fail
            refine (sm1 _ HX.out).mono ?_
            rintro e w6 ⟨rfl, hb6⟩
            have H6 := Lib.hid (HX.out.trans (hb6.mono HX.out.size))
            clear hb6 sm1
            go_wp2_with fail
            refine (rs1 _ H6.out).mono ?_
            rintro e w7 ⟨rfl, hb7⟩
            have H7 := Lib.hid (H6.out.trans (hb7.mono H6.out.size))
            clear hb7
            go_wp2_with fail
            refine (sm2 _ H7.out).mono ?_
            rintro e w8 ⟨rfl, hb8⟩
            have H8 := Lib.hid (H7.out.trans (hb8.mono H7.out.size))
            clear hb8 sm2
            go_wp2_with fail
            refine (rs1 _ H8.out).mono ?_
            rintro e w9 ⟨rfl, hb9⟩
            have H9 := Lib.hid (H8.out.trans (hb9.mono H8.out.size))
            have hwk := works_any w9 (HE.out.1.below H9.out h10) (HE.out.2.below H9.out h10)
            clear hb9 rs1
            go_wp2_with fail
            refine hwk.mono ?_
            rintro e w10 ⟨rfl, hb10⟩
            have H10 := Lib.hid (H9.out.trans (hb10.mono H9.out.size))
            clear hb10
            go_wp2_with fail
            go_ret
            exact ⟨rfl, H10.out⟩
end Go.Proofs.YtacgnbelcpmjfaaGreatDoor.Dx
