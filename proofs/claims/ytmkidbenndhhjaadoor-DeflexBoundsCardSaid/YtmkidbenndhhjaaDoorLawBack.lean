/-
  DeflexBack.
-/
import Derived.Test.YtmkidbenndhhjaaDoorLawJoin
set_option linter.unusedVariables false
set_option linter.unusedSimpArgs false
namespace Go.Proofs.YtmkidbenndhhjaaDoor.Dx
open Go.RowKit Go.Proofs Mx Bx
theorem allW_all {l : List Wd} (h : AllW l) : l.all mayF = true := by
  rw [List.all_eq_true]; intro x hx; exact (h x hx).1
theorem quote_len (s : List UInt8) : s.length ≤ (quoteF s).length := by
  have : s.length ≤ (s.flatMap quoteB).length := by
    induction s with
    | nil => simp
    | cons c t ih =>
      have h1 : 1 ≤ (quoteB c).length := by unfold quoteB; (repeat' split) <;> simp
      simp only [List.flatMap_cons, List.length_append, List.length_cons]
      omega
  show s.length ≤ (34 :: (s.flatMap quoteB ++ [34])).length
  rw [List.length_cons, List.length_append]
  omega
theorem text_told (v : Wd) (h : mayF v = true) : v.text.length ≤ (toldF v).length := by
  rcases mayF_cases h with ⟨c, t, rfl, _⟩ | ⟨s, rfl⟩ | ⟨M, rfl⟩ | ⟨u, rfl, _⟩ | ⟨c, rfl, _⟩
  · exact Nat.le_refl _
  · exact quote_len s
  · exact Nat.zero_le _
  · exact Nat.zero_le _
  · exact Nat.le_refl _
theorem told_tell (l : List Wd) (v : Wd) (h : v ∈ l) : (toldF v).length ≤ (tellL l).length := by
  induction l with
  | nil => cases h
  | cons x t ih =>
    cases t with
    | nil =>
      rcases List.mem_cons.1 h with rfl | h
      · exact Nat.le_refl _
      · cases h
    | cons y u =>
      rw [tellL_cons x _ (by simp)]
      rcases List.mem_cons.1 h with rfl | h
      · simp
      · have := ih h
        simp only [List.length_append, List.length_cons] at this ⊢
        omega
theorem fits_of {xs : List (Nat × Wd)} (h : AllW (xs.map (·.2))) (hl : (tellL (xs.map (·.2))).length ≤ 400000000) : ∀ q ∈ wI xs, fitW q.2 := by
  intro q hq
  have hm : q.2 ∈ xs.map (·.2) := by rw [← wI_snd]; exact List.mem_map_of_mem hq
  have := h _ hm
  exact ⟨this.2, Nat.le_trans (text_told _ this.1) (Nat.le_trans (told_tell _ _ hm) hl)⟩
theorem setText_all (M : Nat) : (setText M).length ≤ 2400 := by
  have hit : ∀ N, (itemsT N).length ≤ 9 * 256 := by
    intro N
    have h1 : (rgL (bytesOf N)).length ≤ 256 := Nat.le_trans (rgL_len_le _) (bytesOf_len N)
    have h2 := items_len (rgL (bytesOf N))
    show ((rgL (bytesOf N)).flatMap itemT).length ≤ _
    omega
  have h1 := hit M
  have h2 := hit (notM M)
  unfold setText
  split <;> simp <;> omega
theorem told_all (v : Wd) (h : mayF v = true) : (toldF v).length ≤ 4 * v.text.length + 2500 := by
  rcases mayF_cases h with ⟨c, t, rfl, _⟩ | ⟨s, rfl⟩ | ⟨M, rfl⟩ | ⟨u, rfl, hu⟩ | ⟨c, rfl, _⟩
  · show (c :: t).length ≤ 4 * (c :: t).length + 2500; omega
  · have := quotes_len s
    show (34 :: (s.flatMap quoteB ++ [34])).length ≤ 4 * s.length + 2500
    rw [List.length_cons, List.length_append, List.length_singleton]
    omega
  · have := setText_all M
    show (setText M).length ≤ _
    omega
  · have h1 := dec_len u hu
    show (Lib.itoa (u : Int)).length ≤ _
    rw [itoa_nat]
    omega
  · show 1 ≤ _; omega
theorem tell_all (l : List Wd) (N : Nat) (h : l.all mayF = true) (hN : ∀ v ∈ l, v.text.length ≤ N) : (tellL l).length ≤ l.length * (4 * N + 2501) := by
  induction l with
  | nil => simp [tellL]
  | cons v t ih =>
    simp only [List.all_cons, Bool.and_eq_true] at h
    have h1 := told_all v h.1
    have h2 := hN v (by simp)
    have h3 := ih h.2 (fun x hx => hN x (by simp [hx]))
    have h4 := tellL_len v t
    rw [List.length_cons, Nat.add_mul]
    omega
theorem printF_cases (l : List Wd) : (l.all mayF = true ∧ (tellL l).length ≤ 1048576 ∧ printF l = (tellL l, 0)) ∨ (printF l = ([], 2) ∨ printF l = ([], 3)) := by
  unfold printF
  by_cases h : l.all mayF = true
  · rw [if_pos h]
    by_cases h2 : 1048576 < (tellL l).length
    · rw [if_pos h2]; exact .inr (.inr rfl)
    · rw [if_neg h2]; exact .inl ⟨h, by omega, rfl⟩
  · rw [if_neg h]; exact .inr (.inl rfl)
set_option maxRecDepth 100000 in
set_option maxHeartbeats 8000000 in
theorem back_law (V : Value) (l : List (Int × Wd)) (s : ByteArray) (w : World) (hV : SliceW w V l) (hset : ∀ q ∈ l, q.2.set < 2 ^ 256) (E : Env w) (R : Bru w) :
    Calls Tryd.prog 7 #[V, .string s] w fun e w' => e = .returned (.bool true) ∧ Below w.heap.size w w' := by
  have hwk := works_any w E R
  have h10 := E.big
  have HE := Lib.hid (And.intro E R)
  clear E R
  obtain ⟨a0, c0, rfl, ho⟩ := hV.opt
  have HV := Lib.hid (And.intro hV (And.intro hset ho))
  clear hV hset ho
  go_enter Tryd.func7, Tryd.ntmps7
  have HZ := Lib.hid (Below.refl w.heap.size w)
  by_cases ha : 300 < l.length
  · have ha' : (300 : Int) < (l.length : Int) := by omega
    go_wp2_with fail
    refine (works_any _ (HE.out.1.below HZ.out h10) (HE.out.2.below HZ.out h10)).mono ?_
    rintro e wz ⟨rfl, hbz⟩
    have HY := Lib.hid (HZ.out.trans (hbz.mono HZ.out.size))
    clear hbz
    go_wp2_with fail
    go_ret
    exact ⟨rfl, HY.out⟩
  have ha' : ¬ (300 : Int) < (l.length : Int) := by omega
  by_cases hs : 5000 < s.size
  · have hs' : (5000 : Int) < (s.size : Int) := by omega
    go_wp2_with fail
    refine (works_any _ (HE.out.1.below HZ.out h10) (HE.out.2.below HZ.out h10)).mono ?_
    rintro e wz ⟨rfl, hbz⟩
    have HY := Lib.hid (HZ.out.trans (hbz.mono HZ.out.size))
    clear hbz
    go_wp2_with fail
    go_ret
    exact ⟨rfl, HY.out⟩
  have hs' : ¬ (5000 : Int) < (s.size : Int) := by omega
  have hsl : s.data.toList.length = s.size := (Lib.size_eq s).symm
  clear hwk
  go_wp2_with fail
  go_loopg [5] l.length (fun m v wr => ∃ i : Nat, i ≤ l.length ∧ m = l.length - i ∧ v = .int .i64 i ∧ wr = w ∧ (∀ j p v, j < i → l[j]? = some (p, v) → v.text.length ≤ 5000))
  case atStart => exact ⟨0, by omega, by omega, rfl, rfl, fun j _ _ hj => absurd hj (by omega)⟩
  case round =>
    obtain ⟨i, hi, hm, rfl, rfl, hall⟩ := hrel
    have A := Lib.hid (And.intro hm hall)
    clear hm hall
    by_cases hlt : i < l.length
    · obtain ⟨g, o, rfl, hr⟩ := HV.out.2.2.some (by omega)
      obtain ⟨q, hq⟩ : ∃ q, l[i]? = some q := ⟨_, List.getElem?_eq_getElem hlt⟩
      obtain ⟨p, v⟩ := q
      obtain ⟨x0, x1, x2, x3, x4, x5, x6, x7⟩ := hr.cells i p v hq
      have hlt' : (i : Int) < (l.length : Int) := by omega
      have hi0 : (0 : Int) ≤ (i : Int) := by omega
      have hsz : (⟨v.text.toArray⟩ : ByteArray).size = v.text.length := by rw [Lib.size_eq]
      have HQ := Lib.hid hq
      clear hr hq
      by_cases hbig : 5000 < v.text.length
      · have hbig' : (5000 : Int) < ((⟨v.text.toArray⟩ : ByteArray).size : Int) := by omega
        go_wp2_with fail
        refine (works_any _ (HE.out.1.below HZ.out h10) (HE.out.2.below HZ.out h10)).mono ?_
        rintro e wz ⟨rfl, hbz⟩
        have HY := Lib.hid (HZ.out.trans (hbz.mono HZ.out.size))
        clear hbz
        go_wp2_with fail
        go_ret
        exact ⟨rfl, HY.out⟩
      · have hbig' : ¬ (5000 : Int) < ((⟨v.text.toArray⟩ : ByteArray).size : Int) := by omega
        have HBG := Lib.hid hbig
        clear hbig
        go_wp2_with fail
        go_roundg (l.length - (i + 1))
        case measure => have := A.out.1; omega
        case rel =>
          refine ⟨i + 1, by omega, by omega, rfl, rfl, ?_⟩
          intro j p' v' hj hjv
          by_cases hji : j = i
          · subst hji
            rw [HQ.out] at hjv
            cases hjv
            exact Nat.le_of_not_lt HBG.out
          · exact A.out.2 j p' v' (by omega) hjv
    · obtain rfl : i = l.length := by omega
      have hfit : ∀ q ∈ l, q.2.text.length ≤ 5000 := by
        intro q hq
        obtain ⟨j, hj, hjq⟩ := List.getElem_of_mem hq
        exact A.out.2 j q.1 q.2 hj (by rw [List.getElem?_eq_getElem hj, hjq])
      have htx : ∀ v ∈ l.map (·.2), v.text.length ≤ 5000 := by
        intro v hv
        obtain ⟨q, hq, rfl⟩ := List.mem_map.1 hv
        exact hfit q hq
      have htell : allMay l = true → (tellL (l.map (·.2))).length ≤ 100000000000 := by
        intro h
        have := tell_all (l.map (·.2)) 5000 (by rw [← allMay_map]; exact h) htx
        rw [List.length_map] at this
        have h3 : l.length * (4 * 5000 + 2501) ≤ 300 * (4 * 5000 + 2501) := Nat.mul_le_mul_right _ (by omega)
        omega
      have HF := Lib.hid (And.intro (show ∀ q ∈ l, fitW q.2 from fun q hq => ⟨HV.out.2.1 q hq, Nat.le_trans (hfit q hq) (by decide)⟩) htell)
      clear hfit htx htell A
      go_wp2_with fail
      have hpr := print_any _ l (by omega) HF.out.1 HF.out.2 _ HE.out.1 HE.out.2 HV.out.1
      rcases printF_cases (l.map (·.2)) with ⟨hp1, hp2, hp3⟩ | hp3
      · obtain ⟨T0, hT0⟩ : ∃ T, tellL (l.map (·.2)) = T := ⟨_, rfl⟩
        rw [hT0] at hp3 hp2
        rw [hp3] at hpr
        have hW : AllW (l.map (·.2)) := by
          intro v hv
          obtain ⟨q, hq, rfl⟩ := List.mem_map.1 hv
          exact ⟨List.all_eq_true.1 hp1 _ hv, HV.out.2.1 q hq⟩
        have hback := lexF_back (l.map (·.2)) hW
        rw [hT0] at hback
        have hlT := lexR_ok T0 hp2 hback.1
        obtain ⟨zs, hzs⟩ : ∃ zs, (lexF 0 T0).1 = zs := ⟨_, rfl⟩
        rw [hzs] at hlT hback
        have hzl : zs.length = l.length := by simpa using congrArg List.length hback.2
        have hzset : ∀ q ∈ wI zs, q.2.set < 2 ^ 256 := by
          intro q hq
          have hm : q.2 ∈ zs.map (·.2) := by rw [← wI_snd]; exact List.mem_map_of_mem hq
          rw [hback.2] at hm
          exact (hW _ hm).2
        have HT0 := Lib.hid (And.intro hlT (And.intro hback.2 (And.intro hzl hzset)))
        clear hlT hback hzs hzl hzset hW hp1 hp2 hp3 hT0
        refine hpr.mono ?_
        rintro e w1 ⟨rfl, hb1⟩
        have H1 := Lib.hid (And.intro hb1 (HV.out.1.below hb1))
        clear hpr hb1
        go_wp2_with fail
        refine (num_any _ _).mono ?_
        rintro e wn ⟨rfl, rfl⟩
        go_wp2_with fail
        have hlx := lex_any ⟨T0.toArray⟩ _ (HE.out.1.below H1.out.1 h10)
        rw [show (⟨T0.toArray⟩ : ByteArray).data.toList = T0 from rfl, HT0.out.1] at hlx
        refine hlx.mono ?_
        rintro e w2 ⟨a2, n2, c2, rfl, hown2, hb2⟩
        obtain ⟨rfl, hs2⟩ := own_sliceW hown2
        have H2 := Lib.hid (And.intro (H1.out.1.trans (hb2.mono H1.out.1.size)) (And.intro (H1.out.2.below hb2) hs2))
        clear hlx hown2 hb2 hs2
        go_wp2_with fail
        refine (same_any _ _ l (wI zs) (by omega) (by rw [wI_len, HT0.out.2.2.1]; omega) HV.out.2.1 HT0.out.2.2.2 _ H2.out.2.1 H2.out.2.2).mono ?_
        rintro e w3 ⟨rfl, hb3⟩
        rw [decide_eq_true (show l.map (·.2) = (wI zs).map (·.2) by rw [wI_snd, HT0.out.2.1])]
        have H3 := Lib.hid (H2.out.1.trans (hb3.mono H2.out.1.size))
        clear hb3
        go_wp2_with fail
        refine (num_any _ _).mono ?_
        rintro e wn ⟨rfl, rfl⟩
        go_wp2_with fail
        have H5 := Lib.hid H3.out
        have hlx := lex_any s _ (HE.out.1.below H5.out h10)
        obtain ⟨⟨lt, pt, et⟩, hrt⟩ : ∃ r, lexR s.data.toList = r := ⟨_, rfl⟩
        rw [hrt] at hlx
        refine hlx.mono ?_
        rintro e w6 ⟨a6, n6, c6, rfl, hown6, hb6⟩
        obtain ⟨rfl, hs6⟩ := own_sliceW hown6
        have H6 := Lib.hid (And.intro (H5.out.trans (hb6.mono H5.out.size)) hs6)
        clear hlx hown6 hb6 hs6
        cases h1 : (lexF 0 s.data.toList).2 with
        | some p =>
          rw [lexR_no _ (by omega) p h1] at hrt
          cases hrt
          have hp := (lexF_places 0 s.data.toList).1 p h1
          go_wp2_with fail
          refine (num_any _ _).mono ?_
          rintro e wn ⟨rfl, rfl⟩
          go_wp2_with fail
          have HZ := Lib.hid H6.out.1
          refine (works_any _ (HE.out.1.below HZ.out h10) (HE.out.2.below HZ.out h10)).mono ?_
          rintro e wz ⟨rfl, hbz⟩
          have HY := Lib.hid (HZ.out.trans (hbz.mono HZ.out.size))
          clear hbz
          go_wp2_with fail
          go_ret
          exact ⟨rfl, HY.out⟩
        | none =>
          rw [lexR_ok _ (by omega) h1] at hrt
          have hmay := lexF_may 0 s.data.toList
          generalize (lexF 0 s.data.toList).1 = xs at hrt hmay
          cases hrt
          obtain ⟨hm1, hm2, hm3⟩ := hmay
          obtain ⟨T, hT⟩ : ∃ T, tellL (lt.map (·.2)) = T := ⟨_, rfl⟩
          have hTl : T.length ≤ 1048576 := by rw [← hT]; omega
          have hpf : printF (lt.map (·.2)) = (T, 0) := by rw [printF, if_pos (allW_all hm1), hT, if_neg (by omega)]
          have hback := lexF_back (lt.map (·.2)) hm1
          rw [hT] at hback
          have hlT := lexR_ok T hTl hback.1
          obtain ⟨ys, hys⟩ : ∃ ys, (lexF 0 T).1 = ys := ⟨_, rfl⟩
          rw [hys] at hlT hback
          have hyl : ys.length = lt.length := by simpa using congrArg List.length hback.2
          have HT := Lib.hid (And.intro hlT (And.intro hback.2 (And.intro hpf (And.intro hm1 (And.intro hT (And.intro hyl hm3))))))
          clear hlT hback hpf hm1 hm2 hm3 hT h1 hys hyl
          have hltl : lt.length ≤ 5000 := by have := HT.out.2.2.2.2.2.2; omega
          have hfit : ∀ q ∈ wI lt, fitW q.2 := fits_of HT.out.2.2.2.1 (by rw [HT.out.2.2.2.2.1]; omega)
          have hfit2 : ∀ q ∈ wI ys, fitW q.2 := fits_of (by rw [HT.out.2.1]; exact HT.out.2.2.2.1) (by rw [HT.out.2.1, HT.out.2.2.2.2.1]; omega)
          have HFT := Lib.hid (And.intro hfit hfit2)
          clear hfit hfit2
          go_wp2_with fail
          refine (num_any _ _).mono ?_
          rintro e wn ⟨rfl, rfl⟩
          go_wp2_with fail
          have hpr := print_any _ (wI lt) (by rw [wI_len]; omega) HFT.out.1 (fun _ => by rw [wI_snd, HT.out.2.2.2.2.1]; omega) _ (HE.out.1.below H6.out.1 h10) (HE.out.2.below H6.out.1 h10) H6.out.2
          rw [wI_snd, HT.out.2.2.1] at hpr
          refine hpr.mono ?_
          rintro e w7 ⟨rfl, hb7⟩
          have H7 := Lib.hid (And.intro (H6.out.1.trans (hb7.mono H6.out.1.size)) (H6.out.2.below hb7))
          clear hpr hb7
          go_wp2_with fail
          have hlx := lex_any ⟨T.toArray⟩ _ (HE.out.1.below H7.out.1 h10)
          rw [show (⟨T.toArray⟩ : ByteArray).data.toList = T from rfl, HT.out.1] at hlx
          refine hlx.mono ?_
          rintro e w8 ⟨a8, n8, c8, rfl, hown8, hb8⟩
          obtain ⟨rfl, hs8⟩ := own_sliceW hown8
          have H8 := Lib.hid (And.intro (H7.out.1.trans (hb8.mono H7.out.1.size)) (And.intro (H7.out.2.below hb8) hs8))
          clear hlx hown8 hb8 hs8
          go_wp2_with fail
          have hpr := print_any _ (wI ys) (by rw [wI_len, HT.out.2.2.2.2.2.1]; omega) HFT.out.2 (fun _ => by rw [wI_snd, HT.out.2.1, HT.out.2.2.2.2.1]; omega) _ (HE.out.1.below H8.out.1 h10) (HE.out.2.below H8.out.1 h10) H8.out.2.2
          rw [wI_snd, HT.out.2.1, HT.out.2.2.1] at hpr
          refine hpr.mono ?_
          rintro e w9 ⟨rfl, hb9⟩
          have H9 := Lib.hid (And.intro (H8.out.1.trans (hb9.mono H8.out.1.size)) (And.intro (H8.out.2.1.below hb9) (H8.out.2.2.below hb9)))
          clear hpr hb9
          go_wp2_with fail
          refine (num_any _ _).mono ?_
          rintro e wn ⟨rfl, rfl⟩
          go_wp2_with fail
          refine (num_any _ _).mono ?_
          rintro e wn ⟨rfl, rfl⟩
          go_wp2_with fail
          refine (num_any _ _).mono ?_
          rintro e wn ⟨rfl, rfl⟩
          go_wp2_with fail
          refine (same_any _ _ (wI lt) (wI ys) (by rw [wI_len]; omega) (by rw [wI_len, HT.out.2.2.2.2.2.1]; omega) (fun q hq => (HFT.out.1 q hq).1) (fun q hq => (HFT.out.2 q hq).1) _ H9.out.2.1 H9.out.2.2).mono ?_
          rintro e w10 ⟨rfl, hb10⟩
          rw [decide_eq_true (show (wI lt).map (·.2) = (wI ys).map (·.2) by rw [wI_snd, wI_snd, HT.out.2.1])]
          have HZ := Lib.hid (H9.out.1.trans (hb10.mono H9.out.1.size))
          clear hb10
          go_wp2_with fail
          refine (works_any _ (HE.out.1.below HZ.out h10) (HE.out.2.below HZ.out h10)).mono ?_
          rintro e wz ⟨rfl, hbz⟩
          have HY := Lib.hid (HZ.out.trans (hbz.mono HZ.out.size))
          clear hbz
          go_wp2_with fail
          go_ret
          exact ⟨rfl, HY.out⟩
      · have hpe : ∃ k : Int, printF (l.map (·.2)) = ([], k) ∧ (k = 2 ∨ k = 3) := by
          rcases hp3 with h | h
          · exact ⟨2, h, .inl rfl⟩
          · exact ⟨3, h, .inr rfl⟩
        obtain ⟨k, hk, hk23⟩ := hpe
        rw [hk] at hpr
        refine hpr.mono ?_
        rintro e w1 ⟨rfl, hb1⟩
        have H5 := Lib.hid hb1
        clear hpr hb1 hp3 hk
        have hk0 : (k == 0) = false := by rcases hk23 with rfl | rfl <;> rfl
        clear hk23
        go_wp2_with fail
        refine (num_any _ _).mono ?_
        rintro e wn ⟨rfl, rfl⟩
        go_wp2_with fail
        have hlx := lex_any s _ (HE.out.1.below H5.out h10)
        obtain ⟨⟨lt, pt, et⟩, hrt⟩ : ∃ r, lexR s.data.toList = r := ⟨_, rfl⟩
        rw [hrt] at hlx
        refine hlx.mono ?_
        rintro e w6 ⟨a6, n6, c6, rfl, hown6, hb6⟩
        obtain ⟨rfl, hs6⟩ := own_sliceW hown6
        have H6 := Lib.hid (And.intro (H5.out.trans (hb6.mono H5.out.size)) hs6)
        clear hlx hown6 hb6 hs6
        cases h1 : (lexF 0 s.data.toList).2 with
        | some p =>
          rw [lexR_no _ (by omega) p h1] at hrt
          cases hrt
          have hp := (lexF_places 0 s.data.toList).1 p h1
          go_wp2_with fail
          refine (num_any _ _).mono ?_
          rintro e wn ⟨rfl, rfl⟩
          go_wp2_with fail
          have HZ := Lib.hid H6.out.1
          refine (works_any _ (HE.out.1.below HZ.out h10) (HE.out.2.below HZ.out h10)).mono ?_
          rintro e wz ⟨rfl, hbz⟩
          have HY := Lib.hid (HZ.out.trans (hbz.mono HZ.out.size))
          clear hbz
          go_wp2_with fail
          go_ret
          exact ⟨rfl, HY.out⟩
        | none =>
          rw [lexR_ok _ (by omega) h1] at hrt
          have hmay := lexF_may 0 s.data.toList
          generalize (lexF 0 s.data.toList).1 = xs at hrt hmay
          cases hrt
          obtain ⟨hm1, hm2, hm3⟩ := hmay
          obtain ⟨T, hT⟩ : ∃ T, tellL (lt.map (·.2)) = T := ⟨_, rfl⟩
          have hTl : T.length ≤ 1048576 := by rw [← hT]; omega
          have hpf : printF (lt.map (·.2)) = (T, 0) := by rw [printF, if_pos (allW_all hm1), hT, if_neg (by omega)]
          have hback := lexF_back (lt.map (·.2)) hm1
          rw [hT] at hback
          have hlT := lexR_ok T hTl hback.1
          obtain ⟨ys, hys⟩ : ∃ ys, (lexF 0 T).1 = ys := ⟨_, rfl⟩
          rw [hys] at hlT hback
          have hyl : ys.length = lt.length := by simpa using congrArg List.length hback.2
          have HT := Lib.hid (And.intro hlT (And.intro hback.2 (And.intro hpf (And.intro hm1 (And.intro hT (And.intro hyl hm3))))))
          clear hlT hback hpf hm1 hm2 hm3 hT h1 hys hyl
          have hltl : lt.length ≤ 5000 := by have := HT.out.2.2.2.2.2.2; omega
          have hfit : ∀ q ∈ wI lt, fitW q.2 := fits_of HT.out.2.2.2.1 (by rw [HT.out.2.2.2.2.1]; omega)
          have hfit2 : ∀ q ∈ wI ys, fitW q.2 := fits_of (by rw [HT.out.2.1]; exact HT.out.2.2.2.1) (by rw [HT.out.2.1, HT.out.2.2.2.2.1]; omega)
          have HFT := Lib.hid (And.intro hfit hfit2)
          clear hfit hfit2
          go_wp2_with fail
          refine (num_any _ _).mono ?_
          rintro e wn ⟨rfl, rfl⟩
          go_wp2_with fail
          have hpr := print_any _ (wI lt) (by rw [wI_len]; omega) HFT.out.1 (fun _ => by rw [wI_snd, HT.out.2.2.2.2.1]; omega) _ (HE.out.1.below H6.out.1 h10) (HE.out.2.below H6.out.1 h10) H6.out.2
          rw [wI_snd, HT.out.2.2.1] at hpr
          refine hpr.mono ?_
          rintro e w7 ⟨rfl, hb7⟩
          have H7 := Lib.hid (And.intro (H6.out.1.trans (hb7.mono H6.out.1.size)) (H6.out.2.below hb7))
          clear hpr hb7
          go_wp2_with fail
          have hlx := lex_any ⟨T.toArray⟩ _ (HE.out.1.below H7.out.1 h10)
          rw [show (⟨T.toArray⟩ : ByteArray).data.toList = T from rfl, HT.out.1] at hlx
          refine hlx.mono ?_
          rintro e w8 ⟨a8, n8, c8, rfl, hown8, hb8⟩
          obtain ⟨rfl, hs8⟩ := own_sliceW hown8
          have H8 := Lib.hid (And.intro (H7.out.1.trans (hb8.mono H7.out.1.size)) (And.intro (H7.out.2.below hb8) hs8))
          clear hlx hown8 hb8 hs8
          go_wp2_with fail
          have hpr := print_any _ (wI ys) (by rw [wI_len, HT.out.2.2.2.2.2.1]; omega) HFT.out.2 (fun _ => by rw [wI_snd, HT.out.2.1, HT.out.2.2.2.2.1]; omega) _ (HE.out.1.below H8.out.1 h10) (HE.out.2.below H8.out.1 h10) H8.out.2.2
          rw [wI_snd, HT.out.2.1, HT.out.2.2.1] at hpr
          refine hpr.mono ?_
          rintro e w9 ⟨rfl, hb9⟩
          have H9 := Lib.hid (And.intro (H8.out.1.trans (hb9.mono H8.out.1.size)) (And.intro (H8.out.2.1.below hb9) (H8.out.2.2.below hb9)))
          clear hpr hb9
          go_wp2_with fail
          refine (num_any _ _).mono ?_
          rintro e wn ⟨rfl, rfl⟩
          go_wp2_with fail
          refine (num_any _ _).mono ?_
          rintro e wn ⟨rfl, rfl⟩
          go_wp2_with fail
          refine (num_any _ _).mono ?_
          rintro e wn ⟨rfl, rfl⟩
          go_wp2_with fail
          refine (same_any _ _ (wI lt) (wI ys) (by rw [wI_len]; omega) (by rw [wI_len, HT.out.2.2.2.2.2.1]; omega) (fun q hq => (HFT.out.1 q hq).1) (fun q hq => (HFT.out.2 q hq).1) _ H9.out.2.1 H9.out.2.2).mono ?_
          rintro e w10 ⟨rfl, hb10⟩
          rw [decide_eq_true (show (wI lt).map (·.2) = (wI ys).map (·.2) by rw [wI_snd, wI_snd, HT.out.2.1])]
          have HZ := Lib.hid (H9.out.1.trans (hb10.mono H9.out.1.size))
          clear hb10
          go_wp2_with fail
          refine (works_any _ (HE.out.1.below HZ.out h10) (HE.out.2.below HZ.out h10)).mono ?_
          rintro e wz ⟨rfl, hbz⟩
          have HY := Lib.hid (HZ.out.trans (hbz.mono HZ.out.size))
          clear hbz
          go_wp2_with fail
          go_ret
          exact ⟨rfl, HY.out⟩
end Go.Proofs.YtmkidbenndhhjaaDoor.Dx
