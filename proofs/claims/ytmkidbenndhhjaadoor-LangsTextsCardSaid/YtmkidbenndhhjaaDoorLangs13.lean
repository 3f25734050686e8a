/-
  THE WALK of LangsTexts.
-/
import Derived.Test.YtmkidbenndhhjaaDoorLangs12
import Derived.Deep.QuietTactic
import Derived.BigQuiet
set_option linter.unusedVariables false
set_option linter.unusedSimpArgs false
namespace Go.Proofs.YtmkidbenndhhjaaDoor.Lx
open Go.RowKit Go.Proofs Mx Bx Go.Shelf

set_option maxRecDepth 100000 in
set_option maxHeartbeats 2000000 in
theorem law_found (s : ByteArray) (leave : Int) (w : World) (hT : Tab w) (hg : 0 < w.heap.size) (hw : 0 ≤ which s) (ht : (textS s).toList.isEmpty = false) (hr : (rootS s).toList = s.toList) (hq : ∀ s0 s1 s2 s3, samples s = #[.string s0, .string s1, .string s2, .string s3] → (s0.toList == [63]) = false) :
    Calls Tryd.prog 3 #[.string s, .int .i64 leave] w fun e w' => e = .returned (.bool true) ∧ Below w.heap.size w w' := by
  have hwd : decide (0 ≤ which s) = true := by simpa using hw
  go_enter Tryd.func3, Tryd.ntmps3
  go_wp2_with fail
  refine (text_any s _ hT hg).mono ?_
  rintro e w1 ⟨rfl, hb1⟩
  rw [hwd]
  go_wp2_with fail
  refine (root_any s _).mono ?_
  rintro e w2 ⟨rfl, hb2⟩
  rw [hwd]
  go_wp2_with fail
  refine (samples_any s _).mono ?_
  rintro e w3 ⟨v, rfl, hb3, hsam⟩
  rcases hsam with ⟨hno, _⟩ | ⟨_, s0, s1, s2, s3, g, cap, hsm, rfl, hown⟩
  · omega
  go_wp2_with fail
  refine (refText_any s _).mono ?_
  rintro e w4 ⟨rfl, rfl⟩
  have Hhw := Lib.hid hw
  have Hwd := Lib.hid hwd
  clear hw hwd
  go_wp2_with fail
  have hbw3 : Below w.heap.size w w3 := hb1.trans ((hb2.mono hb1.size).trans (hb3.mono (Nat.le_trans hb1.size hb2.size)))
  have hgB : w.heap.size ≤ g := Nat.le_trans (Nat.le_trans hb1.size hb2.size) (hown.lt g rfl).1
  obtain ⟨cur0, hcur, hsz0⟩ : ∃ cur, Blk w3 g 9 cur ∧ 4 ≤ cur.size := by
    rcases hown.2 with ⟨_, h0⟩ | ⟨g', cap', cur, hv, _, hh, h4, _, hcs, _⟩
    · exact absurd h0 (by decide)
    · simp only [Value.slice.injEq, Option.some.injEq, Addr.mk.injEq] at hv
      obtain ⟨⟨rfl, _⟩, _, rfl⟩ := hv
      exact ⟨cur, hh, by omega⟩
  clear hown hb1 hb2 hb3
  have HQ := Lib.hid (hq _ _ _ _ hsm)
  have HSM := Lib.hid hsm
  clear hq hsm
  go_loopw [11] (fun i wr => ∃ k : Nat, k ≤ 4 ∧ i = .int .i64 k ∧ (∃ cur, Blk wr g 9 cur ∧ 4 ≤ cur.size) ∧ Below w.heap.size w wr) (fun i _ => 4 - (intOf i).toNat)
  case atStart => exact ⟨0, by omega, rfl, ⟨cur0, hcur, hsz0⟩, hbw3⟩
  case round =>
    obtain ⟨k, hk, rfl, ⟨cur, hB, hsz⟩, hbr⟩ := hrel
    clear hcur hsz0 hbw3
    by_cases hlt : k < 4
    · have hcell := hB.cell k
      rw [Array.getElem?_eq_getElem (by omega)] at hcell
      have hfr := hB.frozen k
      obtain ⟨u, hu⟩ : ∃ u, cur[k]'(by omega) = u := ⟨_, rfl⟩
      rw [hu] at hcell
      clear hu
      go_wp2
      go_roundw
      case rel => exact ⟨k + 1, by omega, by go_num, ⟨_, hB.set_ k _, by simpa using hsz⟩, hbr.setCell (p := ⟨g, k, none⟩) hgB _⟩
      case measure => simp [intOf]; omega
    · obtain rfl : k = 4 := by omega
      clear hB hsz
      go_wp2_with fail
      refine (samples_any s _).mono ?_
      rintro e w5 ⟨v, rfl, hb5, hsam⟩
      rcases hsam with ⟨hno, _⟩ | ⟨_, t0, t1, t2, t3, g2, cap2, hsm2, rfl, hown2⟩
      · exact absurd hno (by have := Hhw.out; omega)
      have ht0 : t0 = s0 := by
        have := HSM.out.symm.trans hsm2
        simp at this
        exact this.1.symm
      subst ht0
      have hc0 := hown2.cells (g := g2) rfl 0 (.string t0) (by simp)
      simp only [Addr.add, if_true] at hc0
      have hbr5 := hbr.trans (hb5.mono hbr.size)
      clear hown2 hb5 hbr hsm2
      have hq0 := HQ.out
      go_wp2_with fail
      refine (names_any _ (hT.below hbr5 hg) (by have := hbr5.size; omega)).mono ?_
      rintro e w6 ⟨v, rfl, hown, hb6⟩
      obtain ⟨g3, cap3, rfl⟩ := ownsRow_succ hown
      have hn : ∀ k, k < 3 → w6.cell? ⟨g3, k, none⟩ = some (.string (nameK k)) := fun k hk => by
        have := hown.cells (g := g3) rfl k (.string (nameK k)) (by simp [namesL, hk])
        by_cases h0 : k = 0
        · subst h0; simpa [Addr.add] using this
        · simpa [Addr.add, h0] using this
      have hbr6 := hbr5.trans (hb6.mono hbr5.size)
      clear hown hb6 hbr5 hc0 hq0
      go_wp2_with fail
      refine (refNames_any _).mono ?_
      rintro e w7 ⟨rfl, hb7, _, hN⟩
      rw [names3_eq] at hN
      have hn7 : ∀ k, k < 3 → w7.cell? ⟨g3, k, none⟩ = some (.string (nameK k)) := fun k hk => (hb7.cell (p := ⟨g3, k, none⟩) (World.block_lt_of_cell? _ _ (hn k hk))).trans (hn k hk)
      have hr7 : ∀ k, k < 3 → w7.cell? ⟨w6.heap.size, k, none⟩ = some (.string (nameK k)) := fun k hk => by rw [hN.cell k, names3_at k hk]
      have hbr7 := hbr6.trans (hb7.mono hbr6.size)
      obtain ⟨g4, hg4⟩ : ∃ g4, w6.heap.size = g4 := ⟨_, rfl⟩
      rw [hg4] at hr7 ⊢
      have HN7 := Lib.hid hn7
      have HR7 := Lib.hid hr7
      clear hn hb7 hN hbr6 hg4 hn7 hr7
      go_wp2_with fail
      go_loopw [15] (fun i wr => ∃ k : Nat, k ≤ 3 ∧ i = .int .i64 k ∧ ∃ q, wr = w7.drewN q) (fun i _ => 3 - (intOf i).toNat)
      case atStart => exact ⟨0, by omega, rfl, 0, rfl⟩
      case round =>
        obtain ⟨k, hk, rfl, q, rfl⟩ := hrel
        by_cases hlt : k < 3
        · have hcn := HN7.out k hlt
          have hcr := HR7.out k hlt
          have hk0 : (0 : Int) ≤ (k : Int) := by omega
          have hk3 : (k : Int) < 3 := by omega
          go_wp2_with fail
          go_quiet (fail)
          go_wp2
          go_roundw
          case rel => exact ⟨k + 1, by omega, by go_num, _, rfl⟩
          case measure => simp [intOf]; omega
        · obtain rfl : k = 3 := by omega
          have hbq : Below w.heap.size w (w7.drewN q) := Mx.below_drewN hbr7 q
          obtain ⟨w8, hw8⟩ : ∃ w8, w7.drewN q = w8 := ⟨_, rfl⟩
          rw [hw8] at hbq ⊢
          clear hw8 hbr7
          go_wp2_with (go_at_call 15; refine (all_any _).mono ?_; rintro e w9 ⟨rfl, rfl⟩)
          refine (goes_any leave _ (hT.below hbq hg) (by have := hbq.size; omega)).mono ?_
          rintro e w9 ⟨rfl, hb9⟩
          have hbr9 := hbq.trans (hb9.mono hbq.size)
          clear hb9 hbq
          go_wp2_with fail
          refine (goes_any 0 _ (hT.below hbr9 hg) (by have := hbr9.size; omega)).mono ?_
          rintro e w10 ⟨rfl, hb10⟩
          have hbr10 := hbr9.trans (hb10.mono hbr9.size)
          clear hb10 hbr9
          go_wp2_with fail
          refine (works_any _ (hT.below hbr10 hg) (by have := hbr10.size; omega)).mono ?_
          rintro e w11 ⟨rfl, hb11⟩
          have hbr11 := hbr10.trans (hb11.mono hbr10.size)
          clear hb11 hbr10
          go_wp2
          go_ret
          exact ⟨rfl, hbr11⟩

theorem textS_none (s : ByteArray) (h : which s = -1) : textS s = ⟨#[]⟩ ∧ rootS s = ⟨#[]⟩ := by
  rcases which_cases s with ⟨h1, _⟩ | ⟨h1, _⟩ | ⟨h1, _⟩ | ⟨_, _, h2, h3, _⟩
  · omega
  · omega
  · omega
  · exact ⟨h2, h3⟩
set_option maxRecDepth 100000 in
set_option maxHeartbeats 2000000 in
theorem law_none (s : ByteArray) (leave : Int) (w : World) (hT : Tab w) (hg : 0 < w.heap.size) (hw : which s = -1) :
    Calls Tryd.prog 3 #[.string s, .int .i64 leave] w fun e w' => e = .returned (.bool true) ∧ Below w.heap.size w w' := by
  obtain ⟨hts, hrs⟩ := textS_none s hw
  go_enter Tryd.func3, Tryd.ntmps3
  have HW := Lib.hid hw
  have HTS := Lib.hid hts
  have HRS := Lib.hid hrs
  clear hw hts hrs
  go_wp2_with fail
  refine (text_any s _ hT hg).mono ?_
  rintro e w1 ⟨rfl, hb1⟩
  rw [HW.out, neg_not, HTS.out]
  go_wp2_with fail
  refine (root_any s _).mono ?_
  rintro e w2 ⟨rfl, hb2⟩
  rw [HW.out, neg_not, HRS.out]
  go_wp2_with fail
  refine (samples_any s _).mono ?_
  rintro e w3 ⟨v, rfl, hb3, hsam⟩
  rcases hsam with ⟨_, rfl⟩ | ⟨hno, _⟩
  rotate_left
  · exact absurd hno (by have := HW.out; omega)
  go_wp2_with fail
  refine (refText_any s _).mono ?_
  rintro e w4 ⟨rfl, rfl⟩
  rw [HTS.out]
  have hbw3 : Below w.heap.size w w3 := hb1.trans ((hb2.mono hb1.size).trans (hb3.mono (Nat.le_trans hb1.size hb2.size)))
  clear hb1 hb2 hb3
  go_wp2_with fail
  refine wp_loop_rounds 1 ?_
  rw [rounds_succ]
  go_wp2_with fail
  refine (samples_any s _).mono ?_
  rintro e w5 ⟨v, rfl, hb5, hsam⟩
  rcases hsam with ⟨_, rfl⟩ | ⟨hno, _⟩
  rotate_left
  · exact absurd hno (by have := HW.out; omega)
  have hbr5 := hbw3.trans (hb5.mono hbw3.size)
  clear hb5 hbw3
  go_wp2_with fail
  refine (names_any _ (hT.below hbr5 hg) (by have := hbr5.size; omega)).mono ?_
  rintro e w6 ⟨v, rfl, hown, hb6⟩
  obtain ⟨g3, cap3, rfl⟩ := ownsRow_succ hown
  have hn : ∀ k, k < 3 → w6.cell? ⟨g3, k, none⟩ = some (.string (nameK k)) := fun k hk => by
    have := hown.cells (g := g3) rfl k (.string (nameK k)) (by simp [namesL, hk])
    by_cases h0 : k = 0
    · subst h0; simpa [Addr.add] using this
    · simpa [Addr.add, h0] using this
  have hbr6 := hbr5.trans (hb6.mono hbr5.size)
  clear hown hb6 hbr5
  go_wp2_with fail
  refine (refNames_any _).mono ?_
  rintro e w7 ⟨rfl, hb7, _, hN⟩
  rw [names3_eq] at hN
  have hn7 : ∀ k, k < 3 → w7.cell? ⟨g3, k, none⟩ = some (.string (nameK k)) := fun k hk => (hb7.cell (p := ⟨g3, k, none⟩) (World.block_lt_of_cell? _ _ (hn k hk))).trans (hn k hk)
  have hr7 : ∀ k, k < 3 → w7.cell? ⟨w6.heap.size, k, none⟩ = some (.string (nameK k)) := fun k hk => by rw [hN.cell k, names3_at k hk]
  have hbr7 := hbr6.trans (hb7.mono hbr6.size)
  obtain ⟨g4, hg4⟩ : ∃ g4, w6.heap.size = g4 := ⟨_, rfl⟩
  rw [hg4] at hr7 ⊢
  have HN7 := Lib.hid hn7
  have HR7 := Lib.hid hr7
  clear hn hb7 hN hbr6 hg4 hn7 hr7
  go_wp2_with fail
  go_loopw [15] (fun i wr => ∃ k : Nat, k ≤ 3 ∧ i = .int .i64 k ∧ ∃ q, wr = w7.drewN q) (fun i _ => 3 - (intOf i).toNat)
  case atStart => exact ⟨0, by omega, rfl, 0, rfl⟩
  case round =>
    obtain ⟨k, hk, rfl, q, rfl⟩ := hrel
    by_cases hlt : k < 3
    · have hcn := HN7.out k hlt
      have hcr := HR7.out k hlt
      have hk0 : (0 : Int) ≤ (k : Int) := by omega
      have hk3 : (k : Int) < 3 := by omega
      go_wp2_with fail
      go_quiet (fail)
      go_wp2
      go_roundw
      case rel => exact ⟨k + 1, by omega, by go_num, _, rfl⟩
      case measure => simp [intOf]; omega
    · obtain rfl : k = 3 := by omega
      have hbq : Below w.heap.size w (w7.drewN q) := Mx.below_drewN hbr7 q
      obtain ⟨w8, hw8⟩ : ∃ w8, w7.drewN q = w8 := ⟨_, rfl⟩
      rw [hw8] at hbq ⊢
      clear hw8 hbr7
      go_wp2_with (go_at_call 15; refine (all_any _).mono ?_; rintro e w9 ⟨rfl, rfl⟩)
      refine (goes_any leave _ (hT.below hbq hg) (by have := hbq.size; omega)).mono ?_
      rintro e w9 ⟨rfl, hb9⟩
      have hbr9 := hbq.trans (hb9.mono hbq.size)
      clear hb9 hbq
      go_wp2_with fail
      refine (goes_any 0 _ (hT.below hbr9 hg) (by have := hbr9.size; omega)).mono ?_
      rintro e w10 ⟨rfl, hb10⟩
      have hbr10 := hbr9.trans (hb10.mono hbr9.size)
      clear hb10 hbr9
      go_wp2_with fail
      refine (works_any _ (hT.below hbr10 hg) (by have := hbr10.size; omega)).mono ?_
      rintro e w11 ⟨rfl, hb11⟩
      have hbr11 := hbr10.trans (hb11.mono hbr10.size)
      clear hb11 hbr10
      go_wp2
      go_ret
      exact ⟨rfl, hbr11⟩

/-- THE LAW's WALK: whatever the name, whatever the number. -/
theorem law_any (s : ByteArray) (leave : Int) (w : World) (hT : Tab w) (hg : 0 < w.heap.size) :
    Calls Tryd.prog 3 #[.string s, .int .i64 leave] w fun e w' => e = .returned (.bool true) ∧ Below w.heap.size w w' := by
  rcases which_cases s with ⟨h1, _, h3, h4, h5, h6⟩ | ⟨h1, _, h3, h4, h5, h6⟩ | ⟨h1, _, h3, h4, h5, h6⟩ | ⟨h1, _⟩
  · exact law_found s leave w hT hg (by omega) (by rw [h3]; decide +kernel) (by rw [h4, h5]) (fun s0 s1 s2 s3 h => by
      rw [h6] at h; simp at h; rw [← h.1]; decide +kernel)
  · exact law_found s leave w hT hg (by omega) (by rw [h3]; decide +kernel) (by rw [h4, h5]) (fun s0 s1 s2 s3 h => by
      rw [h6] at h; simp at h; rw [← h.1]; decide +kernel)
  · exact law_found s leave w hT hg (by omega) (by rw [h3]; decide +kernel) (by rw [h4, h5]) (fun s0 s1 s2 s3 h => by
      rw [h6] at h; simp at h; rw [← h.1]; decide +kernel)
  · exact law_none s leave w hT hg h1
end Go.Proofs.YtmkidbenndhhjaaDoor.Lx
