/-
  DeflexTexts.
-/
import Derived.Test.YtacgnbelcpmjfaaGreatDoorRSomeA
import Derived.Test.YtacgnbelcpmjfaaGreatDoorGoes
import Derived.RegionTactic
set_option linter.unusedVariables false
set_option linter.unusedSimpArgs false
namespace Go.Proofs.YtacgnbelcpmjfaaGreatDoor.Dx
open Go.RowKit Go.Proofs Mx Bx
theorem lexR_fst (l : List UInt8) : (lexR l).1 = [] ∨ (lexR l).1 = (lexF 0 l).1 := by
  unfold lexR
  split
  · unfold readR
    split
    · exact .inl rfl
    · exact .inr rfl
  · exact .inl rfl
theorem lexR_set (l : List UInt8) : ∀ q ∈ (lexR l).1, q.2.set < 2 ^ 256 := by
  intro q hq
  rcases lexR_fst l with h | h
  · rw [h] at hq; cases hq
  · rw [h] at hq
    exact ((lexF_may 0 l).1 q.2 (List.mem_map_of_mem (f := (·.2)) hq)).2
theorem lexR_len (l : List UInt8) : (lexR l).1.length ≤ l.length := by
  rcases lexR_fst l with h | h
  · rw [h]; exact Nat.zero_le _
  · rw [h]; exact (lexF_may 0 l).2.2
theorem slice_ptr {w : World} {a : Option Addr} {n c : Nat} {l : List (Int × Wd)} (h : SliceW w (.slice a n c) l) (hl : 0 < l.length) : ∃ g o, a = some ⟨g, o, none⟩ ∧ RowW w g o l := by
  cases h with
  | nil => simp at hl
  | row h hc => exact ⟨_, _, rfl, h⟩
set_option maxRecDepth 100000 in
set_option maxHeartbeats 4000000 in
theorem texts_law (s : ByteArray) (leave : Int) (w : World) (E : Env w) (R : Bru w) :
    Calls Tryz.prog 3 #[.string s, .int .i64 leave] w fun e w' => e = .returned (.bool true) ∧ Below w.heap.size w w' := by
  have hwk := works_any w E R
  have h10 := E.big
  have HE := Lib.hid (And.intro E R)
  clear E R
  go_enter Tryz.func3, Tryz.ntmps3
  by_cases ha : 5000 < s.size
  · have ha' : (5000 : Int) < (s.size : Int) := by omega
    go_wp2_with fail
    refine hwk.mono ?_
    rintro e w1 ⟨rfl, hb1⟩
    have H1 := Lib.hid hb1
    clear hb1
    go_wp2_with fail
    go_ret
    exact ⟨rfl, H1.out⟩
  have ha' : ¬ (5000 : Int) < (s.size : Int) := by omega
  clear hwk
  have hla := lex_any s w HE.out.1
  have hlb := fun W => rlex_any s (by omega) W
  have hls := fun W => rsome_any s (by omega) W
  have hset := lexR_set s.data.toList
  have hlen := lexR_len s.data.toList
  rw [← Lib.size_eq] at hlen
  obtain ⟨⟨la, pa, ea⟩, hra⟩ : ∃ r, lexR s.data.toList = r := ⟨_, rfl⟩
  obtain ⟨⟨ls, ps, es⟩, hrs⟩ : ∃ r, readR s.data.toList = r := ⟨_, rfl⟩
  rw [hra] at hla hset hlen
  simp only [hra] at hlb
  simp only [hrs] at hls
  have hls1 : (readR s.data.toList).1 = ls := by rw [hrs]
  have HG := Lib.hid (And.intro hls1 hset)
  clear hra hrs hls1 hset
  go_wp2_with fail
  refine hla.mono ?_
  rintro e w1 ⟨a1, n1, c1, rfl, hown1, hb1⟩
  obtain ⟨rfl, hs1⟩ := own_sliceW hown1
  have H1 := Lib.hid (And.intro hb1 hs1)
  clear hla hown1 hb1 hs1
  go_wp2_with fail
  refine (hlb _).mono ?_
  rintro e w2 ⟨a2, n2, c2, rfl, hown2, hb2⟩
  obtain ⟨rfl, hs2⟩ := own_sliceW hown2
  have hb2' := H1.out.1.trans (hb2.mono H1.out.1.size)
  have hs1' := H1.out.2.below hb2
  have H2 := Lib.hid (And.intro hb2' (And.intro hs1' hs2))
  clear hlb hown2 hb2 hs2 hb2' hs1'
  go_wp2_with fail
  refine (num_any _ _).mono ?_
  rintro e w3 ⟨rfl, rfl⟩
  have hnq := neq_word
  have hqq := fun p v hv => eqW_bool p v v hv hv true (by simp)
  go_wp2_with fail
  go_loopg [11] la.length (fun m v wr => ∃ i : Nat, i ≤ la.length ∧ m = la.length - i ∧ v = .int .i64 i ∧ Below w3.heap.size w3 wr)
  case atStart => exact ⟨0, by omega, by omega, rfl, Below.refl _ _⟩
  case round =>
    obtain ⟨i, hi, hm, rfl, hbe⟩ := hrel
    have A := Lib.hid (And.intro hm hbe)
    clear hm hbe
    by_cases hlt : i < la.length
    · obtain ⟨q, hq⟩ : ∃ q, (wI la)[i]? = some q := ⟨_, List.getElem?_eq_getElem (by rw [wI_len]; exact hlt)⟩
      obtain ⟨p, v⟩ := q
      obtain ⟨g1, o1, rfl, hr1⟩ := slice_ptr H2.out.2.1 (by rw [wI_len]; omega)
      obtain ⟨g2, o2, rfl, hr2⟩ := slice_ptr H2.out.2.2 (by rw [wI_len]; omega)
      have hlt' : (i : Int) < (la.length : Int) := by omega
      have hi0 : (0 : Int) ≤ (i : Int) := by omega
      have hvs : v.set < 2 ^ 256 := by
        have h1 := List.mem_of_getElem? hq
        unfold wI at h1
        obtain ⟨x, hx1, hx2⟩ := List.mem_map.1 h1
        have := HG.out.2 x hx1
        injection hx2 with hx3 hx4
        rw [← hx4]; exact this
      have hq1 := hqq p v hvs
      have hca := (hr1.cells i p v hq).below A.out.2 hr1.lt
      have hcb := (hr2.cells i p v hq).below A.out.2 hr2.lt
      clear hq hr1 hr2 hvs hqq
      obtain ⟨c0, c1, c2, c3', c4, c5, c6, c7⟩ := hca
      obtain ⟨d0, d1, d2, d3, d4, d5, d6, d7⟩ := hcb
      go_wp2_with fail
      go_region
      all_goals
        go_wp2_with fail
        go_roundg (la.length - (i + 1))
        case measure => have := A.out.1; omega
        case rel => exact ⟨i + 1, by omega, by omega, rfl, by first | exact A.out.2 | exact A.out.2.drew⟩
    · obtain rfl : i = la.length := by omega
      have HB := Lib.hid (H2.out.1.trans (A.out.2.mono H2.out.1.size))
      clear A hqq hnq
      go_wp2_with fail
      refine (hls _).mono ?_
      rintro e w4 ⟨a4, n4, c4, rfl, hown4, hb4⟩
      obtain ⟨rfl, hs4⟩ := own_sliceW hown4
      have hb4' := HB.out.trans (hb4.mono HB.out.size)
      have H4 := Lib.hid (And.intro hb4' hs4)
      clear hown4 hb4 hs4 hb4' hls
      go_wp2_with fail
      refine (all_any s w4).mono ?_
      rintro e w5 ⟨rfl, h5⟩
      have hbs : Blk w5 w4.heap.size 9 #[.string s] := by rw [h5]; exact Blk.new w4 _ _
      have hal : Below w4.heap.size w4 w5 := by rw [h5]; exact (Below.refl _ _).alloc (Nat.le_refl _) _
      clear h5
      have hb5 := H4.out.1.trans (hal.mono H4.out.1.size)
      have hg5 := goes_any s _ leave w4.heap.size w5 (HE.out.1.below hb5 (Nat.le_trans (by decide) h10)) hbs ls HG.out.1 (H4.out.2.below hal)
      have H5 := Lib.hid (And.intro hb5 (And.intro hbs (H4.out.2.below hal)))
      clear hbs hal hb5
      go_wp2_with fail
      refine hg5.mono ?_
      rintro e w6 ⟨rfl, hb6⟩
      have hb6' := H5.out.1.trans (hb6.mono H5.out.1.size)
      have hg6 := goes_any s _ 0 w4.heap.size w6 (HE.out.1.below hb6' (Nat.le_trans (by decide) h10)) (H5.out.2.1.below hb6 H5.out.2.1.lt) ls HG.out.1 (H5.out.2.2.below hb6)
      have H6 := Lib.hid hb6'
      clear hb6 hb6' hg5
      go_wp2_with fail
      refine hg6.mono ?_
      rintro e w7 ⟨rfl, hb7⟩
      have hb7' := H6.out.trans (hb7.mono H6.out.size)
      have hwk := works_any w7 (HE.out.1.below hb7' (Nat.le_trans (by decide) h10)) (HE.out.2.below hb7' (Nat.le_trans (by decide) h10))
      have H7 := Lib.hid hb7'
      clear hb7 hb7' hg6
      go_wp2_with fail
      refine hwk.mono ?_
      rintro e w8 ⟨rfl, hb8⟩
      have H8 := Lib.hid (H7.out.trans (hb8.mono H7.out.size))
      clear hb8
      go_wp2_with fail
      go_ret
      exact ⟨rfl, H8.out⟩
end Go.Proofs.YtacgnbelcpmjfaaGreatDoor.Dx
