/-
  WALKS: Print.
-/
import Derived.Test.YtmkidbenndhhjaaDoorRowW
import Derived.Lib.AppendIntMem
set_option linter.unusedVariables false
set_option linter.unusedSimpArgs false
namespace Go.Proofs.YtmkidbenndhhjaaDoor.Dx
open Go.RowKit Go.Proofs Mx Bx
def printF (l : List Wd) : List UInt8 × Int := if l.all mayF then (if 1048576 < (tellL l).length then ([], 3) else (tellL l, 0)) else ([], 2)
theorem allMay_map (l : List (Int × Wd)) : allMay l = (l.map (·.2)).all mayF := by rw [allMay, List.all_map]; rfl
theorem tellL_pre (a b : List Wd) : (tellL a).length ≤ (tellL (a ++ b)).length := by
  induction b generalizing a with
  | nil => simp
  | cons v t ih =>
    have := ih (a ++ [v])
    rw [tellL_snoc] at this
    simp at this
    omega
theorem strCells_byteCells (Q : List UInt8) (s : ByteArray) : Lib.byteCells Q ++ Lib.strCells s = Lib.byteCells (Q ++ s.data.toList) := by
  simp [Lib.byteCells, Lib.strCells]
theorem bc_len (Q : List UInt8) : (Lib.byteCells Q).length = Q.length := by simp [Lib.byteCells]
theorem may_kind {v : Wd} (h : mayF v = true) : v.kind = 1 ∨ v.kind = 2 ∨ v.kind = 3 ∨ v.kind = 4 ∨ v.kind = 5 := by
  unfold mayF at h
  by_cases h1 : v.kind = 1; exact .inl h1
  by_cases h2 : v.kind = 2; exact .inr (.inl h2)
  by_cases h3 : v.kind = 3; exact .inr (.inr (.inl h3))
  by_cases h4 : v.kind = 4; exact .inr (.inr (.inr (.inl h4)))
  by_cases h5 : v.kind = 5; exact .inr (.inr (.inr (.inr h5)))
  rw [if_neg h1, if_neg h2, if_neg h3, if_neg h4, if_neg h5] at h
  cases h
theorem may_num4 {v : Wd} (h : mayF v = true) (h4 : v.kind = 4) : 0 ≤ v.num ∧ v.num ≤ 999999999 := by
  unfold mayF at h
  rw [if_neg (by omega), if_neg (by omega), if_neg (by omega), if_pos h4] at h
  simp at h
  exact ⟨h.1.2, h.2⟩
set_option maxRecDepth 100000 in
set_option maxHeartbeats 4000000 in
theorem print_row (g o cap : Nat) (l : List (Int × Wd)) (hl : l.length ≤ 1000000000) (hc : l.length ≤ cap) (hfit : ∀ q ∈ l, fitW q.2) (htot : allMay l = true → (tellL (l.map (·.2))).length ≤ 100000000000) (w : World) (E : Env w) (R : Bru w) (hr : RowW w g o l) :
    Calls Tryd.prog 24 #[.slice (some ⟨g, o, none⟩) l.length cap] w fun e w' => e = .returned (.tuple #[.string ⟨(printF (l.map (·.2))).1.toArray⟩, .int .i64 (printF (l.map (·.2))).2]) ∧ Below w.heap.size w w' := by
  have hcf := cf_any (.slice (some ⟨g, o, none⟩) l.length cap) l hl hfit w (.row hr hc)
  have HC := Lib.hid (And.intro hr (And.intro hfit (And.intro htot (And.intro E R))))
  clear hr hfit htot E R
  go_enter Tryd.func24, Tryd.ntmps24
  go_wp2_with fail
  refine hcf.mono ?_
  rintro e w1 ⟨rfl, hb1⟩
  have H1 := Lib.hid hb1
  clear hcf hb1
  by_cases hall : allMay l = true
  case neg =>
    go_wp2_with fail
    go_ret2
    refine ⟨?_, H1.out⟩
    rw [printF, ← allMay_map, if_neg hall]
    rfl
  have hfresh := Lib.fresh_isBuilder 80 5 w1
  have HA := Lib.hid hall
  have hL1 := H1.out.alloc H1.out.size (.cells #[.pointer none, .slice none 0 0] 80)
  have hlt1 : w1.heap.size < (w1.alloc (.cells #[.pointer none, .slice none 0 0] 80)).heap.size := by simp
  have hw1 := H1.out.size
  go_wp2_with fail
  obtain ⟨b0, hb0⟩ : ∃ b0, w1.heap.size = b0 := ⟨_, rfl⟩
  rw [hb0] at hfresh hlt1 hw1 ⊢
  generalize (w1.alloc (.cells #[.pointer none, .slice none 0 0] 80)) = w2 at hfresh hL1 hlt1 ⊢
  have H2 := Lib.hid (And.intro hfresh hL1)
  clear hfresh hL1 H1 hb0 hall
  go_loopg [11] l.length (fun m v wr => ∃ i : Nat, i ≤ l.length ∧ m = l.length - i ∧ v = .int .i64 i ∧ Lib.IsBuilder 80 5 b0 b0 (Lib.byteCells (tellL ((l.take i).map (·.2)))) wr ∧ Below w.heap.size w wr)
  case atStart => exact ⟨0, by omega, rfl, rfl, H2.out.1, H2.out.2⟩
  case round =>
    obtain ⟨i, hi, hm, rfl, hbu, hbe⟩ := hrel
    have A := Lib.hid (And.intro hm (And.intro hbu hbe))
    clear hm hbu hbe
    by_cases hlt : i < l.length
    · obtain ⟨q, hq⟩ : ∃ q, l[i] = q := ⟨_, rfl⟩
      obtain ⟨p, v⟩ := q
      have hget : l[i]? = some (p, v) := by rw [List.getElem?_eq_getElem hlt, hq]
      obtain ⟨c0, c1, c2, c3, c4, c5, c6, c7⟩ := (HC.out.1.cells i p v hget).below A.out.2.2 HC.out.1.lt
      have HF := Lib.hid (HC.out.2.1 (p, v) (List.mem_of_getElem? hget))
      have HM := Lib.hid (show mayF v = true from List.all_eq_true.1 HA.out (p, v) (List.mem_of_getElem? hget))
      have hlt' : (i : Int) < (l.length : Int) := by omega
      have hi0 : (0 : Int) ≤ (i : Int) := by omega
      have htk : (l.take (i + 1)).map (·.2) = (l.take i).map (·.2) ++ [v] := by
        rw [List.take_succ_eq_append_getElem hlt, hq, List.map_append]; rfl
      have HN := Lib.hid htk
      have hlen : (tellL ((l.take (i + 1)).map (·.2))).length ≤ 100000000000 := by
        have h2 := HC.out.2.2.1 HA.out
        rw [show l.map (·.2) = (l.take (i + 1)).map (·.2) ++ (l.drop (i + 1)).map (·.2) by rw [← List.map_append, List.take_append_drop]] at h2
        exact Nat.le_trans (tellL_pre _ _) h2
      rw [htk, tellL_snoc, List.length_append] at hlen
      clear hq htk
      -- the block of the word
      have hbk0 := Blk.new wr 51 #[.int .i64 v.kind, .int .i64 p, .string ⟨v.text.toArray⟩, .int .u64 (wd v.set 0), .int .u64 (wd v.set 1), .int .u64 (wd v.set 2), .int .u64 (wd v.set 3), .int .i64 v.num]
      have hal0 : Below wr.heap.size wr (wr.alloc (.cells #[.int .i64 v.kind, .int .i64 p, .string ⟨v.text.toArray⟩, .int .u64 (wd v.set 0), .int .u64 (wd v.set 1), .int .u64 (wd v.set 2), .int .u64 (wd v.set 3), .int .i64 v.num] 51)) := (Below.refl _ wr).alloc (Nat.le_refl _) _
      have hbu0 := isb_below A.out.2.1 hal0
      have hbe0 := A.out.2.2.trans (hal0.mono A.out.2.2.size)
      have hb0lt := isb_lt A.out.2.1
      obtain ⟨C, hC⟩ : ∃ C, wr.heap.size = C := ⟨_, rfl⟩
      have hw0 := A.out.2.2.size
      by_cases h0 : i = 0
      · rcases may_kind HM.out with hk | hk | hk | hk | hk
        · have h0' : ¬ (0 : Int) < (i : Int) := by omega
          have HI0 := Lib.hid h0
          clear h0
          have e1 : (v.kind == 4) = false := by rw [hk]; rfl
          have e2 : (v.kind == 2) = false := by rw [hk]; rfl
          have e3 : (v.kind == 3) = false := by rw [hk]; rfl
          have HKD := Lib.hid hk
          clear hk
          go_wp2_with fail
          rw [hC] at hbk0 hb0lt hw0
          generalize (wr.alloc (.cells #[.int .i64 v.kind, .int .i64 p, .string ⟨v.text.toArray⟩, .int .u64 (wd v.set 0), .int .u64 (wd v.set 1), .int .u64 (wd v.set 2), .int .u64 (wd v.set 3), .int .i64 v.num] 51)) = W at hbk0 hbu0 hbe0 hal0 ⊢
          obtain ⟨Q, hQ⟩ : ∃ Q : List UInt8, tellL ((l.take i).map (·.2)) = Q := ⟨_, rfl⟩
          have hQ2 : Q ++ toldF v = tellL ((l.take (i + 1)).map (·.2)) := by
            rw [HN.out, tellL_snoc, hQ, HI0.out]; rfl
          rw [hQ] at hbu0
          have hbu1 : Lib.IsBuilder 80 5 b0 b0 (Lib.byteCells Q) W := hbu0
          have hbk1 := hbk0
          have hbe1 := hbe0
          have hlen1 : Q.length + (toldF v).length ≤ 100000000000 := by
            rw [← List.length_append, hQ2, HN.out, tellL_snoc, List.length_append]; exact hlen
          clear hal0 hbu0 hbk0 hbe0 c0 c1 c2 c3 c4 c5 c6 c7 hlen
          clear hQ
          have HQ := Lib.hid hQ2
          clear hQ2
          obtain ⟨x0, x1, x2, x3, x4, x5, x6, x7, xf⟩ := hbk1.facts8
          have hWlt := hbk1.lt
          have HK := Lib.hid (And.intro hbu1 (And.intro hbk1 hbe1))
          clear hbu1 hbk1 hbe1
          have hk := HKD.out
          have htold : toldF v = v.text := by rw [toldF, if_neg (by omega), if_neg (by omega), if_neg (by omega)]
          rw [htold] at HQ hlen1
          clear hk
          have KB1 := HK.out.1
          have KL := HK.out.2.2
          have KB2 := Nat.le_of_lt (isb_lt KB1)
          refine (writeString2 b0 b0 (Lib.byteCells Q) ⟨(v.text).toArray⟩ _ KB1 (by rw [bc_len, Lib.size_eq]; simp; omega) KB2).mono ?_
          rintro e w9 ⟨rfl, hb9, hl9, hk9⟩
          have hN := HN.out
          have hB9 : Lib.IsBuilder 80 5 b0 b0 (Lib.byteCells (tellL ((l.take (i + 1)).map (·.2)))) w9 := by
            have := hb9
            rw [strCells_byteCells, HQ.out] at this
            exact .inr this
          have hL9 : Below w.heap.size w w9 := KL.trans (hl9.mono hw1)
          have H9 := Lib.hid (And.intro hB9 hL9)
          clear hb9 hl9 hk9 hB9 hL9 hN
          go_wp2_with fail
          go_roundg (l.length - (i + 1))
          case measure => have := A.out.1; omega
          case rel => exact ⟨i + 1, by omega, by omega, rfl, H9.out.1, H9.out.2⟩
  
        · have h0' : ¬ (0 : Int) < (i : Int) := by omega
          have HI0 := Lib.hid h0
          clear h0
          have e1 : (v.kind == 4) = false := by rw [hk]; rfl
          have e2 : (v.kind == 2) = true := by rw [hk]; rfl
          have HKD := Lib.hid hk
          clear hk
          go_wp2_with fail
          rw [hC] at hbk0 hb0lt hw0
          generalize (wr.alloc (.cells #[.int .i64 v.kind, .int .i64 p, .string ⟨v.text.toArray⟩, .int .u64 (wd v.set 0), .int .u64 (wd v.set 1), .int .u64 (wd v.set 2), .int .u64 (wd v.set 3), .int .i64 v.num] 51)) = W at hbk0 hbu0 hbe0 hal0 ⊢
          obtain ⟨Q, hQ⟩ : ∃ Q : List UInt8, tellL ((l.take i).map (·.2)) = Q := ⟨_, rfl⟩
          have hQ2 : Q ++ toldF v = tellL ((l.take (i + 1)).map (·.2)) := by
            rw [HN.out, tellL_snoc, hQ, HI0.out]; rfl
          rw [hQ] at hbu0
          have hbu1 : Lib.IsBuilder 80 5 b0 b0 (Lib.byteCells Q) W := hbu0
          have hbk1 := hbk0
          have hbe1 := hbe0
          have hlen1 : Q.length + (toldF v).length ≤ 100000000000 := by
            rw [← List.length_append, hQ2, HN.out, tellL_snoc, List.length_append]; exact hlen
          clear hal0 hbu0 hbk0 hbe0 c0 c1 c2 c3 c4 c5 c6 c7 hlen
          clear hQ
          have HQ := Lib.hid hQ2
          clear hQ2
          obtain ⟨x0, x1, x2, x3, x4, x5, x6, x7, xf⟩ := hbk1.facts8
          have hWlt := hbk1.lt
          have HK := Lib.hid (And.intro hbu1 (And.intro hbk1 hbe1))
          clear hbu1 hbk1 hbe1
          have hk := HKD.out
          have htold : toldF v = quoteF v.text := by rw [toldF, if_pos hk]
          rw [htold] at HQ hlen1
          clear hk
          refine (quote_any ⟨v.text.toArray⟩ (by rw [Lib.size_eq]; simpa using HF.out.2) _).mono ?_
          rintro e w8 ⟨rfl, hb8⟩
          have KB1 := isb_below HK.out.1 hb8
          have KL := HK.out.2.2.trans (hb8.mono HK.out.2.2.size)
          clear hb8
          go_wp2_with fail
          have KB2 := Nat.le_of_lt (isb_lt KB1)
          refine (writeString2 b0 b0 (Lib.byteCells Q) ⟨(quoteF v.text).toArray⟩ _ KB1 (by rw [bc_len, Lib.size_eq]; simp; omega) KB2).mono ?_
          rintro e w9 ⟨rfl, hb9, hl9, hk9⟩
          have hN := HN.out
          have hB9 : Lib.IsBuilder 80 5 b0 b0 (Lib.byteCells (tellL ((l.take (i + 1)).map (·.2)))) w9 := by
            have := hb9
            rw [strCells_byteCells, HQ.out] at this
            exact .inr this
          have hL9 : Below w.heap.size w w9 := KL.trans (hl9.mono hw1)
          have H9 := Lib.hid (And.intro hB9 hL9)
          clear hb9 hl9 hk9 hB9 hL9 hN
          go_wp2_with fail
          go_roundg (l.length - (i + 1))
          case measure => have := A.out.1; omega
          case rel => exact ⟨i + 1, by omega, by omega, rfl, H9.out.1, H9.out.2⟩
  
        · have h0' : ¬ (0 : Int) < (i : Int) := by omega
          have HI0 := Lib.hid h0
          clear h0
          have e1 : (v.kind == 4) = false := by rw [hk]; rfl
          have e2 : (v.kind == 2) = false := by rw [hk]; rfl
          have e3 : (v.kind == 3) = true := by rw [hk]; rfl
          have HKD := Lib.hid hk
          clear hk
          go_wp2_with fail
          rw [hC] at hbk0 hb0lt hw0
          generalize (wr.alloc (.cells #[.int .i64 v.kind, .int .i64 p, .string ⟨v.text.toArray⟩, .int .u64 (wd v.set 0), .int .u64 (wd v.set 1), .int .u64 (wd v.set 2), .int .u64 (wd v.set 3), .int .i64 v.num] 51)) = W at hbk0 hbu0 hbe0 hal0 ⊢
          obtain ⟨Q, hQ⟩ : ∃ Q : List UInt8, tellL ((l.take i).map (·.2)) = Q := ⟨_, rfl⟩
          have hQ2 : Q ++ toldF v = tellL ((l.take (i + 1)).map (·.2)) := by
            rw [HN.out, tellL_snoc, hQ, HI0.out]; rfl
          rw [hQ] at hbu0
          have hbu1 : Lib.IsBuilder 80 5 b0 b0 (Lib.byteCells Q) W := hbu0
          have hbk1 := hbk0
          have hbe1 := hbe0
          have hlen1 : Q.length + (toldF v).length ≤ 100000000000 := by
            rw [← List.length_append, hQ2, HN.out, tellL_snoc, List.length_append]; exact hlen
          clear hal0 hbu0 hbk0 hbe0 c0 c1 c2 c3 c4 c5 c6 c7 hlen
          clear hQ
          have HQ := Lib.hid hQ2
          clear hQ2
          obtain ⟨x0, x1, x2, x3, x4, x5, x6, x7, xf⟩ := hbk1.facts8
          have hWlt := hbk1.lt
          have HK := Lib.hid (And.intro hbu1 (And.intro hbk1 hbe1))
          clear hbu1 hbk1 hbe1
          have hk := HKD.out
          have htold : toldF v = setText v.set := by rw [toldF, if_neg (by omega), if_pos hk]
          rw [htold] at HQ hlen1
          clear hk
          refine (stext_any v.set HF.out.1 _ (HC.out.2.2.2.2.below HK.out.2.2 (Nat.le_trans (by decide) HC.out.2.2.2.1.big)) (Nat.le_trans (Nat.le_trans (by decide) HC.out.2.2.2.1.big) HK.out.2.2.size)).mono ?_
          rintro e w8 ⟨rfl, hb8⟩
          have KB1 := isb_below HK.out.1 hb8
          have KL := HK.out.2.2.trans (hb8.mono HK.out.2.2.size)
          clear hb8
          go_wp2_with fail
          have KB2 := Nat.le_of_lt (isb_lt KB1)
          refine (writeString2 b0 b0 (Lib.byteCells Q) ⟨(setText v.set).toArray⟩ _ KB1 (by rw [bc_len, Lib.size_eq]; simp; omega) KB2).mono ?_
          rintro e w9 ⟨rfl, hb9, hl9, hk9⟩
          have hN := HN.out
          have hB9 : Lib.IsBuilder 80 5 b0 b0 (Lib.byteCells (tellL ((l.take (i + 1)).map (·.2)))) w9 := by
            have := hb9
            rw [strCells_byteCells, HQ.out] at this
            exact .inr this
          have hL9 : Below w.heap.size w w9 := KL.trans (hl9.mono hw1)
          have H9 := Lib.hid (And.intro hB9 hL9)
          clear hb9 hl9 hk9 hB9 hL9 hN
          go_wp2_with fail
          go_roundg (l.length - (i + 1))
          case measure => have := A.out.1; omega
          case rel => exact ⟨i + 1, by omega, by omega, rfl, H9.out.1, H9.out.2⟩
  
        · have h0' : ¬ (0 : Int) < (i : Int) := by omega
          have HI0 := Lib.hid h0
          clear h0
          have e1 : (v.kind == 4) = true := by rw [hk]; rfl
          have HKD := Lib.hid hk
          clear hk
          go_wp2_with fail
          rw [hC] at hbk0 hb0lt hw0
          generalize (wr.alloc (.cells #[.int .i64 v.kind, .int .i64 p, .string ⟨v.text.toArray⟩, .int .u64 (wd v.set 0), .int .u64 (wd v.set 1), .int .u64 (wd v.set 2), .int .u64 (wd v.set 3), .int .i64 v.num] 51)) = W at hbk0 hbu0 hbe0 hal0 ⊢
          obtain ⟨Q, hQ⟩ : ∃ Q : List UInt8, tellL ((l.take i).map (·.2)) = Q := ⟨_, rfl⟩
          have hQ2 : Q ++ toldF v = tellL ((l.take (i + 1)).map (·.2)) := by
            rw [HN.out, tellL_snoc, hQ, HI0.out]; rfl
          rw [hQ] at hbu0
          have hbu1 : Lib.IsBuilder 80 5 b0 b0 (Lib.byteCells Q) W := hbu0
          have hbk1 := hbk0
          have hbe1 := hbe0
          have hlen1 : Q.length + (toldF v).length ≤ 100000000000 := by
            rw [← List.length_append, hQ2, HN.out, tellL_snoc, List.length_append]; exact hlen
          clear hal0 hbu0 hbk0 hbe0 c0 c1 c2 c3 c4 c5 c6 c7 hlen
          clear hQ
          have HQ := Lib.hid hQ2
          clear hQ2
          obtain ⟨x0, x1, x2, x3, x4, x5, x6, x7, xf⟩ := hbk1.facts8
          have hWlt := hbk1.lt
          have HK := Lib.hid (And.intro hbu1 (And.intro hbk1 hbe1))
          clear hbu1 hbk1 hbe1
          have hk := HKD.out
          have htold : toldF v = Lib.itoa v.num := by rw [toldF, if_neg (by omega), if_neg (by omega), if_pos hk]
          rw [htold] at HQ hlen1
          clear hk
          refine (Tryd.strconv_Itoa v.num (by have := may_num4 HM.out HKD.out; omega) (by have := may_num4 HM.out HKD.out; omega) _ ((HC.out.2.2.2.1.below HK.out.2.2 (Nat.le_trans (by decide) HC.out.2.2.2.1.big)).pow)).mono ?_
          rintro e w8 ⟨rfl, kk, oo, hw8⟩
          have hb8 : Below W.heap.size W w8 := by rw [hw8]; exact Lib.below_grow _ W (Nat.le_refl _) kk oo
          clear hw8
          have KB1 := isb_below HK.out.1 hb8
          have KL := HK.out.2.2.trans (hb8.mono HK.out.2.2.size)
          clear hb8
          go_wp2_with fail
          have KB2 := Nat.le_of_lt (isb_lt KB1)
          refine (writeString2 b0 b0 (Lib.byteCells Q) ⟨(Lib.itoa v.num).toArray⟩ _ KB1 (by rw [bc_len, Lib.size_eq]; simp; omega) KB2).mono ?_
          rintro e w9 ⟨rfl, hb9, hl9, hk9⟩
          have hN := HN.out
          have hB9 : Lib.IsBuilder 80 5 b0 b0 (Lib.byteCells (tellL ((l.take (i + 1)).map (·.2)))) w9 := by
            have := hb9
            rw [strCells_byteCells, HQ.out] at this
            exact .inr this
          have hL9 : Below w.heap.size w w9 := KL.trans (hl9.mono hw1)
          have H9 := Lib.hid (And.intro hB9 hL9)
          clear hb9 hl9 hk9 hB9 hL9 hN
          go_wp2_with fail
          go_roundg (l.length - (i + 1))
          case measure => have := A.out.1; omega
          case rel => exact ⟨i + 1, by omega, by omega, rfl, H9.out.1, H9.out.2⟩
  
        · have h0' : ¬ (0 : Int) < (i : Int) := by omega
          have HI0 := Lib.hid h0
          clear h0
          have e1 : (v.kind == 4) = false := by rw [hk]; rfl
          have e2 : (v.kind == 2) = false := by rw [hk]; rfl
          have e3 : (v.kind == 3) = false := by rw [hk]; rfl
          have HKD := Lib.hid hk
          clear hk
          go_wp2_with fail
          rw [hC] at hbk0 hb0lt hw0
          generalize (wr.alloc (.cells #[.int .i64 v.kind, .int .i64 p, .string ⟨v.text.toArray⟩, .int .u64 (wd v.set 0), .int .u64 (wd v.set 1), .int .u64 (wd v.set 2), .int .u64 (wd v.set 3), .int .i64 v.num] 51)) = W at hbk0 hbu0 hbe0 hal0 ⊢
          obtain ⟨Q, hQ⟩ : ∃ Q : List UInt8, tellL ((l.take i).map (·.2)) = Q := ⟨_, rfl⟩
          have hQ2 : Q ++ toldF v = tellL ((l.take (i + 1)).map (·.2)) := by
            rw [HN.out, tellL_snoc, hQ, HI0.out]; rfl
          rw [hQ] at hbu0
          have hbu1 : Lib.IsBuilder 80 5 b0 b0 (Lib.byteCells Q) W := hbu0
          have hbk1 := hbk0
          have hbe1 := hbe0
          have hlen1 : Q.length + (toldF v).length ≤ 100000000000 := by
            rw [← List.length_append, hQ2, HN.out, tellL_snoc, List.length_append]; exact hlen
          clear hal0 hbu0 hbk0 hbe0 c0 c1 c2 c3 c4 c5 c6 c7 hlen
          clear hQ
          have HQ := Lib.hid hQ2
          clear hQ2
          obtain ⟨x0, x1, x2, x3, x4, x5, x6, x7, xf⟩ := hbk1.facts8
          have hWlt := hbk1.lt
          have HK := Lib.hid (And.intro hbu1 (And.intro hbk1 hbe1))
          clear hbu1 hbk1 hbe1
          have hk := HKD.out
          have htold : toldF v = v.text := by rw [toldF, if_neg (by omega), if_neg (by omega), if_neg (by omega)]
          rw [htold] at HQ hlen1
          clear hk
          have KB1 := HK.out.1
          have KL := HK.out.2.2
          have KB2 := Nat.le_of_lt (isb_lt KB1)
          refine (writeString2 b0 b0 (Lib.byteCells Q) ⟨(v.text).toArray⟩ _ KB1 (by rw [bc_len, Lib.size_eq]; simp; omega) KB2).mono ?_
          rintro e w9 ⟨rfl, hb9, hl9, hk9⟩
          have hN := HN.out
          have hB9 : Lib.IsBuilder 80 5 b0 b0 (Lib.byteCells (tellL ((l.take (i + 1)).map (·.2)))) w9 := by
            have := hb9
            rw [strCells_byteCells, HQ.out] at this
            exact .inr this
          have hL9 : Below w.heap.size w w9 := KL.trans (hl9.mono hw1)
          have H9 := Lib.hid (And.intro hB9 hL9)
          clear hb9 hl9 hk9 hB9 hL9 hN
          go_wp2_with fail
          go_roundg (l.length - (i + 1))
          case measure => have := A.out.1; omega
          case rel => exact ⟨i + 1, by omega, by omega, rfl, H9.out.1, H9.out.2⟩
  
      · have h0' : (0 : Int) < (i : Int) := by omega
        go_wp2_with fail
        rw [hC] at hbk0 hb0lt hw0
        generalize (wr.alloc (.cells #[.int .i64 v.kind, .int .i64 p, .string ⟨v.text.toArray⟩, .int .u64 (wd v.set 0), .int .u64 (wd v.set 1), .int .u64 (wd v.set 2), .int .u64 (wd v.set 3), .int .i64 v.num] 51)) = W at hbk0 hbu0 hbe0 hal0 ⊢
        have hne : (l.take i).map (·.2) ≠ [] := by
          intro e
          have := congrArg List.length e
          rw [List.length_map, List.length_take, Nat.min_eq_left hi] at this
          simp at this
          omega
        rw [if_neg hne] at hlen
        refine (writeByte2 b0 b0 (Lib.byteCells (tellL ((l.take i).map (·.2)))) 32 _ hbu0 (by rw [bc_len]; omega) (by have := isb_lt hbu0; omega)).mono ?_
        rintro e w7 ⟨rfl, hb7, hl7, hk7⟩
        obtain ⟨Q, hQ⟩ : ∃ Q : List UInt8, tellL ((l.take i).map (·.2)) ++ [32] = Q := ⟨_, rfl⟩
        have hQ2 : Q ++ toldF v = tellL ((l.take (i + 1)).map (·.2)) := by
          rw [HN.out, tellL_snoc, if_neg hne, ← hQ]; simp
        have hbu1 : Lib.IsBuilder 80 5 b0 b0 (Lib.byteCells Q) w7 := by
          rw [← hQ]
          have := hb7
          rw [show [Value.int .u8 32] = [.int .u8 ((32 : UInt8).toNat : Int)] from rfl, show Lib.byteCells (tellL ((l.take i).map (·.2))) ++ [.int .u8 ((32 : UInt8).toNat : Int)] = Lib.byteCells (tellL ((l.take i).map (·.2)) ++ [32]) by simp [Lib.byteCells]] at this
          exact .inr this
        have hbk1 := kept_blk hbk0 hk7 (by omega) (by decide)
        have hbe1 := hbe0.trans (hl7.mono hw1)
        have hlen1 : Q.length + (toldF v).length ≤ 100000000000 := by
          rw [← hQ]; simp at hlen ⊢; omega
        clear hal0 hbu0 hbk0 hbe0 c0 c1 c2 c3 c4 c5 c6 c7 hlen h0 hb7 hl7 hk7 hne
        clear hQ
        obtain ⟨W, hW⟩ : ∃ W, w7 = W := ⟨_, rfl⟩
        rw [hW] at hbu1 hbk1 hbe1 ⊢
        clear hW
        have HQ := Lib.hid hQ2
        clear hQ2
        obtain ⟨x0, x1, x2, x3, x4, x5, x6, x7, xf⟩ := hbk1.facts8
        have hWlt := hbk1.lt
        have HK := Lib.hid (And.intro hbu1 (And.intro hbk1 hbe1))
        clear hbu1 hbk1 hbe1
        rcases may_kind HM.out with hk | hk | hk | hk | hk
        · have e1 : (v.kind == 4) = false := by rw [hk]; rfl
          have e2 : (v.kind == 2) = false := by rw [hk]; rfl
          have e3 : (v.kind == 3) = false := by rw [hk]; rfl
          have HKD := Lib.hid hk
          clear hk
          have hk := HKD.out
          have htold : toldF v = v.text := by rw [toldF, if_neg (by omega), if_neg (by omega), if_neg (by omega)]
          rw [htold] at HQ hlen1
          clear hk
          go_wp2_with fail
          have KB1 := HK.out.1
          have KL := HK.out.2.2
          have KB2 := Nat.le_of_lt (isb_lt KB1)
          refine (writeString2 b0 b0 (Lib.byteCells Q) ⟨(v.text).toArray⟩ _ KB1 (by rw [bc_len, Lib.size_eq]; simp; omega) KB2).mono ?_
          rintro e w9 ⟨rfl, hb9, hl9, hk9⟩
          have hN := HN.out
          have hB9 : Lib.IsBuilder 80 5 b0 b0 (Lib.byteCells (tellL ((l.take (i + 1)).map (·.2)))) w9 := by
            have := hb9
            rw [strCells_byteCells, HQ.out] at this
            exact .inr this
          have hL9 : Below w.heap.size w w9 := KL.trans (hl9.mono hw1)
          have H9 := Lib.hid (And.intro hB9 hL9)
          clear hb9 hl9 hk9 hB9 hL9 hN
          go_wp2_with fail
          go_roundg (l.length - (i + 1))
          case measure => have := A.out.1; omega
          case rel => exact ⟨i + 1, by omega, by omega, rfl, H9.out.1, H9.out.2⟩
  
        · have e1 : (v.kind == 4) = false := by rw [hk]; rfl
          have e2 : (v.kind == 2) = true := by rw [hk]; rfl
          have HKD := Lib.hid hk
          clear hk
          have hk := HKD.out
          have htold : toldF v = quoteF v.text := by rw [toldF, if_pos hk]
          rw [htold] at HQ hlen1
          clear hk
          go_wp2_with fail
          refine (quote_any ⟨v.text.toArray⟩ (by rw [Lib.size_eq]; simpa using HF.out.2) _).mono ?_
          rintro e w8 ⟨rfl, hb8⟩
          have KB1 := isb_below HK.out.1 hb8
          have KL := HK.out.2.2.trans (hb8.mono HK.out.2.2.size)
          clear hb8
          go_wp2_with fail
          have KB2 := Nat.le_of_lt (isb_lt KB1)
          refine (writeString2 b0 b0 (Lib.byteCells Q) ⟨(quoteF v.text).toArray⟩ _ KB1 (by rw [bc_len, Lib.size_eq]; simp; omega) KB2).mono ?_
          rintro e w9 ⟨rfl, hb9, hl9, hk9⟩
          have hN := HN.out
          have hB9 : Lib.IsBuilder 80 5 b0 b0 (Lib.byteCells (tellL ((l.take (i + 1)).map (·.2)))) w9 := by
            have := hb9
            rw [strCells_byteCells, HQ.out] at this
            exact .inr this
          have hL9 : Below w.heap.size w w9 := KL.trans (hl9.mono hw1)
          have H9 := Lib.hid (And.intro hB9 hL9)
          clear hb9 hl9 hk9 hB9 hL9 hN
          go_wp2_with fail
          go_roundg (l.length - (i + 1))
          case measure => have := A.out.1; omega
          case rel => exact ⟨i + 1, by omega, by omega, rfl, H9.out.1, H9.out.2⟩
  
        · have e1 : (v.kind == 4) = false := by rw [hk]; rfl
          have e2 : (v.kind == 2) = false := by rw [hk]; rfl
          have e3 : (v.kind == 3) = true := by rw [hk]; rfl
          have HKD := Lib.hid hk
          clear hk
          have hk := HKD.out
          have htold : toldF v = setText v.set := by rw [toldF, if_neg (by omega), if_pos hk]
          rw [htold] at HQ hlen1
          clear hk
          go_wp2_with fail
          refine (stext_any v.set HF.out.1 _ (HC.out.2.2.2.2.below HK.out.2.2 (Nat.le_trans (by decide) HC.out.2.2.2.1.big)) (Nat.le_trans (Nat.le_trans (by decide) HC.out.2.2.2.1.big) HK.out.2.2.size)).mono ?_
          rintro e w8 ⟨rfl, hb8⟩
          have KB1 := isb_below HK.out.1 hb8
          have KL := HK.out.2.2.trans (hb8.mono HK.out.2.2.size)
          clear hb8
          go_wp2_with fail
          have KB2 := Nat.le_of_lt (isb_lt KB1)
          refine (writeString2 b0 b0 (Lib.byteCells Q) ⟨(setText v.set).toArray⟩ _ KB1 (by rw [bc_len, Lib.size_eq]; simp; omega) KB2).mono ?_
          rintro e w9 ⟨rfl, hb9, hl9, hk9⟩
          have hN := HN.out
          have hB9 : Lib.IsBuilder 80 5 b0 b0 (Lib.byteCells (tellL ((l.take (i + 1)).map (·.2)))) w9 := by
            have := hb9
            rw [strCells_byteCells, HQ.out] at this
            exact .inr this
          have hL9 : Below w.heap.size w w9 := KL.trans (hl9.mono hw1)
          have H9 := Lib.hid (And.intro hB9 hL9)
          clear hb9 hl9 hk9 hB9 hL9 hN
          go_wp2_with fail
          go_roundg (l.length - (i + 1))
          case measure => have := A.out.1; omega
          case rel => exact ⟨i + 1, by omega, by omega, rfl, H9.out.1, H9.out.2⟩
  
        · have e1 : (v.kind == 4) = true := by rw [hk]; rfl
          have HKD := Lib.hid hk
          clear hk
          have hk := HKD.out
          have htold : toldF v = Lib.itoa v.num := by rw [toldF, if_neg (by omega), if_neg (by omega), if_pos hk]
          rw [htold] at HQ hlen1
          clear hk
          go_wp2_with fail
          refine (Tryd.strconv_Itoa v.num (by have := may_num4 HM.out HKD.out; omega) (by have := may_num4 HM.out HKD.out; omega) _ ((HC.out.2.2.2.1.below HK.out.2.2 (Nat.le_trans (by decide) HC.out.2.2.2.1.big)).pow)).mono ?_
          rintro e w8 ⟨rfl, kk, oo, hw8⟩
          have hb8 : Below W.heap.size W w8 := by rw [hw8]; exact Lib.below_grow _ W (Nat.le_refl _) kk oo
          clear hw8
          have KB1 := isb_below HK.out.1 hb8
          have KL := HK.out.2.2.trans (hb8.mono HK.out.2.2.size)
          clear hb8
          go_wp2_with fail
          have KB2 := Nat.le_of_lt (isb_lt KB1)
          refine (writeString2 b0 b0 (Lib.byteCells Q) ⟨(Lib.itoa v.num).toArray⟩ _ KB1 (by rw [bc_len, Lib.size_eq]; simp; omega) KB2).mono ?_
          rintro e w9 ⟨rfl, hb9, hl9, hk9⟩
          have hN := HN.out
          have hB9 : Lib.IsBuilder 80 5 b0 b0 (Lib.byteCells (tellL ((l.take (i + 1)).map (·.2)))) w9 := by
            have := hb9
            rw [strCells_byteCells, HQ.out] at this
            exact .inr this
          have hL9 : Below w.heap.size w w9 := KL.trans (hl9.mono hw1)
          have H9 := Lib.hid (And.intro hB9 hL9)
          clear hb9 hl9 hk9 hB9 hL9 hN
          go_wp2_with fail
          go_roundg (l.length - (i + 1))
          case measure => have := A.out.1; omega
          case rel => exact ⟨i + 1, by omega, by omega, rfl, H9.out.1, H9.out.2⟩
  
        · have e1 : (v.kind == 4) = false := by rw [hk]; rfl
          have e2 : (v.kind == 2) = false := by rw [hk]; rfl
          have e3 : (v.kind == 3) = false := by rw [hk]; rfl
          have HKD := Lib.hid hk
          clear hk
          have hk := HKD.out
          have htold : toldF v = v.text := by rw [toldF, if_neg (by omega), if_neg (by omega), if_neg (by omega)]
          rw [htold] at HQ hlen1
          clear hk
          go_wp2_with fail
          have KB1 := HK.out.1
          have KL := HK.out.2.2
          have KB2 := Nat.le_of_lt (isb_lt KB1)
          refine (writeString2 b0 b0 (Lib.byteCells Q) ⟨(v.text).toArray⟩ _ KB1 (by rw [bc_len, Lib.size_eq]; simp; omega) KB2).mono ?_
          rintro e w9 ⟨rfl, hb9, hl9, hk9⟩
          have hN := HN.out
          have hB9 : Lib.IsBuilder 80 5 b0 b0 (Lib.byteCells (tellL ((l.take (i + 1)).map (·.2)))) w9 := by
            have := hb9
            rw [strCells_byteCells, HQ.out] at this
            exact .inr this
          have hL9 : Below w.heap.size w w9 := KL.trans (hl9.mono hw1)
          have H9 := Lib.hid (And.intro hB9 hL9)
          clear hb9 hl9 hk9 hB9 hL9 hN
          go_wp2_with fail
          go_roundg (l.length - (i + 1))
          case measure => have := A.out.1; omega
          case rel => exact ⟨i + 1, by omega, by omega, rfl, H9.out.1, H9.out.2⟩
  
    · obtain rfl : i = l.length := by omega
      have hbu := A.out.2.1
      have hbe := A.out.2.2
      rw [List.take_length] at hbu
      have HZ := Lib.hid (And.intro hbu hbe)
      clear A hbu hbe
      go_wp2_with fail
      refine (Tryd.Builder_Len b0 b0 _ _ HZ.out.1).mono ?_
      rintro e w8 ⟨rfl, rfl⟩
      rw [bc_len]
      by_cases hbig : 1048576 < (tellL (l.map (·.2))).length
      · have hbig' : (1048576 : Int) < ((tellL (l.map (·.2))).length : Int) := by omega
        go_wp2_with fail
        go_ret2
        refine ⟨?_, HZ.out.2⟩
        rw [printF, ← allMay_map, HA.out, if_pos rfl, if_pos hbig]
        rfl
      · have hbig' : ¬ (1048576 : Int) < ((tellL (l.map (·.2))).length : Int) := by omega
        go_wp2_with fail
        refine (Tryd.Builder_String_any b0 b0 _ _ HZ.out.1 (Nat.le_of_lt (isb_lt HZ.out.1))).mono ?_
        rintro e w9 ⟨rfl, hb9⟩
        have H9 := Lib.hid (HZ.out.2.trans (hb9.mono hw1))
        clear hb9
        go_wp2_with fail
        go_ret2
        refine ⟨?_, H9.out⟩
        rw [printF, ← allMay_map, HA.out, if_pos rfl, if_neg hbig]
        rfl
end Go.Proofs.YtmkidbenndhhjaaDoor.Dx
