/-
  WALKS: Print.
  WALKS: Print of any slice; Same.
  WALKS: works.
-/
import Derived.Test.YtacgnbelcpmjfaaGreatDoorRowW
import Derived.Lib.AppendIntMem
set_option linter.unusedVariables false
set_option linter.unusedSimpArgs false
namespace Go.Proofs.YtacgnbelcpmjfaaGreatDoor.Dx
open Go.RowKit Go.Proofs Mx Bx
def printF (l : List Wd) : List UInt8 × Int := if l.all mayF then (if 1048576 < (tellL l).length then ([], 3) else (tellL l, 0)) else ([], 2)
theorem allMay_map (l : List (Int × Wd)) : allMay l = (l.map (·.2)).all mayF := by rw [allMay, List.all_map]; rfl
theorem tellL_pre (a b : List Wd) : (tellL a).length ≤ (tellL (a ++ b)).length := by
  induction b generalizing a with
  | nil => simp
  | cons v t ih =>
    have := ih (a ++ [v])
    rw [tellL_snoc] at this
    simp at this
    omega
theorem strCells_byteCells (Q : List UInt8) (s : ByteArray) : Lib.byteCells Q ++ Lib.strCells s = Lib.byteCells (Q ++ s.data.toList) := by
  simp [Lib.byteCells, Lib.strCells]
theorem bc_len (Q : List UInt8) : (Lib.byteCells Q).length = Q.length := by simp [Lib.byteCells]
theorem may_kind {v : Wd} (h : mayF v = true) : v.kind = 1 ∨ v.kind = 2 ∨ v.kind = 3 ∨ v.kind = 4 ∨ v.kind = 5 := by
  unfold mayF at h
  by_cases h1 : v.kind = 1; exact .inl h1
  by_cases h2 : v.kind = 2; exact .inr (.inl h2)
  by_cases h3 : v.kind = 3; exact .inr (.inr (.inl h3))
  by_cases h4 : v.kind = 4; exact .inr (.inr (.inr (.inl h4)))
  by_cases h5 : v.kind = 5; exact .inr (.inr (.inr (.inr h5)))
  rw [if_neg h1, if_neg h2, if_neg h3, if_neg h4, if_neg h5] at h
  cases h
theorem may_num4 {v : Wd} (h : mayF v = true) (h4 : v.kind = 4) : 0 ≤ v.num ∧ v.num ≤ 999999999 := by
  unfold mayF at h
  rw [if_neg (by omega), if_neg (by omega), if_neg (by omega), if_pos h4] at h
  simp at h
  exact ⟨h.1.2, h.2⟩
set_option maxRecDepth 100000 in
set_option maxHeartbeats 4000000 in
theorem print_row (g o cap : Nat) (l : List (Int × Wd)) (hl : l.length ≤ 1000000000) (hc : l.length ≤ cap) (hfit : ∀ q ∈ l, fitW q.2) (htot : allMay l = true → (tellL (l.map (·.2))).length ≤ 100000000000) (w : World) (E : Env w) (R : Bru w) (hr : RowW w g o l) :
    Calls Tryz.prog 12 #[.slice (some ⟨g, o, none⟩) l.length cap] w fun e w' => e = .returned (.tuple #[.string ⟨(printF (l.map (·.2))).1.toArray⟩, .int .i64 (printF (l.map (·.2))).2]) ∧ Below w.heap.size w w' := by
  have hcf := cf_any (.slice (some ⟨g, o, none⟩) l.length cap) l hl hfit w (.row hr hc)
  have HC := Lib.hid (And.intro hr (And.intro hfit (And.intro htot (And.intro E R))))
  clear hr hfit htot E R
  go_enter Tryz.func12, Tryz.ntmps12
  go_wp2_with fail
  refine hcf.mono ?_
  rintro e w1 ⟨rfl, hb1⟩
  have H1 := Lib.hid hb1
  clear hcf hb1
  by_cases hall : allMay l = true
  case neg =>
    go_wp2_with fail
    go_ret2
    refine ⟨?_, H1.out⟩
    rw [printF, ← allMay_map, if_neg hall]
    rfl
  have hfresh := Lib.fresh_isBuilder 58 5 w1
  have HA := Lib.hid hall
  have hL1 := H1.out.alloc H1.out.size (.cells #[.pointer none, .slice none 0 0] 58)
  have hlt1 : w1.heap.size < (w1.alloc (.cells #[.pointer none, .slice none 0 0] 58)).heap.size := by simp
  have hw1 := H1.out.size
  go_wp2_with fail
  obtain ⟨b0, hb0⟩ : ∃ b0, w1.heap.size = b0 := ⟨_, rfl⟩
  rw [hb0] at hfresh hlt1 hw1 ⊢
  generalize (w1.alloc (.cells #[.pointer none, .slice none 0 0] 58)) = w2 at hfresh hL1 hlt1 ⊢
  have H2 := Lib.hid (And.intro hfresh hL1)
  clear hfresh hL1 H1 hb0 hall
  go_loopg [11] l.length (fun m v wr => ∃ i : Nat, i ≤ l.length ∧ m = l.length - i ∧ v = .int .i64 i ∧ Lib.IsBuilder 58 5 b0 b0 (Lib.byteCells (tellL ((l.take i).map (·.2)))) wr ∧ Below w.heap.size w wr)
  case atStart => exact ⟨0, by omega, rfl, rfl, H2.out.1, H2.out.2⟩
  case round =>
    obtain ⟨i, hi, hm, rfl, hbu, hbe⟩ := hrel
    have A := Lib.hid (And.intro hm (And.intro hbu hbe))
    clear hm hbu hbe
    by_cases hlt : i < l.length
    · obtain ⟨q, hq⟩ : ∃ q, l[i] = q := ⟨_, rfl⟩
      obtain ⟨p, v⟩ := q
      have hget : l[i]? = some (p, v) := by rw [List.getElem?_eq_getElem hlt, hq]
      obtain ⟨c0, c1, c2, c3, c4, c5, c6, c7⟩ := (HC.out.1.cells i p v hget).below A.out.2.2 HC.out.1.lt
      have HF := Lib.hid (HC.out.2.1 (p, v) (List.mem_of_getElem? hget))
      have HM := Lib.hid (show mayF v = true from List.all_eq_true.1 HA.out (p, v) (List.mem_of_getElem? hget))
      have hlt' : (i : Int) < (l.length : Int) := by omega
      have hi0 : (0 : Int) ≤ (i : Int) := by omega
      have htk : (l.take (i + 1)).map (·.2) = (l.take i).map (·.2) ++ [v] := by
        rw [List.take_succ_eq_append_getElem hlt, hq, List.map_append]; rfl
      have HN := Lib.hid htk
      have hlen : (tellL ((l.take (i + 1)).map (·.2))).length ≤ 100000000000 := by
        have h2 := HC.out.2.2.1 HA.out
        rw [show l.map (·.2) = (l.take (i + 1)).map (·.2) ++ (l.drop (i + 1)).map (·.2) by rw [← List.map_append, List.take_append_drop]] at h2
        exact Nat.le_trans (tellL_pre _ _) h2
      rw [htk, tellL_snoc, List.length_append] at hlen
      clear hq htk
      -- the block of the word
      have hbk0 := Blk.new wr 35 #[.int .i64 v.kind, .int .i64 p, .string ⟨v.text.toArray⟩, .int .u64 (wd v.set 0), .int .u64 (wd v.set 1), .int .u64 (wd v.set 2), .int .u64 (wd v.set 3), .int .i64 v.num]
      have hal0 : Below wr.heap.size wr (wr.alloc (.cells #[.int .i64 v.kind, .int .i64 p, .string ⟨v.text.toArray⟩, .int .u64 (wd v.set 0), .int .u64 (wd v.set 1), .int .u64 (wd v.set 2), .int .u64 (wd v.set 3), .int .i64 v.num] 35)) := (Below.refl _ wr).alloc (Nat.le_refl _) _
      have hbu0 := isb_below A.out.2.1 hal0
      have hbe0 := A.out.2.2.trans (hal0.mono A.out.2.2.size)
      have hb0lt := isb_lt A.out.2.1
      obtain ⟨C, hC⟩ : ∃ C, wr.heap.size = C := ⟨_, rfl⟩
      have hw0 := A.out.2.2.size
      by_cases h0 : i = 0
      · rcases may_kind HM.out with hk | hk | hk | hk | hk
        · have h0' : ¬ (0 : Int) < (i : Int) := by omega
          have HI0 := Lib.hid h0
          clear h0
          have e1 : (v.kind == 4) = false := by rw [hk]; rfl
          have e2 : (v.kind == 2) = false := by rw [hk]; rfl
          have e3 : (v.kind == 3) = false := by rw [hk]; rfl
          have HKD := Lib.hid hk
          clear hk
          go_wp2_with fail
          rw [hC] at hbk0 hb0lt hw0
          generalize (wr.alloc (.cells #[.int .i64 v.kind, .int .i64 p, .string ⟨v.text.toArray⟩, .int .u64 (wd v.set 0), .int .u64 (wd v.set 1), .int .u64 (wd v.set 2), .int .u64 (wd v.set 3), .int .i64 v.num] 35)) = W at hbk0 hbu0 hbe0 hal0 ⊢
          obtain ⟨Q, hQ⟩ : ∃ Q : List UInt8, tellL ((l.take i).map (·.2)) = Q := ⟨_, rfl⟩
          have hQ2 : Q ++ toldF v = tellL ((l.take (i + 1)).map (·.2)) := by
            rw [HN.out, tellL_snoc, hQ, HI0.out]; rfl
          rw [hQ] at hbu0
          have hbu1 : Lib.IsBuilder 58 5 b0 b0 (Lib.byteCells Q) W := hbu0
          have hbk1 := hbk0
          have hbe1 := hbe0
          have hlen1 : Q.length + (toldF v).length ≤ 100000000000 := by
            rw [← List.length_append, hQ2, HN.out, tellL_snoc, List.length_append]; exact hlen
          clear hal0 hbu0 hbk0 hbe0 c0 c1 c2 c3 c4 c5 c6 c7 hlen
          clear hQ
          have HQ := Lib.hid hQ2
          clear hQ2
          obtain ⟨x0, x1, x2, x3, x4, x5, x6, x7, xf⟩ := hbk1.facts8
          have hWlt := hbk1.lt
          have HK := Lib.hid (And.intro hbu1 (And.intro hbk1 hbe1))
          clear hbu1 hbk1 hbe1
          have hk := HKD.out
          have htold : toldF v = v.text := by rw [toldF, if_neg (by omega), if_neg (by omega), if_neg (by omega)]
          rw [htold] at HQ hlen1
          clear hk
          have KB1 := HK.out.1
          have KL := HK.out.2.2
          have KB2 := Nat.le_of_lt (isb_lt KB1)
          refine (writeString2 b0 b0 (Lib.byteCells Q) ⟨(v.text).toArray⟩ _ KB1 (by rw [bc_len, Lib.size_eq]; simp; omega) KB2).mono ?_
          rintro e w9 ⟨rfl, hb9, hl9, hk9⟩
          have hN := HN.out
          have hB9 : Lib.IsBuilder 58 5 b0 b0 (Lib.byteCells (tellL ((l.take (i + 1)).map (·.2)))) w9 := by
            have := hb9
            rw [strCells_byteCells, HQ.out] at this
            exact .inr this
          have hL9 : Below w.heap.size w w9 := KL.trans (hl9.mono hw1)
          have H9 := Lib.hid (And.intro hB9 hL9)
          clear hb9 hl9 hk9 hB9 hL9 hN
          go_wp2_with fail
          go_roundg (l.length - (i + 1))
          case measure => have := A.out.1; omega
          case rel => exact ⟨i + 1, by omega, by omega, rfl, H9.out.1, H9.out.2⟩
  
        · have h0' : ¬ (0 : Int) < (i : Int) := by omega
          have HI0 := Lib.hid h0
          clear h0
          have e1 : (v.kind == 4) = false := by rw [hk]; rfl
          have e2 : (v.kind == 2) = true := by rw [hk]; rfl
          have HKD := Lib.hid hk
          clear hk
          go_wp2_with fail
          rw [hC] at hbk0 hb0lt hw0
          generalize (wr.alloc (.cells #[.int .i64 v.kind, .int .i64 p, .string ⟨v.text.toArray⟩, .int .u64 (wd v.set 0), .int .u64 (wd v.set 1), .int .u64 (wd v.set 2), .int .u64 (wd v.set 3), .int .i64 v.num] 35)) = W at hbk0 hbu0 hbe0 hal0 ⊢
          obtain ⟨Q, hQ⟩ : ∃ Q : List UInt8, tellL ((l.take i).map (·.2)) = Q := ⟨_, rfl⟩
          have hQ2 : Q ++ toldF v = tellL ((l.take (i + 1)).map (·.2)) := by
            rw [HN.out, tellL_snoc, hQ, HI0.out]; rfl
          rw [hQ] at hbu0
          have hbu1 : Lib.IsBuilder 58 5 b0 b0 (Lib.byteCells Q) W := hbu0
          have hbk1 := hbk0
          have hbe1 := hbe0
          have hlen1 : Q.length + (toldF v).length ≤ 100000000000 := by
            rw [← List.length_append, hQ2, HN.out, tellL_snoc, List.length_append]; exact hlen
          clear hal0 hbu0 hbk0 hbe0 c0 c1 c2 c3 c4 c5 c6 c7 hlen
          clear hQ
          have HQ := Lib.hid hQ2
          clear hQ2
          obtain ⟨x0, x1, x2, x3, x4, x5, x6, x7, xf⟩ := hbk1.facts8
          have hWlt := hbk1.lt
          have HK := Lib.hid (And.intro hbu1 (And.intro hbk1 hbe1))
          clear hbu1 hbk1 hbe1
          have hk := HKD.out
          have htold : toldF v = quoteF v.text := by rw [toldF, if_pos hk]
          rw [htold] at HQ hlen1
          clear hk
          refine (quote_any ⟨v.text.toArray⟩ (by rw [Lib.size_eq]; simpa using HF.out.2) _).mono ?_
          rintro e w8 ⟨rfl, hb8⟩
          have KB1 := isb_below HK.out.1 hb8
          have KL := HK.out.2.2.trans (hb8.mono HK.out.2.2.size)
          clear hb8
          go_wp2_with fail
          have KB2 := Nat.le_of_lt (isb_lt KB1)
          refine (writeString2 b0 b0 (Lib.byteCells Q) ⟨(quoteF v.text).toArray⟩ _ KB1 (by rw [bc_len, Lib.size_eq]; simp; omega) KB2).mono ?_
          rintro e w9 ⟨rfl, hb9, hl9, hk9⟩
          have hN := HN.out
          have hB9 : Lib.IsBuilder 58 5 b0 b0 (Lib.byteCells (tellL ((l.take (i + 1)).map (·.2)))) w9 := by
            have := hb9
            rw [strCells_byteCells, HQ.out] at this
            exact .inr this
          have hL9 : Below w.heap.size w w9 := KL.trans (hl9.mono hw1)
          have H9 := Lib.hid (And.intro hB9 hL9)
          clear hb9 hl9 hk9 hB9 hL9 hN
          go_wp2_with fail
          go_roundg (l.length - (i + 1))
          case measure => have := A.out.1; omega
          case rel => exact ⟨i + 1, by omega, by omega, rfl, H9.out.1, H9.out.2⟩
  
        · have h0' : ¬ (0 : Int) < (i : Int) := by omega
          have HI0 := Lib.hid h0
          clear h0
          have e1 : (v.kind == 4) = false := by rw [hk]; rfl
          have e2 : (v.kind == 2) = false := by rw [hk]; rfl
          have e3 : (v.kind == 3) = true := by rw [hk]; rfl
          have HKD := Lib.hid hk
          clear hk
          go_wp2_with fail
          rw [hC] at hbk0 hb0lt hw0
          generalize (wr.alloc (.cells #[.int .i64 v.kind, .int .i64 p, .string ⟨v.text.toArray⟩, .int .u64 (wd v.set 0), .int .u64 (wd v.set 1), .int .u64 (wd v.set 2), .int .u64 (wd v.set 3), .int .i64 v.num] 35)) = W at hbk0 hbu0 hbe0 hal0 ⊢
          obtain ⟨Q, hQ⟩ : ∃ Q : List UInt8, tellL ((l.take i).map (·.2)) = Q := ⟨_, rfl⟩
          have hQ2 : Q ++ toldF v = tellL ((l.take (i + 1)).map (·.2)) := by
            rw [HN.out, tellL_snoc, hQ, HI0.out]; rfl
          rw [hQ] at hbu0
          have hbu1 : Lib.IsBuilder 58 5 b0 b0 (Lib.byteCells Q) W := hbu0
          have hbk1 := hbk0
          have hbe1 := hbe0
          have hlen1 : Q.length + (toldF v).length ≤ 100000000000 := by
            rw [← List.length_append, hQ2, HN.out, tellL_snoc, List.length_append]; exact hlen
          clear hal0 hbu0 hbk0 hbe0 c0 c1 c2 c3 c4 c5 c6 c7 hlen
          clear hQ
          have HQ := Lib.hid hQ2
          clear hQ2
          obtain ⟨x0, x1, x2, x3, x4, x5, x6, x7, xf⟩ := hbk1.facts8
          have hWlt := hbk1.lt
          have HK := Lib.hid (And.intro hbu1 (And.intro hbk1 hbe1))
          clear hbu1 hbk1 hbe1
          have hk := HKD.out
          have htold : toldF v = setText v.set := by rw [toldF, if_neg (by omega), if_pos hk]
          rw [htold] at HQ hlen1
          clear hk
          refine (stext_any v.set HF.out.1 _ (HC.out.2.2.2.2.below HK.out.2.2 (Nat.le_trans (by decide) HC.out.2.2.2.1.big)) (Nat.le_trans (Nat.le_trans (by decide) HC.out.2.2.2.1.big) HK.out.2.2.size)).mono ?_
          rintro e w8 ⟨rfl, hb8⟩
          have KB1 := isb_below HK.out.1 hb8
          have KL := HK.out.2.2.trans (hb8.mono HK.out.2.2.size)
          clear hb8
          go_wp2_with fail
          have KB2 := Nat.le_of_lt (isb_lt KB1)
          refine (writeString2 b0 b0 (Lib.byteCells Q) ⟨(setText v.set).toArray⟩ _ KB1 (by rw [bc_len, Lib.size_eq]; simp; omega) KB2).mono ?_
          rintro e w9 ⟨rfl, hb9, hl9, hk9⟩
          have hN := HN.out
          have hB9 : Lib.IsBuilder 58 5 b0 b0 (Lib.byteCells (tellL ((l.take (i + 1)).map (·.2)))) w9 := by
            have := hb9
            rw [strCells_byteCells, HQ.out] at this
            exact .inr this
          have hL9 : Below w.heap.size w w9 := KL.trans (hl9.mono hw1)
          have H9 := Lib.hid (And.intro hB9 hL9)
          clear hb9 hl9 hk9 hB9 hL9 hN
          go_wp2_with fail
          go_roundg (l.length - (i + 1))
          case measure => have := A.out.1; omega
          case rel => exact ⟨i + 1, by omega, by omega, rfl, H9.out.1, H9.out.2⟩
  
        · have h0' : ¬ (0 : Int) < (i : Int) := by omega
          have HI0 := Lib.hid h0
          clear h0
          have e1 : (v.kind == 4) = true := by rw [hk]; rfl
          have HKD := Lib.hid hk
          clear hk
          go_wp2_with fail
          rw [hC] at hbk0 hb0lt hw0
          generalize (wr.alloc (.cells #[.int .i64 v.kind, .int .i64 p, .string ⟨v.text.toArray⟩, .int .u64 (wd v.set 0), .int .u64 (wd v.set 1), .int .u64 (wd v.set 2), .int .u64 (wd v.set 3), .int .i64 v.num] 35)) = W at hbk0 hbu0 hbe0 hal0 ⊢
          obtain ⟨Q, hQ⟩ : ∃ Q : List UInt8, tellL ((l.take i).map (·.2)) = Q := ⟨_, rfl⟩
          have hQ2 : Q ++ toldF v = tellL ((l.take (i + 1)).map (·.2)) := by
            rw [HN.out, tellL_snoc, hQ, HI0.out]; rfl
          rw [hQ] at hbu0
          have hbu1 : Lib.IsBuilder 58 5 b0 b0 (Lib.byteCells Q) W := hbu0
          have hbk1 := hbk0
          have hbe1 := hbe0
          have hlen1 : Q.length + (toldF v).length ≤ 100000000000 := by
            rw [← List.length_append, hQ2, HN.out, tellL_snoc, List.length_append]; exact hlen
          clear hal0 hbu0 hbk0 hbe0 c0 c1 c2 c3 c4 c5 c6 c7 hlen
          clear hQ
          have HQ := Lib.hid hQ2
          clear hQ2
          obtain ⟨x0, x1, x2, x3, x4, x5, x6, x7, xf⟩ := hbk1.facts8
          have hWlt := hbk1.lt
          have HK := Lib.hid (And.intro hbu1 (And.intro hbk1 hbe1))
          clear hbu1 hbk1 hbe1
          have hk := HKD.out
          have htold : toldF v = Lib.itoa v.num := by rw [toldF, if_neg (by omega), if_neg (by omega), if_pos hk]
          rw [htold] at HQ hlen1
          clear hk
          refine (Tryz.strconv_Itoa v.num (by have := may_num4 HM.out HKD.out; omega) (by have := may_num4 HM.out HKD.out; omega) _ ((HC.out.2.2.2.1.below HK.out.2.2 (Nat.le_trans (by decide) HC.out.2.2.2.1.big)).pow)).mono ?_
          rintro e w8 ⟨rfl, kk, oo, hw8⟩
          have hb8 : Below W.heap.size W w8 := by rw [hw8]; exact Lib.below_grow _ W (Nat.le_refl _) kk oo
          clear hw8
          have KB1 := isb_below HK.out.1 hb8
          have KL := HK.out.2.2.trans (hb8.mono HK.out.2.2.size)
          clear hb8
          go_wp2_with fail
          have KB2 := Nat.le_of_lt (isb_lt KB1)
          refine (writeString2 b0 b0 (Lib.byteCells Q) ⟨(Lib.itoa v.num).toArray⟩ _ KB1 (by rw [bc_len, Lib.size_eq]; simp; omega) KB2).mono ?_
          rintro e w9 ⟨rfl, hb9, hl9, hk9⟩
          have hN := HN.out
          have hB9 : Lib.IsBuilder 58 5 b0 b0 (Lib.byteCells (tellL ((l.take (i + 1)).map (·.2)))) w9 := by
            have := hb9
            rw [strCells_byteCells, HQ.out] at this
            exact .inr this
          have hL9 : Below w.heap.size w w9 := KL.trans (hl9.mono hw1)
          have H9 := Lib.hid (And.intro hB9 hL9)
          clear hb9 hl9 hk9 hB9 hL9 hN
          go_wp2_with fail
          go_roundg (l.length - (i + 1))
          case measure => have := A.out.1; omega
          case rel => exact ⟨i + 1, by omega, by omega, rfl, H9.out.1, H9.out.2⟩
  
        · have h0' : ¬ (0 : Int) < (i : Int) := by omega
          have HI0 := Lib.hid h0
          clear h0
          have e1 : (v.kind == 4) = false := by rw [hk]; rfl
          have e2 : (v.kind == 2) = false := by rw [hk]; rfl
          have e3 : (v.kind == 3) = false := by rw [hk]; rfl
          have HKD := Lib.hid hk
          clear hk
          go_wp2_with fail
          rw [hC] at hbk0 hb0lt hw0
          generalize (wr.alloc (.cells #[.int .i64 v.kind, .int .i64 p, .string ⟨v.text.toArray⟩, .int .u64 (wd v.set 0), .int .u64 (wd v.set 1), .int .u64 (wd v.set 2), .int .u64 (wd v.set 3), .int .i64 v.num] 35)) = W at hbk0 hbu0 hbe0 hal0 ⊢
          obtain ⟨Q, hQ⟩ : ∃ Q : List UInt8, tellL ((l.take i).map (·.2)) = Q := ⟨_, rfl⟩
          have hQ2 : Q ++ toldF v = tellL ((l.take (i + 1)).map (·.2)) := by
            rw [HN.out, tellL_snoc, hQ, HI0.out]; rfl
          rw [hQ] at hbu0
          have hbu1 : Lib.IsBuilder 58 5 b0 b0 (Lib.byteCells Q) W := hbu0
          have hbk1 := hbk0
          have hbe1 := hbe0
          have hlen1 : Q.length + (toldF v).length ≤ 100000000000 := by
            rw [← List.length_append, hQ2, HN.out, tellL_snoc, List.length_append]; exact hlen
          clear hal0 hbu0 hbk0 hbe0 c0 c1 c2 c3 c4 c5 c6 c7 hlen
          clear hQ
          have HQ := Lib.hid hQ2
          clear hQ2
          obtain ⟨x0, x1, x2, x3, x4, x5, x6, x7, xf⟩ := hbk1.facts8
          have hWlt := hbk1.lt
          have HK := Lib.hid (And.intro hbu1 (And.intro hbk1 hbe1))
          clear hbu1 hbk1 hbe1
          have hk := HKD.out
          have htold : toldF v = v.text := by rw [toldF, if_neg (by omega), if_neg (by omega), if_neg (by omega)]
          rw [htold] at HQ hlen1
          clear hk
          have KB1 := HK.out.1
          have KL := HK.out.2.2
          have KB2 := Nat.le_of_lt (isb_lt KB1)
          refine (writeString2 b0 b0 (Lib.byteCells Q) ⟨(v.text).toArray⟩ _ KB1 (by rw [bc_len, Lib.size_eq]; simp; omega) KB2).mono ?_
          rintro e w9 ⟨rfl, hb9, hl9, hk9⟩
          have hN := HN.out
          have hB9 : Lib.IsBuilder 58 5 b0 b0 (Lib.byteCells (tellL ((l.take (i + 1)).map (·.2)))) w9 := by
            have := hb9
            rw [strCells_byteCells, HQ.out] at this
            exact .inr this
          have hL9 : Below w.heap.size w w9 := KL.trans (hl9.mono hw1)
          have H9 := Lib.hid (And.intro hB9 hL9)
          clear hb9 hl9 hk9 hB9 hL9 hN
          go_wp2_with fail
          go_roundg (l.length - (i + 1))
          case measure => have := A.out.1; omega
          case rel => exact ⟨i + 1, by omega, by omega, rfl, H9.out.1, H9.out.2⟩
  
      · have h0' : (0 : Int) < (i : Int) := by omega
        go_wp2_with fail
        rw [hC] at hbk0 hb0lt hw0
        generalize (wr.alloc (.cells #[.int .i64 v.kind, .int .i64 p, .string ⟨v.text.toArray⟩, .int .u64 (wd v.set 0), .int .u64 (wd v.set 1), .int .u64 (wd v.set 2), .int .u64 (wd v.set 3), .int .i64 v.num] 35)) = W at hbk0 hbu0 hbe0 hal0 ⊢
        have hne : (l.take i).map (·.2) ≠ [] := by
          intro e
          have := congrArg List.length e
          rw [List.length_map, List.length_take, Nat.min_eq_left hi] at this
          simp at this
          omega
        rw [if_neg hne] at hlen
        refine (writeByte2 b0 b0 (Lib.byteCells (tellL ((l.take i).map (·.2)))) 32 _ hbu0 (by rw [bc_len]; omega) (by have := isb_lt hbu0; omega)).mono ?_
        rintro e w7 ⟨rfl, hb7, hl7, hk7⟩
        obtain ⟨Q, hQ⟩ : ∃ Q : List UInt8, tellL ((l.take i).map (·.2)) ++ [32] = Q := ⟨_, rfl⟩
        have hQ2 : Q ++ toldF v = tellL ((l.take (i + 1)).map (·.2)) := by
          rw [HN.out, tellL_snoc, if_neg hne, ← hQ]; simp
        have hbu1 : Lib.IsBuilder 58 5 b0 b0 (Lib.byteCells Q) w7 := by
          rw [← hQ]
          have := hb7
          rw [show [Value.int .u8 32] = [.int .u8 ((32 : UInt8).toNat : Int)] from rfl, show Lib.byteCells (tellL ((l.take i).map (·.2))) ++ [.int .u8 ((32 : UInt8).toNat : Int)] = Lib.byteCells (tellL ((l.take i).map (·.2)) ++ [32]) by simp [Lib.byteCells]] at this
          exact .inr this
        have hbk1 := kept_blk hbk0 hk7 (by omega) (by decide)
        have hbe1 := hbe0.trans (hl7.mono hw1)
        have hlen1 : Q.length + (toldF v).length ≤ 100000000000 := by
          rw [← hQ]; simp at hlen ⊢; omega
        clear hal0 hbu0 hbk0 hbe0 c0 c1 c2 c3 c4 c5 c6 c7 hlen h0 hb7 hl7 hk7 hne
        clear hQ
        obtain ⟨W, hW⟩ : ∃ W, w7 = W := ⟨_, rfl⟩
        rw [hW] at hbu1 hbk1 hbe1 ⊢
        clear hW
        have HQ := Lib.hid hQ2
        clear hQ2
        obtain ⟨x0, x1, x2, x3, x4, x5, x6, x7, xf⟩ := hbk1.facts8
        have hWlt := hbk1.lt
        have HK := Lib.hid (And.intro hbu1 (And.intro hbk1 hbe1))
        clear hbu1 hbk1 hbe1
        rcases may_kind HM.out with hk | hk | hk | hk | hk
        · have e1 : (v.kind == 4) = false := by rw [hk]; rfl
          have e2 : (v.kind == 2) = false := by rw [hk]; rfl
          have e3 : (v.kind == 3) = false := by rw [hk]; rfl
          have HKD := Lib.hid hk
          clear hk
          have hk := HKD.out
          have htold : toldF v = v.text := by rw [toldF, if_neg (by omega), if_neg (by omega), if_neg (by omega)]
          rw [htold] at HQ hlen1
          clear hk
          go_wp2_with fail
          have KB1 := HK.out.1
          have KL := HK.out.2.2
          have KB2 := Nat.le_of_lt (isb_lt KB1)
          refine (writeString2 b0 b0 (Lib.byteCells Q) ⟨(v.text).toArray⟩ _ KB1 (by rw [bc_len, Lib.size_eq]; simp; omega) KB2).mono ?_
          rintro e w9 ⟨rfl, hb9, hl9, hk9⟩
          have hN := HN.out
          have hB9 : Lib.IsBuilder 58 5 b0 b0 (Lib.byteCells (tellL ((l.take (i + 1)).map (·.2)))) w9 := by
            have := hb9
            rw [strCells_byteCells, HQ.out] at this
            exact .inr this
          have hL9 : Below w.heap.size w w9 := KL.trans (hl9.mono hw1)
          have H9 := Lib.hid (And.intro hB9 hL9)
          clear hb9 hl9 hk9 hB9 hL9 hN
          go_wp2_with fail
          go_roundg (l.length - (i + 1))
          case measure => have := A.out.1; omega
          case rel => exact ⟨i + 1, by omega, by omega, rfl, H9.out.1, H9.out.2⟩
  
        · have e1 : (v.kind == 4) = false := by rw [hk]; rfl
          have e2 : (v.kind == 2) = true := by rw [hk]; rfl
          have HKD := Lib.hid hk
          clear hk
          have hk := HKD.out
          have htold : toldF v = quoteF v.text := by rw [toldF, if_pos hk]
          rw [htold] at HQ hlen1
          clear hk
          go_wp2_with fail
          refine (quote_any ⟨v.text.toArray⟩ (by rw [Lib.size_eq]; simpa using HF.out.2) _).mono ?_
          rintro e w8 ⟨rfl, hb8⟩
          have KB1 := isb_below HK.out.1 hb8
          have KL := HK.out.2.2.trans (hb8.mono HK.out.2.2.size)
          clear hb8
          go_wp2_with fail
          have KB2 := Nat.le_of_lt (isb_lt KB1)
          refine (writeString2 b0 b0 (Lib.byteCells Q) ⟨(quoteF v.text).toArray⟩ _ KB1 (by rw [bc_len, Lib.size_eq]; simp; omega) KB2).mono ?_
          rintro e w9 ⟨rfl, hb9, hl9, hk9⟩
          have hN := HN.out
          have hB9 : Lib.IsBuilder 58 5 b0 b0 (Lib.byteCells (tellL ((l.take (i + 1)).map (·.2)))) w9 := by
            have := hb9
            rw [strCells_byteCells, HQ.out] at this
            exact .inr this
          have hL9 : Below w.heap.size w w9 := KL.trans (hl9.mono hw1)
          have H9 := Lib.hid (And.intro hB9 hL9)
          clear hb9 hl9 hk9 hB9 hL9 hN
          go_wp2_with fail
          go_roundg (l.length - (i + 1))
          case measure => have := A.out.1; omega
          case rel => exact ⟨i + 1, by omega, by omega, rfl, H9.out.1, H9.out.2⟩
  
        · have e1 : (v.kind == 4) = false := by rw [hk]; rfl
          have e2 : (v.kind == 2) = false := by rw [hk]; rfl
          have e3 : (v.kind == 3) = true := by rw [hk]; rfl
          have HKD := Lib.hid hk
          clear hk
          have hk := HKD.out
          have htold : toldF v = setText v.set := by rw [toldF, if_neg (by omega), if_pos hk]
          rw [htold] at HQ hlen1
          clear hk
          go_wp2_with fail
          refine (stext_any v.set HF.out.1 _ (HC.out.2.2.2.2.below HK.out.2.2 (Nat.le_trans (by decide) HC.out.2.2.2.1.big)) (Nat.le_trans (Nat.le_trans (by decide) HC.out.2.2.2.1.big) HK.out.2.2.size)).mono ?_
          rintro e w8 ⟨rfl, hb8⟩
          have KB1 := isb_below HK.out.1 hb8
          have KL := HK.out.2.2.trans (hb8.mono HK.out.2.2.size)
          clear hb8
          go_wp2_with fail
          have KB2 := Nat.le_of_lt (isb_lt KB1)
          refine (writeString2 b0 b0 (Lib.byteCells Q) ⟨(setText v.set).toArray⟩ _ KB1 (by rw [bc_len, Lib.size_eq]; simp; omega) KB2).mono ?_
          rintro e w9 ⟨rfl, hb9, hl9, hk9⟩
          have hN := HN.out
          have hB9 : Lib.IsBuilder 58 5 b0 b0 (Lib.byteCells (tellL ((l.take (i + 1)).map (·.2)))) w9 := by
            have := hb9
            rw [strCells_byteCells, HQ.out] at this
            exact .inr this
          have hL9 : Below w.heap.size w w9 := KL.trans (hl9.mono hw1)
          have H9 := Lib.hid (And.intro hB9 hL9)
          clear hb9 hl9 hk9 hB9 hL9 hN
          go_wp2_with fail
          go_roundg (l.length - (i + 1))
          case measure => have := A.out.1; omega
          case rel => exact ⟨i + 1, by omega, by omega, rfl, H9.out.1, H9.out.2⟩
  
        · have e1 : (v.kind == 4) = true := by rw [hk]; rfl
          have HKD := Lib.hid hk
          clear hk
          have hk := HKD.out
          have htold : toldF v = Lib.itoa v.num := by rw [toldF, if_neg (by omega), if_neg (by omega), if_pos hk]
          rw [htold] at HQ hlen1
          clear hk
          go_wp2_with fail
          refine (Tryz.strconv_Itoa v.num (by have := may_num4 HM.out HKD.out; omega) (by have := may_num4 HM.out HKD.out; omega) _ ((HC.out.2.2.2.1.below HK.out.2.2 (Nat.le_trans (by decide) HC.out.2.2.2.1.big)).pow)).mono ?_
          rintro e w8 ⟨rfl, kk, oo, hw8⟩
          have hb8 : Below W.heap.size W w8 := by rw [hw8]; exact Lib.below_grow _ W (Nat.le_refl _) kk oo
          clear hw8
          have KB1 := isb_below HK.out.1 hb8
          have KL := HK.out.2.2.trans (hb8.mono HK.out.2.2.size)
          clear hb8
          go_wp2_with fail
          have KB2 := Nat.le_of_lt (isb_lt KB1)
          refine (writeString2 b0 b0 (Lib.byteCells Q) ⟨(Lib.itoa v.num).toArray⟩ _ KB1 (by rw [bc_len, Lib.size_eq]; simp; omega) KB2).mono ?_
          rintro e w9 ⟨rfl, hb9, hl9, hk9⟩
          have hN := HN.out
          have hB9 : Lib.IsBuilder 58 5 b0 b0 (Lib.byteCells (tellL ((l.take (i + 1)).map (·.2)))) w9 := by
            have := hb9
            rw [strCells_byteCells, HQ.out] at this
            exact .inr this
          have hL9 : Below w.heap.size w w9 := KL.trans (hl9.mono hw1)
          have H9 := Lib.hid (And.intro hB9 hL9)
          clear hb9 hl9 hk9 hB9 hL9 hN
          go_wp2_with fail
          go_roundg (l.length - (i + 1))
          case measure => have := A.out.1; omega
          case rel => exact ⟨i + 1, by omega, by omega, rfl, H9.out.1, H9.out.2⟩
  
        · have e1 : (v.kind == 4) = false := by rw [hk]; rfl
          have e2 : (v.kind == 2) = false := by rw [hk]; rfl
          have e3 : (v.kind == 3) = false := by rw [hk]; rfl
          have HKD := Lib.hid hk
          clear hk
          have hk := HKD.out
          have htold : toldF v = v.text := by rw [toldF, if_neg (by omega), if_neg (by omega), if_neg (by omega)]
          rw [htold] at HQ hlen1
          clear hk
          go_wp2_with fail
          have KB1 := HK.out.1
          have KL := HK.out.2.2
          have KB2 := Nat.le_of_lt (isb_lt KB1)
          refine (writeString2 b0 b0 (Lib.byteCells Q) ⟨(v.text).toArray⟩ _ KB1 (by rw [bc_len, Lib.size_eq]; simp; omega) KB2).mono ?_
          rintro e w9 ⟨rfl, hb9, hl9, hk9⟩
          have hN := HN.out
          have hB9 : Lib.IsBuilder 58 5 b0 b0 (Lib.byteCells (tellL ((l.take (i + 1)).map (·.2)))) w9 := by
            have := hb9
            rw [strCells_byteCells, HQ.out] at this
            exact .inr this
          have hL9 : Below w.heap.size w w9 := KL.trans (hl9.mono hw1)
          have H9 := Lib.hid (And.intro hB9 hL9)
          clear hb9 hl9 hk9 hB9 hL9 hN
          go_wp2_with fail
          go_roundg (l.length - (i + 1))
          case measure => have := A.out.1; omega
          case rel => exact ⟨i + 1, by omega, by omega, rfl, H9.out.1, H9.out.2⟩
  
    · obtain rfl : i = l.length := by omega
      have hbu := A.out.2.1
      have hbe := A.out.2.2
      rw [List.take_length] at hbu
      have HZ := Lib.hid (And.intro hbu hbe)
      clear A hbu hbe
      go_wp2_with fail
      refine (Tryz.Builder_Len b0 b0 _ _ HZ.out.1).mono ?_
      rintro e w8 ⟨rfl, rfl⟩
      rw [bc_len]
      by_cases hbig : 1048576 < (tellL (l.map (·.2))).length
      · have hbig' : (1048576 : Int) < ((tellL (l.map (·.2))).length : Int) := by omega
        go_wp2_with fail
        go_ret2
        refine ⟨?_, HZ.out.2⟩
        rw [printF, ← allMay_map, HA.out, if_pos rfl, if_pos hbig]
        rfl
      · have hbig' : ¬ (1048576 : Int) < ((tellL (l.map (·.2))).length : Int) := by omega
        go_wp2_with fail
        refine (Tryz.Builder_String_any b0 b0 _ _ HZ.out.1 (Nat.le_of_lt (isb_lt HZ.out.1))).mono ?_
        rintro e w9 ⟨rfl, hb9⟩
        have H9 := Lib.hid (HZ.out.2.trans (hb9.mono hw1))
        clear hb9
        go_wp2_with fail
        go_ret2
        refine ⟨?_, H9.out⟩
        rw [printF, ← allMay_map, HA.out, if_pos rfl, if_neg hbig]
        rfl
end Go.Proofs.YtacgnbelcpmjfaaGreatDoor.Dx
set_option linter.unusedVariables false
set_option linter.unusedSimpArgs false
namespace Go.Proofs.YtacgnbelcpmjfaaGreatDoor.Dx
open Go.RowKit Go.Proofs Mx Bx
theorem print_nil (w : World) :
    Calls Tryz.prog 12 #[.slice none 0 0] w fun e w' => e = .returned (.tuple #[.string ⟨#[]⟩, .int .i64 0]) ∧ Below w.heap.size w w' := by
  have hcf := cf_any (.slice none 0 0) [] (by decide) (by simp) w .nil
  go_enter Tryz.func12, Tryz.ntmps12
  go_wp2_with fail
  refine hcf.mono ?_
  rintro e w1 ⟨rfl, hb1⟩
  rw [show (!allMay []) = false from rfl]
  have hfresh := Lib.fresh_isBuilder 58 5 w1
  have hL1 := hb1.alloc hb1.size (.cells #[.pointer none, .slice none 0 0] 58)
  have hw1 := hb1.size
  clear hcf hb1
  go_wp2_with fail
  obtain ⟨b0, hb0⟩ : ∃ b0, w1.heap.size = b0 := ⟨_, rfl⟩
  rw [hb0] at hfresh hw1 ⊢
  generalize (w1.alloc (.cells #[.pointer none, .slice none 0 0] 58)) = w2 at hfresh hL1 ⊢
  have H2 := Lib.hid (And.intro hfresh hL1)
  clear hfresh hL1 hb0
  go_loopg [11] 0 (fun m v wr => v = .int .i64 0 ∧ wr = w2)
  case atStart => exact ⟨rfl, rfl⟩
  case round =>
    obtain ⟨rfl, rfl⟩ := hrel
    go_wp2_with fail
    refine (Tryz.Builder_Len b0 b0 _ _ H2.out.1).mono ?_
    rintro e w8 ⟨rfl, rfl⟩
    go_wp2_with fail
    refine (Tryz.Builder_String_any b0 b0 [] _ H2.out.1 (Nat.le_of_lt (isb_lt H2.out.1))).mono ?_
    rintro e w9 ⟨rfl, hb9⟩
    have H9 := Lib.hid (H2.out.2.trans (hb9.mono hw1))
    clear hb9
    go_wp2_with fail
    go_ret2
    exact ⟨rfl, H9.out⟩
theorem print_any (V : Value) (l : List (Int × Wd)) (hl : l.length ≤ 1000000000) (hfit : ∀ q ∈ l, fitW q.2) (htot : allMay l = true → (tellL (l.map (·.2))).length ≤ 100000000000) (w : World) (E : Env w) (R : Bru w) (hV : SliceW w V l) :
    Calls Tryz.prog 12 #[V] w fun e w' => e = .returned (.tuple #[.string ⟨(printF (l.map (·.2))).1.toArray⟩, .int .i64 (printF (l.map (·.2))).2]) ∧ Below w.heap.size w w' := by
  cases hV with
  | nil => exact print_nil w
  | row h hc => exact print_row _ _ _ l hl hc hfit htot w E R h
instance : DecidableEq Wd := fun a b =>
  if h : a.kind = b.kind ∧ a.text = b.text ∧ a.set = b.set ∧ a.num = b.num then
    isTrue (by obtain ⟨a1, a2, a3, a4⟩ := a; obtain ⟨b1, b2, b3, b4⟩ := b; obtain ⟨h1, h2, h3, h4⟩ := h; simp at h1 h2 h3 h4; subst h1; subst h2; subst h3; subst h4; rfl)
  else isFalse (by rintro rfl; exact h ⟨rfl, rfl, rfl, rfl⟩)
theorem sm1_any (p q : Int) (v x : Wd) (hv : v.set < 2 ^ 256) (hx : x.set < 2 ^ 256) (w : World) :
    Calls Tryz.prog 36 #[wdV p v, wdV q x] w fun e w' => e = .returned (.bool (decide (v = x))) ∧ Below w.heap.size w w' := by
  have heq := eql_word
  show Calls Tryz.prog 36 #[.agg #[.int .i64 v.kind, .int .i64 p, .string ⟨v.text.toArray⟩, .int .u64 (wd v.set 0), .int .u64 (wd v.set 1), .int .u64 (wd v.set 2), .int .u64 (wd v.set 3), .int .i64 v.num], .agg #[.int .i64 x.kind, .int .i64 q, .string ⟨x.text.toArray⟩, .int .u64 (wd x.set 0), .int .u64 (wd x.set 1), .int .u64 (wd x.set 2), .int .u64 (wd x.set 3), .int .i64 x.num]] w _
  go_enter Tryz.func36, Tryz.ntmps36
  go_wp2_with fail
  go_ret
  refine ⟨congrArg (fun b => Ending.returned (Value.bool b)) ?_, ?_⟩
  · by_cases h : v = x
    · rw [decide_eq_true h]; exact (eqW_iff 0 0 v x hv hx).2 ⟨rfl, h⟩
    · rw [decide_eq_false h]; exact Bool.eq_false_iff.2 fun e => h ((eqW_iff 0 0 v x hv hx).1 e).2
  · exact ((Below.refl _ _).alloc (Nat.le_refl _) _).alloc (by simp) _
/-- A slice of words, whether it points or not. -/
def OptW (w : World) (a : Option Addr) (l : List (Int × Wd)) : Prop := (a = none → l = []) ∧ ∀ b, a = some b → ∃ g o, b = ⟨g, o, none⟩ ∧ RowW w g o l
theorem SliceW.opt {w : World} {V : Value} {l : List (Int × Wd)} (h : SliceW w V l) : ∃ a cap, V = .slice a l.length cap ∧ OptW w a l := by
  cases h with
  | nil => exact ⟨none, 0, rfl, fun _ => rfl, by intro b h; cases h⟩
  | row h hc => exact ⟨_, _, rfl, (fun e => by cases e), (fun b hb => by cases hb; exact ⟨_, _, rfl, h⟩)⟩
theorem OptW.some {w : World} {a : Option Addr} {l : List (Int × Wd)} (h : OptW w a l) (hl : 0 < l.length) : ∃ g o, a = some ⟨g, o, none⟩ ∧ RowW w g o l := by
  cases a with
  | none => rw [h.1 rfl] at hl; simp at hl
  | some b => obtain ⟨g, o, rfl, hr⟩ := h.2 b rfl; exact ⟨g, o, rfl, hr⟩
set_option maxHeartbeats 1000000 in
theorem eqf_any (a b : Option Addr) (c d : Nat) (l k : List (Int × Wd)) (hl : l.length ≤ 1000000000) (hk : k.length ≤ 1000000000) (hfl : ∀ q ∈ l, q.2.set < 2 ^ 256) (hfk : ∀ q ∈ k, q.2.set < 2 ^ 256) (w : World) (ha : OptW w a l) (hb : OptW w b k) :
    Calls Tryz.prog 35 #[.slice a l.length c, .slice b k.length d, .func (.func 36) #[] #[]] w fun e w' => e = .returned (.bool (decide (l.map (·.2) = k.map (·.2)))) ∧ Below w.heap.size w w' := by
  have HC := Lib.hid (And.intro hfl (And.intro hfk (And.intro ha hb)))
  clear hfl hfk ha hb
  go_enter Tryz.func35, Tryz.ntmps35
  by_cases hlen : l.length = k.length
  case neg =>
    have hlen' : ¬ (l.length : Int) = (k.length : Int) := by omega
    go_wp2_with fail
    go_ret
    refine ⟨congrArg (fun b => Ending.returned (Value.bool b)) ?_, Below.refl _ _⟩
    refine (decide_eq_false fun e => hlen ?_).symm
    simpa using congrArg List.length e
  rw [← hlen]
  have HL := Lib.hid hlen
  clear hlen
  go_wp2_with fail
  go_loopg [17] l.length (fun m v wr => ∃ i : Nat, i ≤ l.length ∧ m = l.length - i ∧ v = .int .i64 i ∧ Below w.heap.size w wr ∧ (l.map (·.2) = k.map (·.2) ↔ (l.drop i).map (·.2) = (k.drop i).map (·.2)))
  case atStart => exact ⟨0, by omega, rfl, rfl, Below.refl _ _, by rw [List.drop_zero, List.drop_zero]⟩
  case round =>
    obtain ⟨i, hi, hm, rfl, hbe, hiff⟩ := hrel
    have A := Lib.hid (And.intro hm (And.intro hbe hiff))
    clear hm hbe hiff
    by_cases hlt : i < l.length
    · obtain ⟨g, o, rfl, hr1⟩ := HC.out.2.2.1.some (by omega)
      obtain ⟨g2, o2, rfl, hr2⟩ := HC.out.2.2.2.some (by have := HL.out; omega)
      obtain ⟨q, hq⟩ : ∃ q, l[i] = q := ⟨_, rfl⟩
      obtain ⟨p, v⟩ := q
      obtain ⟨q2, hq2⟩ : ∃ q, k[i]'(by have := HL.out; omega) = q := ⟨_, rfl⟩
      obtain ⟨p2, x⟩ := q2
      have hget : l[i]? = some (p, v) := by rw [List.getElem?_eq_getElem hlt, hq]
      have hget2 : k[i]? = some (p2, x) := by rw [List.getElem?_eq_getElem (by have := HL.out; omega), hq2]
      have hv := HC.out.1 (p, v) (List.mem_of_getElem? hget)
      have hx := HC.out.2.1 (p2, x) (List.mem_of_getElem? hget2)
      have HD := Lib.hid (show l.drop i = (p, v) :: l.drop (i + 1) by rw [List.drop_eq_getElem_cons hlt, hq])
      have HE := Lib.hid (show k.drop i = (p2, x) :: k.drop (i + 1) by rw [List.drop_eq_getElem_cons (by have := HL.out; omega), hq2])
      have w1 := (hr1.cells i p v hget).below A.out.2.1 hr1.lt
      have hbal : Below w.heap.size w (wr.alloc (.cells #[.int .i64 v.kind, .int .i64 p, .string ⟨v.text.toArray⟩, .int .u64 (wd v.set 0), .int .u64 (wd v.set 1), .int .u64 (wd v.set 2), .int .u64 (wd v.set 3), .int .i64 v.num] 35)) := A.out.2.1.alloc A.out.2.1.size _
      have w2 := (hr2.cells i p2 x hget2).below hbal hr2.lt
      have hbal2 := hbal.alloc (by have := A.out.2.1.size; simp; omega) (.cells #[.int .i64 x.kind, .int .i64 p2, .string ⟨x.text.toArray⟩, .int .u64 (wd x.set 0), .int .u64 (wd x.set 1), .int .u64 (wd x.set 2), .int .u64 (wd x.set 3), .int .i64 x.num] 35)
      have hb1 := (Blk.new wr 35 #[.int .i64 v.kind, .int .i64 p, .string ⟨v.text.toArray⟩, .int .u64 (wd v.set 0), .int .u64 (wd v.set 1), .int .u64 (wd v.set 2), .int .u64 (wd v.set 3), .int .i64 v.num]).alloc (.cells #[.int .i64 x.kind, .int .i64 p2, .string ⟨x.text.toArray⟩, .int .u64 (wd x.set 0), .int .u64 (wd x.set 1), .int .u64 (wd x.set 2), .int .u64 (wd x.set 3), .int .i64 x.num] 35)
      obtain ⟨c0, c1, c2, c3, c4, c5, c6, c7⟩ := w1
      obtain ⟨d0, d1, d2, d3, d4, d5, d6, d7⟩ := w2
      have HB := Lib.hid (And.intro hbal2 (And.intro hv hx))
      have hlt' : (i : Int) < (l.length : Int) := by omega
      have hi0 : (0 : Int) ≤ (i : Int) := by omega
      clear hq hq2 hbal hbal2 hget hget2 hr1 hr2 hv hx
      obtain ⟨b0, b1, b2, b3, b4, b5, b6, b7, bf⟩ := hb1.facts8
      clear hb1
      go_wp2_with fail
      refine (sm1_any p p2 v x HB.out.2.1 HB.out.2.2 _).mono ?_
      rintro e w3 ⟨rfl, hb3⟩
      have H3 := Lib.hid (HB.out.1.trans (hb3.mono (by have := A.out.2.1.size; simp; omega)))
      clear hb3
      by_cases hvx : v = x
      · rw [decide_eq_true hvx]
        have HV := Lib.hid hvx
        clear hvx
        go_wp2_with fail
        go_roundg (l.length - (i + 1))
        case measure => have := A.out.1; omega
        case rel =>
          refine ⟨i + 1, by omega, by omega, rfl, H3.out, ?_⟩
          rw [A.out.2.2, HD.out, HE.out]
          simp [HV.out]
      · rw [decide_eq_false hvx]
        have HV := Lib.hid hvx
        clear hvx
        go_wp2_with fail
        go_ret
        refine ⟨congrArg (fun b => Ending.returned (Value.bool b)) (decide_eq_false fun e => HV.out ?_).symm, H3.out⟩
        have := A.out.2.2.1 e
        rw [HD.out, HE.out] at this
        simp at this
        exact this.1
    · obtain rfl : i = l.length := by omega
      have hbe := A.out.2.1
      have hiff := A.out.2.2
      have HZ := Lib.hid (And.intro hbe hiff)
      clear A hbe hiff
      go_wp2_with fail
      go_ret
      refine ⟨congrArg (fun b => Ending.returned (Value.bool b)) (decide_eq_true ?_).symm, HZ.out.1⟩
      rw [HZ.out.2, List.drop_length, List.drop_eq_nil_of_le (by have := HL.out; omega)]
theorem same_any (V U : Value) (l k : List (Int × Wd)) (hl : l.length ≤ 1000000000) (hk : k.length ≤ 1000000000) (hfl : ∀ q ∈ l, q.2.set < 2 ^ 256) (hfk : ∀ q ∈ k, q.2.set < 2 ^ 256) (w : World) (hV : SliceW w V l) (hU : SliceW w U k) :
    Calls Tryz.prog 14 #[V, U] w fun e w' => e = .returned (.bool (decide (l.map (·.2) = k.map (·.2)))) ∧ Below w.heap.size w w' := by
  obtain ⟨a, c, rfl, ha⟩ := hV.opt
  obtain ⟨b, d, rfl, hb⟩ := hU.opt
  have heq := eqf_any a b c d l k hl hk hfl hfk w ha hb
  go_enter Tryz.func14, Tryz.ntmps14
  go_wp2_with fail
  refine heq.mono ?_
  rintro e w2 ⟨rfl, hb2⟩
  have H2 := Lib.hid hb2
  clear hb2
  go_wp2_with fail
  go_ret
  exact ⟨rfl, H2.out⟩
end Go.Proofs.YtacgnbelcpmjfaaGreatDoor.Dx
set_option linter.unusedVariables false
set_option linter.unusedSimpArgs false
namespace Go.Proofs.YtacgnbelcpmjfaaGreatDoor.Dx
open Go.RowKit Go.Proofs Mx Bx
/-- Words with their places as numbers. -/
def wI (l : List (Nat × Wd)) : List (Int × Wd) := l.map fun q => ((q.1 : Int), q.2)
theorem wI_snd (l : List (Nat × Wd)) : (wI l).map (·.2) = l.map (·.2) := by rw [wI, List.map_map]; rfl
theorem wI_len (l : List (Nat × Wd)) : (wI l).length = l.length := by simp [wI]
theorem wcells_get (l : List (Nat × Wd)) : ∀ (i p : Nat) (v : Wd), l[i]? = some (p, v) → ∀ j u, (wdC (p : Int) v).toList[j]? = some u → (wcells l)[i * 8 + j]? = some u := by
  induction l with
  | nil => intro i p v h; simp at h
  | cons q t ih =>
    obtain ⟨p0, v0⟩ := q
    intro i p v h j u hu
    have hj : j < 8 := by
      have := List.getElem?_eq_some_iff.1 hu
      obtain ⟨h1, _⟩ := this
      simpa [wdC] using h1
    cases i with
    | zero =>
      simp at h
      obtain ⟨rfl, rfl⟩ := h
      rw [wcells, Nat.zero_mul, Nat.zero_add, List.getElem?_append_left (by simp [wdC]; omega)]
      exact hu
    | succ i =>
      simp at h
      have h8 : (wdC (p0 : Int) v0).toList.length = 8 := rfl
      rw [wcells, List.getElem?_append_right (by rw [h8]; omega), h8, show (i + 1) * 8 + j - 8 = i * 8 + j by omega]
      exact ih i p v h j u hu
theorem own_row {w : World} {B g n c : Nat} {o : Nat} {l : List (Nat × Wd)} (h : w.ownsRow B 35 8 (.slice (some ⟨g, o, none⟩) n c) l.length (wcells l)) : o = 0 ∧ n = l.length ∧ B ≤ g ∧ l.length ≤ c ∧ RowW w g 0 (wI l) := by
  obtain ⟨hlen, h2⟩ := h
  rcases h2 with ⟨h0, _⟩ | ⟨g', cap, cur, hv, hg, hh, r⟩
  · cases h0
  · have hown : w.ownsRow B 35 8 (.slice (some ⟨g, o, none⟩) n c) l.length (wcells l) := ⟨hlen, .inr ⟨g', cap, cur, hv, hg, hh, r⟩⟩
    injection hv with e1 e2 e3
    injection e1 with e1
    injection e1 with e4 e5 e6
    subst e4; subst e5; subst e2; subst e3
    refine ⟨rfl, rfl, hg, r.1, (hown.lt g rfl).2, ?_⟩
    intro i p v hi
    rw [wI, List.getElem?_map] at hi
    obtain ⟨⟨p0, v0⟩, h1, h3⟩ := Option.map_eq_some_iff.1 hi
    simp at h3
    obtain ⟨rfl, rfl⟩ := h3
    have hil : i < l.length := (List.getElem?_eq_some_iff.1 h1).1
    have get : ∀ j u, (wdC (p0 : Int) v0).toList[j]? = some u → j < 8 → w.cell? ⟨g, 0 + i * 8 + j, none⟩ = some u := by
      intro j u hu hj
      rw [Nat.zero_add]
      exact (hown.cellAt (i * 8 + j) (by omega)).trans (wcells_get l i p0 v0 h1 j u hu)
    exact ⟨get 0 _ rfl (by decide), get 1 _ rfl (by decide), get 2 _ rfl (by decide), get 3 _ rfl (by decide), get 4 _ rfl (by decide), get 5 _ rfl (by decide), get 6 _ rfl (by decide), get 7 _ rfl (by decide)⟩
theorem own_sliceW {w : World} {B n c : Nat} {a : Option Addr} {l : List (Nat × Wd)} (h : w.ownsRow B 35 8 (.slice a n c) l.length (wcells l)) : n = l.length ∧ SliceW w (.slice a n c) (wI l) := by
  rcases h.2 with ⟨h0, h1⟩ | ⟨g', cap, cur, hv, hg, hh, r⟩
  · injection h0 with e1 e2 e3
    subst e1; subst e2; subst e3
    have : l = [] := List.eq_nil_of_length_eq_zero h1
    subst this
    exact ⟨rfl, .nil⟩
  · injection hv with e1 e2 e3
    subst e1; subst e2; subst e3
    obtain ⟨_, h2, _, h4, h5⟩ := own_row h
    refine ⟨rfl, ?_⟩
    have := SliceW.row h5 (cap := c) (by rw [wI_len]; exact h4)
    rw [wI_len] at this
    exact this
theorem SliceW.below {w w' : World} {V : Value} {l : List (Int × Wd)} (h : SliceW w V l) (hb : Below w.heap.size w w') : SliceW w' V l := by
  cases h with
  | nil => exact .nil
  | row h hc => exact .row (h.below hb h.lt) hc
theorem num_any (n : Int) (w : World) : Calls Tryz.prog 8 #[.int .i64 n] w fun e w' => e = .returned (.int .i64 n) ∧ w' = w := by
  go_enter Tryz.func8, Tryz.ntmps8
  go_wp2_with fail
  go_ret
  exact ⟨rfl, rfl⟩
def wk6 : List (Nat × Wd) := [(0, ⟨1, [97, 49], 0, 0⟩), (2, ⟨5, [61], 0, 0⟩), (3, ⟨2, [120], 0, 0⟩), (6, ⟨3, [], 170141183450565711417404261516691111936, 0⟩), (12, ⟨4, [], 0, 2⟩), (13, ⟨5, [59], 0, 0⟩)]
theorem wk_lex : lexR [97, 49, 61, 34, 120, 34, 91, 92, 93, 45, 126, 93, 50, 59, 47, 47, 120] = (wk6, 0, 0) := by decide +kernel
theorem wk_bad : lexR [98, 32, 34, 97] = ([], 2, 130) := by decide +kernel
theorem wk_print : printF (wk6.map (·.2)) = ([97, 49, 32, 61, 32, 34, 120, 34, 32, 91, 92, 93, 45, 126, 93, 32, 50, 32, 59], 0) := by decide +kernel
theorem wk_name : nameB [97, 49] = true := by decide +kernel
theorem wk_eq : eqW 4 12 ⟨#[]⟩ 0 0 0 0 2 4 12 ⟨#[]⟩ 0 0 0 0 2 = true := by decide +kernel
theorem func_neq (g : Nat) (w : World) : (binOp .neq 37 (.func (.func 21) #[] #[.pointer (some ⟨g, 0, none⟩)]) .nilFunc).run Tryz.prog w = .ok (.bool true) w := by kernel_rfl
theorem func_eql (g : Nat) (w : World) : (binOp .eql 37 (.func (.func 21) #[] #[.pointer (some ⟨g, 0, none⟩)]) .nilFunc).run Tryz.prog w = .ok (.bool false) w := by kernel_rfl
set_option maxRecDepth 100000 in
set_option maxHeartbeats 2000000 in
theorem works_any (w : World) (E : Env w) (R : Bru w) :
    Calls Tryz.prog 5 #[] w fun e w' => e = .returned (.bool true) ∧ Below w.heap.size w w' := by
  have hlex1 := lex_any ⟨#[97, 49, 61, 34, 120, 34, 91, 92, 93, 45, 126, 93, 50, 59, 47, 47, 120]⟩ w E
  rw [wk_lex] at hlex1
  have h10 := E.big
  have HE := Lib.hid (And.intro E R)
  clear E R
  go_enter Tryz.func5, Tryz.ntmps5
  go_wp2_with fail
  refine hlex1.mono ?_
  rintro e w1 ⟨a, n, c, rfl, hown1, hb1⟩
  obtain ⟨rfl, hs1⟩ := own_sliceW hown1
  obtain ⟨g, rfl⟩ : ∃ g, a = some ⟨g, 0, none⟩ := by
    rcases hown1.2 with ⟨_, h0⟩ | ⟨g, cap, cur, hv, _⟩
    · exact absurd h0 (by decide)
    · injection hv with e1 _ _; exact ⟨g, e1⟩
  obtain ⟨_, _, _, _, hrow⟩ := own_row hown1
  have hE1 := HE.out.1.below hb1 (Nat.le_trans (by decide) h10)
  have hR1 := HE.out.2.below hb1 (Nat.le_trans (by decide) h10)
  have hp := print_any (.slice (some ⟨g, 0, none⟩) wk6.length c) (wI wk6) (by decide) (by
    intro q hq
    have : (wI wk6).all (fun q => decide (q.2.set < 2 ^ 256) && decide (q.2.text.length ≤ 400000000)) = true := by decide +kernel
    have := List.all_eq_true.1 this q hq
    simp only [Bool.and_eq_true, decide_eq_true_eq] at this
    exact this) (fun _ => by rw [wI_snd, show tellL (wk6.map (·.2)) = [97, 49, 32, 61, 32, 34, 120, 34, 32, 91, 92, 93, 45, 126, 93, 32, 50, 32, 59] by decide +kernel]; decide) w1 hE1 hR1 hs1
  rw [wI_snd, wk_print] at hp
  have h10' := Nat.le_trans h10 hb1.size
  have H1 := Lib.hid (And.intro hb1 (And.intro hrow (And.intro hE1 hR1)))
  clear hlex1 hown1 hs1 hrow hE1 hR1 hb1
  go_wp2_with fail
  refine hp.mono ?_
  rintro e w2 ⟨rfl, hb2⟩
  have hE2 := H1.out.2.2.1.below hb2 (Nat.le_trans (by decide) h10')
  have hlex2 := lex_any ⟨#[98, 32, 34, 97]⟩ w2 hE2
  rw [wk_bad] at hlex2
  have hr2 := H1.out.2.1.below hb2 H1.out.2.1.lt
  have H2 := Lib.hid (And.intro (H1.out.1.trans (hb2.mono H1.out.1.size)) hr2)
  clear hp hE2 hb2 hr2
  go_wp2_with fail
  refine hlex2.mono ?_
  rintro e w3 ⟨a, n, c3, rfl, hown3, hb3⟩
  have hr3 := H2.out.2.below hb3 H2.out.2.lt
  have hbe3 := H2.out.1.trans (hb3.mono H2.out.1.size)
  have H3 := Lib.hid (And.intro hbe3 hr3)
  clear hlex2 hown3 hb3
  have hc4 : W8 w3 g 32 12 ⟨4, [], 0, 2⟩ := hr3.cells 4 12 ⟨4, [], 0, 2⟩ rfl
  obtain ⟨c0, c1, c2, c3', c4, c5, c6, c7⟩ := hc4
  rw [wd0] at c3' c4 c5 c6
  have heq := eql_word
  have hk := wk_eq
  have hname := name_any ⟨#[97, 49]⟩ (by decide)
  rw [show (⟨#[97, 49]⟩ : ByteArray).data.toList = [97, 49] from rfl, wk_name] at hname
  have hall := all_any ⟨#[]⟩
  clear hr3 hbe3
  rw [show wk6.length = 6 from rfl]
  go_wp2_with fail
  refine (num_any 0 _).mono ?_
  rintro e w4 ⟨rfl, rfl⟩
  go_wp2_with fail
  refine (num_any 0 _).mono ?_
  rintro e w5 ⟨rfl, rfl⟩
  go_wp2_with fail
  refine (num_any 130 _).mono ?_
  rintro e w6 ⟨rfl, rfl⟩
  go_wp2_with fail
  refine (hall _).mono ?_
  rintro e w7 ⟨rfl, rfl⟩
  have hfn := func_neq w6.heap.size (w6.alloc (.cells #[.string ⟨#[]⟩] 9))
  go_wp2_with fail
  refine (hname _).mono ?_
  rintro e w8 ⟨rfl, hb8⟩
  have H8 := Lib.hid ((H3.out.1.alloc H3.out.1.size _).trans (hb8.mono (by have := H3.out.1.size; simp; omega)))
  clear hb8
  go_wp2_with fail
  go_ret
  exact ⟨rfl, H8.out⟩
end Go.Proofs.YtacgnbelcpmjfaaGreatDoor.Dx
