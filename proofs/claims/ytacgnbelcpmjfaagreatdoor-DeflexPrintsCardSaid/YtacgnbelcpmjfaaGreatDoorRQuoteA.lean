/-
  WALKS: rosettaref03's Name, Quote.
  WALKS: rosettaref03's Quote.
-/
import Derived.Test.YtacgnbelcpmjfaaGreatDoorQuoteW
import Derived.Test.YtacgnbelcpmjfaaGreatDoorReader
import Derived.Test.YtacgnbelcpmjfaaGreatDoorLaws
import Derived.RegionTactic
set_option linter.unusedVariables false
set_option linter.unusedSimpArgs false
namespace Go.Proofs.YtacgnbelcpmjfaaGreatDoor.Dx
open Go.RowKit Go.Proofs Mx
theorem get_of_lt (s : ByteArray) (k : Nat) (h : k < s.size) : s.data.toList[k]? = some s[k] := by
  rw [List.getElem?_eq_getElem (by rw [← Lib.size_eq]; exact h)]; rfl
/-- What the document's Name asks of the bytes from a place on. -/
theorem nameB_step (l : List UInt8) : nameB l = ((match l with | [] => true | c :: t => letterB (c.toNat : Int) && t.all wordB) && (decide (0 < l.length) && decide (l.length ≤ 64))) := by
  cases l with
  | nil => simp [nameB]
  | cons c t =>
    simp only [nameB, List.all_cons, wordB, List.length_cons]
    cases letterB (c.toNat : Int) <;> simp
set_option maxRecDepth 100000 in
set_option maxHeartbeats 1000000 in
theorem rname_any (s : ByteArray) (hs : s.size ≤ 400000000) (w : World) :
    Calls Tryz.prog 43 #[.string s] w fun e w' => e = .returned (.bool (nameB s.data.toList)) ∧ w' = w := by
  have hlet := letter_any
  have hdig := digit_any
  go_enter Tryz.func43, Tryz.ntmps43
  go_wp2_with fail
  go_loopg [3] s.size (fun m v wr => ∃ i : Nat, i ≤ s.size ∧ m = s.size - i ∧ v = .int .i64 i ∧ wr = w ∧ (∀ j c, j < i → s.data.toList[j]? = some c → if j = 0 then letterB (c.toNat : Int) = true else wordB c = true))
  case atStart => exact ⟨0, by omega, rfl, rfl, rfl, fun j c hj => absurd hj (by omega)⟩
  case round =>
    obtain ⟨i, hi, hm, rfl, rfl, hall⟩ := hrel
    have A := Lib.hid (And.intro hm hall)
    clear hm hall
    by_cases hlt : i < s.size
    · obtain ⟨c, hc⟩ : ∃ c, s[i] = c := ⟨_, rfl⟩
      have HG := Lib.hid (show s.data.toList[i]? = some c by rw [get_of_lt s i hlt, hc])
      have hlt' : (i : Int) < (s.size : Int) := by omega
      have hi0 : (0 : Int) ≤ (i : Int) := by omega
      by_cases hL : letterB (c.toNat : Int) = true
      · go_wp2_with fail
        refine (hlet _ _).mono ?_
        rintro e w2 ⟨rfl, rfl⟩
        rw [hL]
        go_wp2_with fail
        go_roundg (s.size - (i + 1))
        case measure => have := A.out.1; omega
        case rel =>
          refine ⟨i + 1, by omega, by omega, rfl, rfl, ?_⟩
          intro j d hj hd
          by_cases hji : j = i
          · subst hji
            rw [HG.out] at hd
            cases hd
            split
            · exact hL
            · rw [wordB, hL]; rfl
          · exact A.out.2 j d (by omega) hd
      · have hLf : letterB (c.toNat : Int) = false := by simpa using hL
        by_cases h0 : i = 0
        · subst h0
          go_wp2_with fail
          refine (hlet _ _).mono ?_
          rintro e w2 ⟨rfl, rfl⟩
          rw [hLf]
          go_wp2_with fail
          go_ret
          refine ⟨ret_bool ?_, rfl⟩
          have := HG.out
          cases hl : s.data.toList with
          | nil => rw [hl] at this; cases this
          | cons d t =>
            rw [hl] at this
            simp at this
            subst this
            simp [nameB, hLf]
        · have h0' : ¬ (i : Int) = 0 := by omega
          by_cases hD : digitB (c.toNat : Int) = true
          · go_wp2_with fail
            refine (hlet _ _).mono ?_
            rintro e w2 ⟨rfl, rfl⟩
            rw [hLf]
            go_wp2_with fail
            refine (hdig _ _).mono ?_
            rintro e w2 ⟨rfl, rfl⟩
            rw [hD]
            go_wp2_with fail
            go_roundg (s.size - (i + 1))
            case measure => have := A.out.1; omega
            case rel =>
              refine ⟨i + 1, by omega, by omega, rfl, rfl, ?_⟩
              intro j d hj hd
              by_cases hji : j = i
              · subst hji
                rw [HG.out] at hd
                cases hd
                rw [if_neg h0, wordB, hD, Bool.or_true]
              · exact A.out.2 j d (by omega) hd
          · have hDf : digitB (c.toNat : Int) = false := by simpa using hD
            go_wp2_with fail
            refine (hlet _ _).mono ?_
            rintro e w2 ⟨rfl, rfl⟩
            rw [hLf]
            go_wp2_with fail
            refine (hdig _ _).mono ?_
            rintro e w2 ⟨rfl, rfl⟩
            rw [hDf]
            go_wp2_with fail
            go_ret
            refine ⟨ret_bool ?_, rfl⟩
            have hw : wordB c = false := by rw [wordB, hLf, hDf]; rfl
            have : s.data.toList.all wordB = false := by
              rw [List.all_eq_false]
              exact ⟨c, List.mem_of_getElem? HG.out, by simp [hw]⟩
            unfold nameB
            rw [this]; simp
    · obtain rfl : i = s.size := by omega
      have hsz : s.size = s.data.toList.length := Lib.size_eq s
      have hx := A.out.2
      have hnm : nameB s.data.toList = (decide (0 < s.size) && decide (s.size ≤ 64)) := by
        rw [hsz] at hx ⊢
        cases hl : s.data.toList with
        | nil => rfl
        | cons d t =>
          rw [hl] at hx
          have h0 := hx 0 d (by simp) rfl
          simp at h0
          have ht : (d :: t).all wordB = true := by
            rw [List.all_eq_true]
            intro c hc
            obtain ⟨j, hj, hjc⟩ := List.getElem_of_mem hc
            have := hx j c hj (by rw [List.getElem?_eq_getElem hj, hjc])
            split at this
            · rw [wordB, this]; rfl
            · exact this
          unfold nameB
          rw [ht]
          simp [h0]
      have HN := Lib.hid hnm
      clear hnm hx hsz A
      by_cases h0 : 0 < s.size
      · have h0' : (0 : Int) < (s.size : Int) := by omega
        go_wp2_with fail
        all_goals
          go_ret
          refine ⟨ret_bool ?_, rfl⟩
          rw [HN.out, decide_eq_true h0, Bool.true_and]
          exact decide_eq_decide.2 (by omega)
      · have h0' : ¬ (0 : Int) < (s.size : Int) := by omega
        go_wp2_with fail
        go_ret
        refine ⟨ret_bool ?_, rfl⟩
        rw [HN.out]
        simp [h0]
end Go.Proofs.YtacgnbelcpmjfaaGreatDoor.Dx
set_option linter.unusedVariables false
set_option linter.unusedSimpArgs false
namespace Go.Proofs.YtacgnbelcpmjfaaGreatDoor.Dx
open Go.RowKit Go.Proofs Mx
open Go.Lib (byteCells)
theorem str_app (t : ByteArray) (acc more : List UInt8) (h : t.data.toList = acc) : (t ++ ⟨more.toArray⟩).data.toList = acc ++ more := by
  subst h
  simp
theorem str_sz (t : ByteArray) (l : List UInt8) : (t ++ ⟨l.toArray⟩).size = t.size + l.length := by
  rw [ByteArray.size_append]; rfl
theorem slice_one (s : ByteArray) (k : Nat) (h : k < s.size) : s.extract k (k + 1) = ⟨#[s[k]]⟩ := by
  apply ByteArray.ext
  apply Array.toList_inj.1
  have hl : k < s.data.toList.length := by rw [← Lib.size_eq]; exact h
  simp
  rw [List.drop_eq_getElem_cons hl]
  simp
  rfl
set_option maxRecDepth 100000 in
theorem conv_two (W : World) (g : Nat) (x y : UInt8) (h : Blk W g 5 #[.int .u8 (x.toNat : Int), .int .u8 (y.toNat : Int)]) :
    (convert 56 9 (.slice (some ⟨g, 0, none⟩) 2 2)).run Tryz.prog W = .ok (.string ⟨#[x, y]⟩) W := by
  have ho : W.ownsRow 0 5 1 (.slice (some ⟨g, 0, none⟩) 2 2) [x, y].length (byteCells [x, y]) :=
    ⟨rfl, .inr ⟨g, 2, #[.int .u8 (x.toNat : Int), .int .u8 (y.toNat : Int)], rfl, Nat.zero_le _, h, Nat.le_refl 2, by unfold maxLen; omega, rfl, rfl⟩⟩
  exact conv_own (P := Tryz.prog) (src := 56) (dst := 9) (by rfl) (by rfl) (by rfl) ho
set_option maxRecDepth 100000 in
set_option maxHeartbeats 2000000 in
theorem rquote_any (s : ByteArray) (hs : s.size ≤ 400000000) (w : World) :
    Calls Tryz.prog 55 #[.string s] w fun e w' => e = .returned (.string ⟨(quoteF s.data.toList).toArray⟩) ∧ Below w.heap.size w w' := by
  go_enter Tryz.func55, Tryz.ntmps55
  go_wp2_with fail
  go_loopg [4, 5] s.size (fun m vo v wr => ∃ (i : Nat) (t : ByteArray), i ≤ s.size ∧ m = s.size - i ∧ v = .int .i64 i ∧ vo = .string t ∧ t.data.toList = 34 :: (s.data.toList.take i).flatMap quoteB ∧ t.size ≤ 1 + 4 * i ∧ Below w.heap.size w wr)
  case atStart => exact ⟨0, ⟨#[34]⟩, by omega, rfl, rfl, rfl, rfl, by decide, Below.refl _ _⟩
  case round =>
    obtain ⟨i, t, hi, hm, rfl, rfl, hacc, hsz, hbe⟩ := hrel
    have A := Lib.hid (And.intro hm (And.intro hacc hbe))
    clear hm hacc hbe
    by_cases hlt : i < s.size
    · obtain ⟨c, hc⟩ : ∃ c, s[i] = c := ⟨_, rfl⟩
      have HN := Lib.hid (show (s.data.toList.take (i + 1)).flatMap quoteB = (s.data.toList.take i).flatMap quoteB ++ quoteB c by rw [quote_next s i hlt, hc])
      have hso := slice_one s i hlt
      rw [hc] at hso
      have hlt' : (i : Int) < (s.size : Int) := by omega
      have hi0 : (0 : Int) ≤ (i : Int) := by omega
      have hi1 : (i : Int) + 1 ≤ (s.size : Int) := by omega
      have hc255 := c.toNat_lt
      by_cases h10 : c = 10
      · subst h10
        have HB := Lib.hid (show quoteB 10 = [92, 110] by rfl)
        go_wp2_with fail
        go_roundg (s.size - (i + 1))
        case measure => have := A.out.1; omega
        case rel =>
          have hb := HB.out
          have hn := HN.out
          rw [hb] at hn
          have hx : (t ++ ⟨#[92, 110]⟩).data.toList = 34 :: (s.data.toList.take (i + 1)).flatMap quoteB := by
            rw [hn, show t ++ ⟨#[92, 110]⟩ = t ++ ⟨([92, 110] : List UInt8).toArray⟩ from rfl, str_app t _ _ rfl, A.out.2.1]; simp
          exact ⟨i + 1, _, by omega, by omega, rfl, rfl, hx, by rw [show t ++ ⟨#[92, 110]⟩ = t ++ ⟨([92, 110] : List UInt8).toArray⟩ from rfl, str_sz]; simp only [List.length_cons, List.length_nil]; omega, A.out.2.2⟩
      have n10 : ((c.toNat : Int) == 10) = false := beq_false_of_ne fun e => h10 (UInt8.toNat_inj.1 (by show c.toNat = 10; omega))
      by_cases h9 : c = 9
      · subst h9
        have HB := Lib.hid (show quoteB 9 = [92, 116] by rfl)
        go_wp2_with fail
        go_roundg (s.size - (i + 1))
        case measure => have := A.out.1; omega
        case rel =>
          have hb := HB.out
          have hn := HN.out
          rw [hb] at hn
          have hx : (t ++ ⟨#[92, 116]⟩).data.toList = 34 :: (s.data.toList.take (i + 1)).flatMap quoteB := by
            rw [hn, show t ++ ⟨#[92, 116]⟩ = t ++ ⟨([92, 116] : List UInt8).toArray⟩ from rfl, str_app t _ _ rfl, A.out.2.1]; simp
          exact ⟨i + 1, _, by omega, by omega, rfl, rfl, hx, by rw [show t ++ ⟨#[92, 116]⟩ = t ++ ⟨([92, 116] : List UInt8).toArray⟩ from rfl, str_sz]; simp only [List.length_cons, List.length_nil]; omega, A.out.2.2⟩
      have n9 : ((c.toNat : Int) == 9) = false := beq_false_of_ne fun e => h9 (UInt8.toNat_inj.1 (by show c.toNat = 9; omega))
      by_cases h13 : c = 13
      · subst h13
        have HB := Lib.hid (show quoteB 13 = [92, 114] by rfl)
        go_wp2_with fail
        go_roundg (s.size - (i + 1))
        case measure => have := A.out.1; omega
        case rel =>
          have hb := HB.out
          have hn := HN.out
          rw [hb] at hn
          have hx : (t ++ ⟨#[92, 114]⟩).data.toList = 34 :: (s.data.toList.take (i + 1)).flatMap quoteB := by
            rw [hn, show t ++ ⟨#[92, 114]⟩ = t ++ ⟨([92, 114] : List UInt8).toArray⟩ from rfl, str_app t _ _ rfl, A.out.2.1]; simp
          exact ⟨i + 1, _, by omega, by omega, rfl, rfl, hx, by rw [show t ++ ⟨#[92, 114]⟩ = t ++ ⟨([92, 114] : List UInt8).toArray⟩ from rfl, str_sz]; simp only [List.length_cons, List.length_nil]; omega, A.out.2.2⟩
      have n13 : ((c.toNat : Int) == 13) = false := beq_false_of_ne fun e => h13 (UInt8.toNat_inj.1 (by show c.toNat = 13; omega))
      by_cases h34 : c = 34
      · subst h34
        have HB := Lib.hid (show quoteB 34 = [92, 34] by rfl)
        go_wp2_with fail
        go_roundg (s.size - (i + 1))
        case measure => have := A.out.1; omega
        case rel =>
          have hb := HB.out
          have hn := HN.out
          rw [hb] at hn
          have hx : ((t ++ ⟨#[92]⟩) ++ ⟨#[34]⟩).data.toList = 34 :: (s.data.toList.take (i + 1)).flatMap quoteB := by
            rw [hn, show (t ++ ⟨#[92]⟩) ++ ⟨#[34]⟩ = (t ++ ⟨([92] : List UInt8).toArray⟩) ++ ⟨([34] : List UInt8).toArray⟩ from rfl, str_app _ _ _ (str_app t _ _ rfl), A.out.2.1]; simp
          exact ⟨i + 1, _, by omega, by omega, rfl, rfl, hx, by rw [show (t ++ ⟨#[92]⟩) ++ ⟨#[34]⟩ = (t ++ ⟨([92] : List UInt8).toArray⟩) ++ ⟨([34] : List UInt8).toArray⟩ from rfl, str_sz, str_sz]; simp only [List.length_cons, List.length_nil]; omega, A.out.2.2⟩
      have n34 : ((c.toNat : Int) == 34) = false := beq_false_of_ne fun e => h34 (UInt8.toNat_inj.1 (by show c.toNat = 34; omega))
      by_cases h92 : c = 92
      · subst h92
        have HB := Lib.hid (show quoteB 92 = [92, 92] by rfl)
        go_wp2_with fail
        go_roundg (s.size - (i + 1))
        case measure => have := A.out.1; omega
        case rel =>
          have hb := HB.out
          have hn := HN.out
          rw [hb] at hn
          have hx : ((t ++ ⟨#[92]⟩) ++ ⟨#[92]⟩).data.toList = 34 :: (s.data.toList.take (i + 1)).flatMap quoteB := by
            rw [hn, show (t ++ ⟨#[92]⟩) ++ ⟨#[92]⟩ = (t ++ ⟨([92] : List UInt8).toArray⟩) ++ ⟨([92] : List UInt8).toArray⟩ from rfl, str_app _ _ _ (str_app t _ _ rfl), A.out.2.1]; simp
          exact ⟨i + 1, _, by omega, by omega, rfl, rfl, hx, by rw [show (t ++ ⟨#[92]⟩) ++ ⟨#[92]⟩ = (t ++ ⟨([92] : List UInt8).toArray⟩) ++ ⟨([92] : List UInt8).toArray⟩ from rfl, str_sz, str_sz]; simp only [List.length_cons, List.length_nil]; omega, A.out.2.2⟩
      have n92 : ((c.toNat : Int) == 92) = false := beq_false_of_ne fun e => h92 (UInt8.toNat_inj.1 (by show c.toNat = 92; omega))
      by_cases hp : 32 ≤ c.toNat ∧ c.toNat < 127
      · have HB := Lib.hid (show quoteB c = [c] by
          unfold quoteB
          rw [if_neg h10, if_neg h9, if_neg h13, if_neg h34, if_neg h92, if_neg (by omega)])
        have p1 : (32 : Int) ≤ (c.toNat : Int) := by omega
        have p2 : (c.toNat : Int) < 127 := by omega
        go_wp2_with fail
        go_roundg (s.size - (i + 1))
        case measure => have := A.out.1; omega
        case rel =>
          have hb := HB.out
          have hn := HN.out
          rw [hb] at hn
          have hx : (t ++ ⟨#[c]⟩).data.toList = 34 :: (s.data.toList.take (i + 1)).flatMap quoteB := by
            rw [hn, show t ++ ⟨#[c]⟩ = t ++ ⟨([c] : List UInt8).toArray⟩ from rfl, str_app t _ _ rfl, A.out.2.1]; simp
          exact ⟨i + 1, _, by omega, by omega, rfl, rfl, hx, by rw [show t ++ ⟨#[c]⟩ = t ++ ⟨([c] : List UInt8).toArray⟩ from rfl, str_sz]; simp only [List.length_cons, List.length_nil]; omega, A.out.2.2⟩
      · have HB := Lib.hid (show quoteB c = [92, 120, hexd (c.toNat / 16), hexd (c.toNat % 16)] by
          unfold quoteB
          rw [if_neg h10, if_neg h9, if_neg h13, if_neg h34, if_neg h92, if_pos (by omega)])
        have hpp : (¬ (32 : Int) ≤ (c.toNat : Int)) ∨ ((32 : Int) ≤ (c.toNat : Int) ∧ ¬ (c.toNat : Int) < 127) := by omega
        obtain ⟨hq0, hq1, hq2⟩ := hexx c
        have hq3 := hexx1 c
        have hq4 := hexx2 c
        have hq5 := hexx3 c
        clear h10 h9 h13 h34 h92 hp
        rcases hpp with p1 | ⟨p1, p2⟩
        all_goals
          have hz1 : ¬ 9223372036854775807 < t.size + 2 := by omega
          have hz2 : ¬ 9223372036854775807 < t.size + 2 + 2 := by omega
          go_wp2_with fail
          have hcv := fun n => conv_two _ wr.heap.size (hexd (c.toNat / 16)) (hexd (c.toNat % 16)) ((Blk.new wr 5 #[.int .u8 ((hexd (c.toNat / 16)).toNat : Int), .int .u8 ((hexd (c.toNat % 16)).toNat : Int)]).drewN n)
          have hcv0 := hcv 0
          have hcv1 := hcv 1
          rw [show ∀ W : World, W.drewN 0 = W from fun _ => rfl] at hcv0
          rw [show ∀ W : World, W.drewN 1 = W.drew from fun _ => rfl] at hcv1
          go_region
          all_goals
            go_wp2_with fail
            go_roundg (s.size - (i + 1))
            case measure => have := A.out.1; omega
            case rel =>
              have hb := HB.out
              have hn := HN.out
              rw [hb] at hn
              have hx : (t ++ ⟨#[92, 120]⟩ ++ ⟨#[hexd (c.toNat / 16), hexd (c.toNat % 16)]⟩).data.toList = 34 :: (s.data.toList.take (i + 1)).flatMap quoteB := by
                rw [hn, show t ++ ⟨#[92, 120]⟩ ++ ⟨#[hexd (c.toNat / 16), hexd (c.toNat % 16)]⟩ = (t ++ ⟨([92, 120] : List UInt8).toArray⟩) ++ ⟨([hexd (c.toNat / 16), hexd (c.toNat % 16)] : List UInt8).toArray⟩ from rfl, str_app _ _ _ (str_app t _ _ rfl), A.out.2.1]; simp
              exact ⟨i + 1, _, by omega, by omega, rfl, rfl, hx, by rw [show t ++ ⟨#[92, 120]⟩ ++ ⟨#[hexd (c.toNat / 16), hexd (c.toNat % 16)]⟩ = (t ++ ⟨([92, 120] : List UInt8).toArray⟩) ++ ⟨([hexd (c.toNat / 16), hexd (c.toNat % 16)] : List UInt8).toArray⟩ from rfl, str_sz, str_sz]; simp only [List.length_cons, List.length_nil]; omega, (A.out.2.2.alloc A.out.2.2.size _).drew⟩
    · obtain rfl : i = s.size := by omega
      go_wp2_with fail
      go_ret
      refine ⟨ret_str ?_, A.out.2.2⟩
      apply ByteArray.ext
      apply Array.toList_inj.1
      have := str_app t _ [34] A.out.2.1
      rw [show t ++ ⟨#[34]⟩ = t ++ ⟨([34] : List UInt8).toArray⟩ from rfl, this, List.take_of_length_le (by rw [← Lib.size_eq]; exact Nat.le_refl _)]
      rfl
end Go.Proofs.YtacgnbelcpmjfaaGreatDoor.Dx
