/-
  WALKS: rosettaref03's Quote.
-/
import Derived.Test.YtmkidbenndhhjaaDoorQuoteW
import Derived.RegionTactic
set_option linter.unusedVariables false
set_option linter.unusedSimpArgs false
namespace Go.Proofs.YtmkidbenndhhjaaDoor.Dx
open Go.RowKit Go.Proofs Mx
open Go.Lib (byteCells)
theorem str_app (t : ByteArray) (acc more : List UInt8) (h : t.data.toList = acc) : (t ++ ⟨more.toArray⟩).data.toList = acc ++ more := by
  subst h
  simp
theorem str_sz (t : ByteArray) (l : List UInt8) : (t ++ ⟨l.toArray⟩).size = t.size + l.length := by
  rw [ByteArray.size_append]; rfl
theorem slice_one (s : ByteArray) (k : Nat) (h : k < s.size) : s.extract k (k + 1) = ⟨#[s[k]]⟩ := by
  apply ByteArray.ext
  apply Array.toList_inj.1
  have hl : k < s.data.toList.length := by rw [← Lib.size_eq]; exact h
  simp
  rw [List.drop_eq_getElem_cons hl]
  simp
  rfl
set_option maxRecDepth 100000 in
theorem conv_two (W : World) (g : Nat) (x y : UInt8) (h : Blk W g 5 #[.int .u8 (x.toNat : Int), .int .u8 (y.toNat : Int)]) :
    (convert 35 9 (.slice (some ⟨g, 0, none⟩) 2 2)).run Tryd.prog W = .ok (.string ⟨#[x, y]⟩) W := by
  have ho : W.ownsRow 0 5 1 (.slice (some ⟨g, 0, none⟩) 2 2) [x, y].length (byteCells [x, y]) :=
    ⟨rfl, .inr ⟨g, 2, #[.int .u8 (x.toNat : Int), .int .u8 (y.toNat : Int)], rfl, Nat.zero_le _, h, Nat.le_refl 2, by unfold maxLen; omega, rfl, rfl⟩⟩
  exact conv_own (P := Tryd.prog) (src := 35) (dst := 9) (by rfl) (by rfl) (by rfl) ho
set_option maxRecDepth 100000 in
set_option maxHeartbeats 2000000 in
theorem rquote_any (s : ByteArray) (hs : s.size ≤ 400000000) (w : World) :
    Calls Tryd.prog 20 #[.string s] w fun e w' => e = .returned (.string ⟨(quoteF s.data.toList).toArray⟩) ∧ Below w.heap.size w w' := by
  go_enter Tryd.func20, Tryd.ntmps20
  go_wp2_with fail
  go_loopg [4, 5] s.size (fun m vo v wr => ∃ (i : Nat) (t : ByteArray), i ≤ s.size ∧ m = s.size - i ∧ v = .int .i64 i ∧ vo = .string t ∧ t.data.toList = 34 :: (s.data.toList.take i).flatMap quoteB ∧ t.size ≤ 1 + 4 * i ∧ Below w.heap.size w wr)
  case atStart => exact ⟨0, ⟨#[34]⟩, by omega, rfl, rfl, rfl, rfl, by decide, Below.refl _ _⟩
  case round =>
    obtain ⟨i, t, hi, hm, rfl, rfl, hacc, hsz, hbe⟩ := hrel
    have A := Lib.hid (And.intro hm (And.intro hacc hbe))
    clear hm hacc hbe
    by_cases hlt : i < s.size
    · obtain ⟨c, hc⟩ : ∃ c, s[i] = c := ⟨_, rfl⟩
      have HN := Lib.hid (show (s.data.toList.take (i + 1)).flatMap quoteB = (s.data.toList.take i).flatMap quoteB ++ quoteB c by rw [quote_next s i hlt, hc])
      have hso := slice_one s i hlt
      rw [hc] at hso
      have hlt' : (i : Int) < (s.size : Int) := by omega
      have hi0 : (0 : Int) ≤ (i : Int) := by omega
      have hi1 : (i : Int) + 1 ≤ (s.size : Int) := by omega
      have hc255 := c.toNat_lt
      by_cases h10 : c = 10
      · subst h10
        have HB := Lib.hid (show quoteB 10 = [92, 110] by rfl)
        go_wp2_with fail
        go_roundg (s.size - (i + 1))
        case measure => have := A.out.1; omega
        case rel =>
          have hb := HB.out
          have hn := HN.out
          rw [hb] at hn
          have hx : (t ++ ⟨#[92, 110]⟩).data.toList = 34 :: (s.data.toList.take (i + 1)).flatMap quoteB := by
            rw [hn, show t ++ ⟨#[92, 110]⟩ = t ++ ⟨([92, 110] : List UInt8).toArray⟩ from rfl, str_app t _ _ rfl, A.out.2.1]; simp
          exact ⟨i + 1, _, by omega, by omega, rfl, rfl, hx, by rw [show t ++ ⟨#[92, 110]⟩ = t ++ ⟨([92, 110] : List UInt8).toArray⟩ from rfl, str_sz]; simp only [List.length_cons, List.length_nil]; omega, A.out.2.2⟩
      have n10 : ((c.toNat : Int) == 10) = false := beq_false_of_ne fun e => h10 (UInt8.toNat_inj.1 (by show c.toNat = 10; omega))
      by_cases h9 : c = 9
      · subst h9
        have HB := Lib.hid (show quoteB 9 = [92, 116] by rfl)
        go_wp2_with fail
        go_roundg (s.size - (i + 1))
        case measure => have := A.out.1; omega
        case rel =>
          have hb := HB.out
          have hn := HN.out
          rw [hb] at hn
          have hx : (t ++ ⟨#[92, 116]⟩).data.toList = 34 :: (s.data.toList.take (i + 1)).flatMap quoteB := by
            rw [hn, show t ++ ⟨#[92, 116]⟩ = t ++ ⟨([92, 116] : List UInt8).toArray⟩ from rfl, str_app t _ _ rfl, A.out.2.1]; simp
          exact ⟨i + 1, _, by omega, by omega, rfl, rfl, hx, by rw [show t ++ ⟨#[92, 116]⟩ = t ++ ⟨([92, 116] : List UInt8).toArray⟩ from rfl, str_sz]; simp only [List.length_cons, List.length_nil]; omega, A.out.2.2⟩
      have n9 : ((c.toNat : Int) == 9) = false := beq_false_of_ne fun e => h9 (UInt8.toNat_inj.1 (by show c.toNat = 9; omega))
      by_cases h13 : c = 13
      · subst h13
        have HB := Lib.hid (show quoteB 13 = [92, 114] by rfl)
        go_wp2_with fail
        go_roundg (s.size - (i + 1))
        case measure => have := A.out.1; omega
        case rel =>
          have hb := HB.out
          have hn := HN.out
          rw [hb] at hn
          have hx : (t ++ ⟨#[92, 114]⟩).data.toList = 34 :: (s.data.toList.take (i + 1)).flatMap quoteB := by
            rw [hn, show t ++ ⟨#[92, 114]⟩ = t ++ ⟨([92, 114] : List UInt8).toArray⟩ from rfl, str_app t _ _ rfl, A.out.2.1]; simp
          exact ⟨i + 1, _, by omega, by omega, rfl, rfl, hx, by rw [show t ++ ⟨#[92, 114]⟩ = t ++ ⟨([92, 114] : List UInt8).toArray⟩ from rfl, str_sz]; simp only [List.length_cons, List.length_nil]; omega, A.out.2.2⟩
      have n13 : ((c.toNat : Int) == 13) = false := beq_false_of_ne fun e => h13 (UInt8.toNat_inj.1 (by show c.toNat = 13; omega))
      by_cases h34 : c = 34
      · subst h34
        have HB := Lib.hid (show quoteB 34 = [92, 34] by rfl)
        go_wp2_with fail
        go_roundg (s.size - (i + 1))
        case measure => have := A.out.1; omega
        case rel =>
          have hb := HB.out
          have hn := HN.out
          rw [hb] at hn
          have hx : ((t ++ ⟨#[92]⟩) ++ ⟨#[34]⟩).data.toList = 34 :: (s.data.toList.take (i + 1)).flatMap quoteB := by
            rw [hn, show (t ++ ⟨#[92]⟩) ++ ⟨#[34]⟩ = (t ++ ⟨([92] : List UInt8).toArray⟩) ++ ⟨([34] : List UInt8).toArray⟩ from rfl, str_app _ _ _ (str_app t _ _ rfl), A.out.2.1]; simp
          exact ⟨i + 1, _, by omega, by omega, rfl, rfl, hx, by rw [show (t ++ ⟨#[92]⟩) ++ ⟨#[34]⟩ = (t ++ ⟨([92] : List UInt8).toArray⟩) ++ ⟨([34] : List UInt8).toArray⟩ from rfl, str_sz, str_sz]; simp only [List.length_cons, List.length_nil]; omega, A.out.2.2⟩
      have n34 : ((c.toNat : Int) == 34) = false := beq_false_of_ne fun e => h34 (UInt8.toNat_inj.1 (by show c.toNat = 34; omega))
      by_cases h92 : c = 92
      · subst h92
        have HB := Lib.hid (show quoteB 92 = [92, 92] by rfl)
        go_wp2_with fail
        go_roundg (s.size - (i + 1))
        case measure => have := A.out.1; omega
        case rel =>
          have hb := HB.out
          have hn := HN.out
          rw [hb] at hn
          have hx : ((t ++ ⟨#[92]⟩) ++ ⟨#[92]⟩).data.toList = 34 :: (s.data.toList.take (i + 1)).flatMap quoteB := by
            rw [hn, show (t ++ ⟨#[92]⟩) ++ ⟨#[92]⟩ = (t ++ ⟨([92] : List UInt8).toArray⟩) ++ ⟨([92] : List UInt8).toArray⟩ from rfl, str_app _ _ _ (str_app t _ _ rfl), A.out.2.1]; simp
          exact ⟨i + 1, _, by omega, by omega, rfl, rfl, hx, by rw [show (t ++ ⟨#[92]⟩) ++ ⟨#[92]⟩ = (t ++ ⟨([92] : List UInt8).toArray⟩) ++ ⟨([92] : List UInt8).toArray⟩ from rfl, str_sz, str_sz]; simp only [List.length_cons, List.length_nil]; omega, A.out.2.2⟩
      have n92 : ((c.toNat : Int) == 92) = false := beq_false_of_ne fun e => h92 (UInt8.toNat_inj.1 (by show c.toNat = 92; omega))
      by_cases hp : 32 ≤ c.toNat ∧ c.toNat < 127
      · have HB := Lib.hid (show quoteB c = [c] by
          unfold quoteB
          rw [if_neg h10, if_neg h9, if_neg h13, if_neg h34, if_neg h92, if_neg (by omega)])
        have p1 : (32 : Int) ≤ (c.toNat : Int) := by omega
        have p2 : (c.toNat : Int) < 127 := by omega
        go_wp2_with fail
        go_roundg (s.size - (i + 1))
        case measure => have := A.out.1; omega
        case rel =>
          have hb := HB.out
          have hn := HN.out
          rw [hb] at hn
          have hx : (t ++ ⟨#[c]⟩).data.toList = 34 :: (s.data.toList.take (i + 1)).flatMap quoteB := by
            rw [hn, show t ++ ⟨#[c]⟩ = t ++ ⟨([c] : List UInt8).toArray⟩ from rfl, str_app t _ _ rfl, A.out.2.1]; simp
          exact ⟨i + 1, _, by omega, by omega, rfl, rfl, hx, by rw [show t ++ ⟨#[c]⟩ = t ++ ⟨([c] : List UInt8).toArray⟩ from rfl, str_sz]; simp only [List.length_cons, List.length_nil]; omega, A.out.2.2⟩
      · have HB := Lib.hid (show quoteB c = [92, 120, hexd (c.toNat / 16), hexd (c.toNat % 16)] by
          unfold quoteB
          rw [if_neg h10, if_neg h9, if_neg h13, if_neg h34, if_neg h92, if_pos (by omega)])
        have hpp : (¬ (32 : Int) ≤ (c.toNat : Int)) ∨ ((32 : Int) ≤ (c.toNat : Int) ∧ ¬ (c.toNat : Int) < 127) := by omega
        obtain ⟨hq0, hq1, hq2⟩ := hexx c
        have hq3 := hexx1 c
        have hq4 := hexx2 c
        have hq5 := hexx3 c
        clear h10 h9 h13 h34 h92 hp
        rcases hpp with p1 | ⟨p1, p2⟩
        all_goals
          have hz1 : ¬ 9223372036854775807 < t.size + 2 := by omega
          have hz2 : ¬ 9223372036854775807 < t.size + 2 + 2 := by omega
          go_wp2_with fail
          have hcv := fun n => conv_two _ wr.heap.size (hexd (c.toNat / 16)) (hexd (c.toNat % 16)) ((Blk.new wr 5 #[.int .u8 ((hexd (c.toNat / 16)).toNat : Int), .int .u8 ((hexd (c.toNat % 16)).toNat : Int)]).drewN n)
          have hcv0 := hcv 0
          have hcv1 := hcv 1
          rw [show ∀ W : World, W.drewN 0 = W from fun _ => rfl] at hcv0
          rw [show ∀ W : World, W.drewN 1 = W.drew from fun _ => rfl] at hcv1
          go_region
          all_goals
            go_wp2_with fail
            go_roundg (s.size - (i + 1))
            case measure => have := A.out.1; omega
            case rel =>
              have hb := HB.out
              have hn := HN.out
              rw [hb] at hn
              have hx : (t ++ ⟨#[92, 120]⟩ ++ ⟨#[hexd (c.toNat / 16), hexd (c.toNat % 16)]⟩).data.toList = 34 :: (s.data.toList.take (i + 1)).flatMap quoteB := by
                rw [hn, show t ++ ⟨#[92, 120]⟩ ++ ⟨#[hexd (c.toNat / 16), hexd (c.toNat % 16)]⟩ = (t ++ ⟨([92, 120] : List UInt8).toArray⟩) ++ ⟨([hexd (c.toNat / 16), hexd (c.toNat % 16)] : List UInt8).toArray⟩ from rfl, str_app _ _ _ (str_app t _ _ rfl), A.out.2.1]; simp
              exact ⟨i + 1, _, by omega, by omega, rfl, rfl, hx, by rw [show t ++ ⟨#[92, 120]⟩ ++ ⟨#[hexd (c.toNat / 16), hexd (c.toNat % 16)]⟩ = (t ++ ⟨([92, 120] : List UInt8).toArray⟩) ++ ⟨([hexd (c.toNat / 16), hexd (c.toNat % 16)] : List UInt8).toArray⟩ from rfl, str_sz, str_sz]; simp only [List.length_cons, List.length_nil]; omega, (A.out.2.2.alloc A.out.2.2.size _).drew⟩
    · obtain rfl : i = s.size := by omega
      go_wp2_with fail
      go_ret
      refine ⟨ret_str ?_, A.out.2.2⟩
      apply ByteArray.ext
      apply Array.toList_inj.1
      have := str_app t _ [34] A.out.2.1
      rw [show t ++ ⟨#[34]⟩ = t ++ ⟨([34] : List UInt8).toArray⟩ from rfl, this, List.take_of_length_le (by rw [← Lib.size_eq]; exact Nat.le_refl _)]
      rfl
end Go.Proofs.YtmkidbenndhhjaaDoor.Dx
