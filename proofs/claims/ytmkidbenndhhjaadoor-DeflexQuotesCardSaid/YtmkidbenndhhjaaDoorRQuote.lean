/-
  WALKS: rosettaref03's Name, Quote.
-/
import Derived.Test.YtmkidbenndhhjaaDoorQuoteW
import Derived.Test.YtmkidbenndhhjaaDoorName
import Derived.Test.YtmkidbenndhhjaaDoorTold
set_option linter.unusedVariables false
set_option linter.unusedSimpArgs false
namespace Go.Proofs.YtmkidbenndhhjaaDoor.Dx
open Go.RowKit Go.Proofs Mx
theorem get_of_lt (s : ByteArray) (k : Nat) (h : k < s.size) : s.data.toList[k]? = some s[k] := by
  rw [List.getElem?_eq_getElem (by rw [← Lib.size_eq]; exact h)]; rfl
/-- What the document's Name asks of the bytes from a place on. -/
theorem nameB_step (l : List UInt8) : nameB l = ((match l with | [] => true | c :: t => letterB (c.toNat : Int) && t.all wordB) && (decide (0 < l.length) && decide (l.length ≤ 64))) := by
  cases l with
  | nil => simp [nameB]
  | cons c t =>
    simp only [nameB, List.all_cons, wordB, List.length_cons]
    cases letterB (c.toNat : Int) <;> simp
set_option maxRecDepth 100000 in
set_option maxHeartbeats 1000000 in
theorem rname_any (s : ByteArray) (hs : s.size ≤ 400000000) (w : World) :
    Calls Tryd.prog 22 #[.string s] w fun e w' => e = .returned (.bool (nameB s.data.toList)) ∧ w' = w := by
  have hlet := letter_any
  have hdig := digit_any
  go_enter Tryd.func22, Tryd.ntmps22
  go_wp2_with fail
  go_loopg [3] s.size (fun m v wr => ∃ i : Nat, i ≤ s.size ∧ m = s.size - i ∧ v = .int .i64 i ∧ wr = w ∧ (∀ j c, j < i → s.data.toList[j]? = some c → if j = 0 then letterB (c.toNat : Int) = true else wordB c = true))
  case atStart => exact ⟨0, by omega, rfl, rfl, rfl, fun j c hj => absurd hj (by omega)⟩
  case round =>
    obtain ⟨i, hi, hm, rfl, rfl, hall⟩ := hrel
    have A := Lib.hid (And.intro hm hall)
    clear hm hall
    by_cases hlt : i < s.size
    · obtain ⟨c, hc⟩ : ∃ c, s[i] = c := ⟨_, rfl⟩
      have HG := Lib.hid (show s.data.toList[i]? = some c by rw [get_of_lt s i hlt, hc])
      have hlt' : (i : Int) < (s.size : Int) := by omega
      have hi0 : (0 : Int) ≤ (i : Int) := by omega
      by_cases hL : letterB (c.toNat : Int) = true
      · go_wp2_with fail
        refine (hlet _ _).mono ?_
        rintro e w2 ⟨rfl, rfl⟩
        rw [hL]
        go_wp2_with fail
        go_roundg (s.size - (i + 1))
        case measure => have := A.out.1; omega
        case rel =>
          refine ⟨i + 1, by omega, by omega, rfl, rfl, ?_⟩
          intro j d hj hd
          by_cases hji : j = i
          · subst hji
            rw [HG.out] at hd
            cases hd
            split
            · exact hL
            · rw [wordB, hL]; rfl
          · exact A.out.2 j d (by omega) hd
      · have hLf : letterB (c.toNat : Int) = false := by simpa using hL
        by_cases h0 : i = 0
        · subst h0
          go_wp2_with fail
          refine (hlet _ _).mono ?_
          rintro e w2 ⟨rfl, rfl⟩
          rw [hLf]
          go_wp2_with fail
          go_ret
          refine ⟨ret_bool ?_, rfl⟩
          have := HG.out
          cases hl : s.data.toList with
          | nil => rw [hl] at this; cases this
          | cons d t =>
            rw [hl] at this
            simp at this
            subst this
            simp [nameB, hLf]
        · have h0' : ¬ (i : Int) = 0 := by omega
          by_cases hD : digitB (c.toNat : Int) = true
          · go_wp2_with fail
            refine (hlet _ _).mono ?_
            rintro e w2 ⟨rfl, rfl⟩
            rw [hLf]
            go_wp2_with fail
            refine (hdig _ _).mono ?_
            rintro e w2 ⟨rfl, rfl⟩
            rw [hD]
            go_wp2_with fail
            go_roundg (s.size - (i + 1))
            case measure => have := A.out.1; omega
            case rel =>
              refine ⟨i + 1, by omega, by omega, rfl, rfl, ?_⟩
              intro j d hj hd
              by_cases hji : j = i
              · subst hji
                rw [HG.out] at hd
                cases hd
                rw [if_neg h0, wordB, hD, Bool.or_true]
              · exact A.out.2 j d (by omega) hd
          · have hDf : digitB (c.toNat : Int) = false := by simpa using hD
            go_wp2_with fail
            refine (hlet _ _).mono ?_
            rintro e w2 ⟨rfl, rfl⟩
            rw [hLf]
            go_wp2_with fail
            refine (hdig _ _).mono ?_
            rintro e w2 ⟨rfl, rfl⟩
            rw [hDf]
            go_wp2_with fail
            go_ret
            refine ⟨ret_bool ?_, rfl⟩
            have hw : wordB c = false := by rw [wordB, hLf, hDf]; rfl
            have : s.data.toList.all wordB = false := by
              rw [List.all_eq_false]
              exact ⟨c, List.mem_of_getElem? HG.out, by simp [hw]⟩
            unfold nameB
            rw [this]; simp
    · obtain rfl : i = s.size := by omega
      have hsz : s.size = s.data.toList.length := Lib.size_eq s
      have hx := A.out.2
      have hnm : nameB s.data.toList = (decide (0 < s.size) && decide (s.size ≤ 64)) := by
        rw [hsz] at hx ⊢
        cases hl : s.data.toList with
        | nil => rfl
        | cons d t =>
          rw [hl] at hx
          have h0 := hx 0 d (by simp) rfl
          simp at h0
          have ht : (d :: t).all wordB = true := by
            rw [List.all_eq_true]
            intro c hc
            obtain ⟨j, hj, hjc⟩ := List.getElem_of_mem hc
            have := hx j c hj (by rw [List.getElem?_eq_getElem hj, hjc])
            split at this
            · rw [wordB, this]; rfl
            · exact this
          unfold nameB
          rw [ht]
          simp [h0]
      have HN := Lib.hid hnm
      clear hnm hx hsz A
      by_cases h0 : 0 < s.size
      · have h0' : (0 : Int) < (s.size : Int) := by omega
        go_wp2_with fail
        all_goals
          go_ret
          refine ⟨ret_bool ?_, rfl⟩
          rw [HN.out, decide_eq_true h0, Bool.true_and]
          exact decide_eq_decide.2 (by omega)
      · have h0' : ¬ (0 : Int) < (s.size : Int) := by omega
        go_wp2_with fail
        go_ret
        refine ⟨ret_bool ?_, rfl⟩
        rw [HN.out]
        simp [h0]
end Go.Proofs.YtmkidbenndhhjaaDoor.Dx
