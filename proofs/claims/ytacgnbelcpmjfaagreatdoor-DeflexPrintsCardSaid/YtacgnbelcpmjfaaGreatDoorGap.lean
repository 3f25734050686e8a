/-
  WALKS of the reader: gap.
-/
import Derived.Test.YtacgnbelcpmjfaaGreatDoorRun
import Derived.Lib.IndexBytes
set_option linter.unusedVariables false
set_option linter.unusedSimpArgs false
namespace Go.Proofs.YtacgnbelcpmjfaaGreatDoor.Dx
open Go.RowKit Go.Proofs Mx

def blankL : List UInt8 := [32, 9, 10, 13]
def blankB (b : UInt8) : Bool := blankL.contains b
/-- How many bytes of blanks and comments stand ahead (true: within a comment). -/
def skM : Bool → List UInt8 → Nat
  | _, [] => 0
  | true, c :: t => if c = 10 then skM false t + 1 else skM true t + 1
  | false, c :: t => if blankB c then skM false t + 1 else if c = 47 ∧ t.head? = some 47 then skM true t + 1 else 0
theorem blank_index (b : UInt8) : (0 ≤ Lib.indexByte blankL b) ↔ blankB b = true :=
  all_bytes (p := fun b => (0 ≤ Lib.indexByte blankL b) ↔ blankB b = true) (by decide +kernel) b
def sk (s : ByteArray) (i : Nat) : Nat := skM false (s.data.toList.drop i)
theorem drop_cons (s : ByteArray) (i : Nat) (h : i < s.size) : s.data.toList.drop i = s[i] :: s.data.toList.drop (i + 1) := by
  have hl : i < s.data.toList.length := by rw [Array.length_toList]; exact h
  rw [List.drop_eq_getElem_cons hl]
  have e : s.data.toList[i] = s[i] := by rw [Array.getElem_toList]; rfl
  rw [e]
theorem drop_all (s : ByteArray) (i : Nat) (h : s.size ≤ i) : s.data.toList.drop i = [] :=
  List.drop_eq_nil_of_le (by rw [Array.length_toList]; exact h)
theorem sk_end (s : ByteArray) : sk s s.size = 0 := by rw [sk, drop_all s _ (Nat.le_refl _)]; rfl
theorem sk_blank (s : ByteArray) (i : Nat) (h : i < s.size) (hb : blankB s[i] = true) : sk s i = sk s (i + 1) + 1 := by
  rw [sk, drop_cons s i h, skM, if_pos hb]; rfl
/-- Where the line ends. -/
def nl (t : List UInt8) : Nat := if Lib.indexByte t 10 < 0 then t.length else (Lib.indexByte t 10).toNat
theorem nl_nil : nl [] = 0 := by decide
theorem nl_ten (t : List UInt8) : nl (10 :: t) = 0 := by simp [nl, Lib.indexByte]
theorem nl_cons (c : UInt8) (t : List UInt8) (hc : c ≠ 10) : nl (c :: t) = nl t + 1 := by
  have hge := Lib.indexByte_ge t 10
  have e : Lib.indexByte (c :: t) 10 = if Lib.indexByte t 10 == -1 then -1 else Lib.indexByte t 10 + 1 := by
    rw [Lib.indexByte]; simp [hc]
  rw [nl, nl, e]
  by_cases hm : Lib.indexByte t 10 = -1
  · rw [hm]; simp
  · have hb : (Lib.indexByte t 10 == -1) = false := by simpa using hm
    rw [hb]
    have h1 : ¬ Lib.indexByte t 10 + 1 < 0 := by omega
    have h2 : ¬ Lib.indexByte t 10 < 0 := by omega
    simp only [Bool.false_eq_true, if_false, if_neg h1, if_neg h2]
    omega
theorem nl_le (t : List UInt8) : nl t ≤ t.length := by
  induction t with
  | nil => exact Nat.le_refl _
  | cons c t ih =>
    by_cases hc : c = 10
    · subst hc; rw [nl_ten]; exact Nat.zero_le _
    · rw [nl_cons c t hc]; simp; exact ih
theorem skM_comment (t : List UInt8) : skM true t = nl t + skM false (t.drop (nl t)) := by
  induction t with
  | nil => rfl
  | cons c t ih =>
    by_cases hc : c = 10
    · subst hc
      rw [nl_ten, skM, if_pos rfl]
      simp [skM, blankB, blankL]
    · rw [nl_cons c t hc, skM, if_neg hc, ih]
      simp
      omega
theorem sk_comment (s : ByteArray) (i : Nat) (h : i < s.size) (hp : Lib.hasPrefix (s.data.toList.drop i) [47, 47] = true) :
    1 ≤ nl (s.data.toList.drop i) ∧ i + nl (s.data.toList.drop i) ≤ s.size ∧ sk s i = nl (s.data.toList.drop i) + sk s (i + nl (s.data.toList.drop i)) := by
  have hl : (s.data.toList.drop i).length = s.size - i := by rw [List.length_drop, Array.length_toList]; rfl
  have hn := nl_le (s.data.toList.drop i)
  have hd : ∀ m, s.data.toList.drop (i + m) = (s.data.toList.drop i).drop m := fun m => by rw [List.drop_drop]
  simp only [sk, hd]
  obtain ⟨l, hll⟩ : ∃ l, s.data.toList.drop i = l := ⟨_, rfl⟩
  rw [hll] at hp hl hn ⊢
  obtain ⟨u, rfl⟩ : ∃ u, l = 47 :: 47 :: u := by
    have := List.isPrefixOf_iff_prefix.1 hp
    obtain ⟨u, hu⟩ := this
    exact ⟨u, hu.symm⟩
  have e : nl (47 :: 47 :: u) = nl (47 :: u) + 1 := nl_cons _ _ (by decide)
  refine ⟨by omega, by omega, ?_⟩
  have hs0 : skM false (47 :: 47 :: u) = skM true (47 :: u) + 1 := by
    have hb : ¬ blankB 47 = true := by decide
    show (if blankB 47 = true then _ else if (47 : UInt8) = 47 ∧ (47 :: u).head? = some 47 then skM true (47 :: u) + 1 else 0) = _
    rw [if_neg hb, if_pos ⟨rfl, rfl⟩]
  rw [hs0, skM_comment, e]
  simp
  omega
theorem sk_none (s : ByteArray) (i : Nat) (h : i < s.size) (hb : blankB s[i] = false) (hp : Lib.hasPrefix (s.data.toList.drop i) [47, 47] = false) : sk s i = 0 := by
  rw [sk, drop_cons s i h, skM, if_neg (by simp [hb])]
  rw [drop_cons s i h] at hp
  refine if_neg ?_
  rintro ⟨h1, h2⟩
  rw [h1] at hp
  cases hd : s.data.toList.drop (i + 1) with
  | nil => rw [hd] at h2; simp at h2
  | cons c u =>
    rw [hd] at h2 hp
    simp at h2
    subst h2
    simp [Lib.hasPrefix] at hp
theorem sk_le (s : ByteArray) (i : Nat) (h : i ≤ s.size) : i + sk s i ≤ s.size := by
  have : ∀ (l : List UInt8) (m : Bool), skM m l ≤ l.length := by
    intro l
    induction l with
    | nil => intro m; cases m <;> exact Nat.le_refl _
    | cons c t ih =>
      intro m
      have h1 := ih true
      have h2 := ih false
      cases m <;> simp only [skM, List.length_cons] <;> (repeat' split) <;> omega
  have := this (s.data.toList.drop i) false
  rw [List.length_drop, Array.length_toList] at this
  have e : s.data.size = s.size := rfl
  rw [sk]; omega

set_option maxRecDepth 100000 in
set_option maxHeartbeats 1000000 in
theorem gap_any (g : Nat) (s : ByteArray) (k : Nat) (w : World) (hs : s.size ≤ 4000000000) (hk : k ≤ s.size) (hR : Rd w g s k) :
    Calls Tryz.prog 57 #[.pointer (some ⟨g, 0, none⟩)] w fun e w' => e = .returned (.tuple #[]) ∧ Rd w' g s (k + sk s k) ∧ w.grownBy w' (some g) := by
  go_enter Tryz.func57, Tryz.ntmps57
  go_wp2
  go_loopg [] (s.size - k) (fun m wr => ∃ i, i ≤ s.size ∧ m = s.size - i ∧ k ≤ i ∧ k + sk s k = i + sk s i ∧ Rd wr g s i ∧ w.grownBy wr (some g))
  case atStart => exact ⟨k, hk, rfl, Nat.le_refl _, rfl, hR, grown_refl _ _⟩
  case round =>
    obtain ⟨i, hi, hm, hki, htw, hRi, hg⟩ := hrel
    have A := Lib.hid (And.intro hm (And.intro htw hg))
    clear hm htw hg hR
    obtain ⟨c0, c1, cf⟩ := hRi.facts2
    by_cases hlt : i < s.size
    · obtain ⟨R, hRe⟩ : ∃ R, s.extract i s.size = R := ⟨_, rfl⟩
      have hRd : R.data.toList = s.data.toList.drop i := by rw [← hRe]; exact Lib.extract_to_end s i
      have hRs : R.size = s.size - i := by rw [← hRe]; simp
      have hR0 : R.data.toList = s[i] :: s.data.toList.drop (i + 1) := by rw [hRd]; exact drop_cons s i hlt
      obtain ⟨b, hb⟩ : ∃ b, s[i] = b := ⟨_, rfl⟩
      rw [hb] at hR0
      have hRg : (0 : Nat) < R.size := by omega
      have hRb : R[0] = b := by
        have : R.data.toList[0]? = some b := by rw [hR0]; rfl
        simpa [ByteArray.getElem_eq_getElem_data, hRg] using this
      have HRD := Lib.hid hRd
      have hi0 : (0 : Int) ≤ (i : Int) := by omega
      have his : (i : Int) < (s.size : Int) := by omega
      have his' : (i : Int) ≤ (s.size : Int) := by omega
      have HB := Lib.hid hb
      clear hRd hR0 hb
      have hbn : (b.toNat : Int).toNat.toUInt8 = b := by simp
      by_cases hbl : blankB b = true
      · have hix : 0 ≤ Lib.indexByte [32, 9, 10, 13] b := (blank_index b).2 hbl
        have HBL := Lib.hid hbl
        clear hbl
        go_wp2_with fail
        go_quiet (fail)
        go_wp2_with fail
        go_quiet (fail)
        go_wp2_with fail
        refine (Tryz.strings_IndexByte _ _ _).mono ?_
        rintro e w2 ⟨rfl, rfl⟩
        rw [hbn]
        go_wp2
        go_roundg (s.size - (i + 1))
        case measure => have := A.out.1; omega
        case rel =>
          have hsk := sk_blank s i hlt (by rw [HB.out]; exact HBL.out)
          exact ⟨i + 1, by omega, rfl, by omega, by have := A.out.2.1; omega, Rd.at_ (hRi.drewN _) (by omega), grown_set (grown_drewN A.out.2.2 _) rfl _⟩
      have hix : Lib.indexByte [32, 9, 10, 13] b < 0 := by
        have := fun h => hbl ((blank_index b).1 h)
        have h2 : ¬ 0 ≤ Lib.indexByte [32, 9, 10, 13] b := this
        omega
      have HBL := Lib.hid (show blankB b = false by simpa using hbl)
      clear hbl
      cases hpf : Lib.hasPrefix (s.data.toList.drop i) [47, 47] with
      | false =>
        have HPF := Lib.hid hpf
        clear hpf
        go_wp2_with fail
        go_quiet (fail)
        go_wp2_with fail
        go_quiet (fail)
        go_wp2_with fail
        refine (Tryz.strings_IndexByte _ _ _).mono ?_
        rintro e w2 ⟨rfl, rfl⟩
        rw [hbn]
        go_wp2_with fail
        refine (Tryz.strings_HasPrefix _ _ _).mono ?_
        rintro e w3 ⟨rfl, rfl⟩
        rw [HRD.out, HPF.out]
        go_wp2
        refine bodyPost_ret (results_none rfl _ _ _) rfl ?_
        have hsk := sk_none s i hlt (by rw [HB.out]; exact HBL.out) HPF.out
        have e2 : k + sk s k = i := by have := A.out.2.1; omega
        rw [e2]
        exact ⟨rfl, hRi.drewN _, grown_drewN A.out.2.2 _⟩
      | true =>
        obtain ⟨hn1, hn2, hn3⟩ := sk_comment s i hlt hpf
        have HPF := Lib.hid (And.intro hpf hn3)
        obtain ⟨n, hn⟩ : ∃ n, nl (s.data.toList.drop i) = n := ⟨_, rfl⟩
        rw [hn] at hn1 hn2 HPF
        have hlen : (s.data.toList.drop i).length = s.size - i := by rw [List.length_drop, Array.length_toList]; rfl
        have HN := Lib.hid hn
        clear hpf hn3 hn
        by_cases hneg : Lib.indexByte (s.data.toList.drop i) 10 < 0
        · have hnn : n = s.size - i := by have := HN.out; rw [nl, if_pos hneg, hlen] at this; exact this.symm
          have HNN := Lib.hid hnn
          clear hnn hlen
          go_wp2_with fail
          go_quiet (fail)
          go_wp2_with fail
          go_quiet (fail)
          go_wp2_with fail
          refine (Tryz.strings_IndexByte _ _ _).mono ?_
          rintro e w2 ⟨rfl, rfl⟩
          rw [hbn]
          go_wp2_with fail
          refine (Tryz.strings_HasPrefix _ _ _).mono ?_
          rintro e w3 ⟨rfl, rfl⟩
          rw [HRD.out, HPF.out.1]
          go_wp2_with fail
          refine (Tryz.strings_IndexByte _ _ _).mono ?_
          rintro e w4 ⟨rfl, rfl⟩
          rw [HRD.out, show (10 : Int).toNat.toUInt8 = (10 : UInt8) from rfl]
          go_wp2
          go_roundg (s.size - (i + n))
          case measure => have := A.out.1; omega
          case rel =>
            exact ⟨i + n, by omega, rfl, by omega, by have := A.out.2.1; have := HPF.out.2; omega, Rd.at_ (hRi.drewN _) (by have := HNN.out; omega), grown_set (grown_drewN A.out.2.2 _) rfl _⟩
        · have hnn : (n : Int) = Lib.indexByte (s.data.toList.drop i) 10 := by have := HN.out; rw [nl, if_neg hneg] at this; omega
          obtain ⟨q, hq⟩ : ∃ q, Lib.indexByte (s.data.toList.drop i) 10 = q := ⟨_, rfl⟩
          have hq0 : 0 ≤ q := by omega
          have hqs : (i : Int) + q ≤ (s.size : Int) := by omega
          have HQ := Lib.hid hq
          have HNN := Lib.hid hnn
          clear hnn hlen hneg hq
          go_wp2_with fail
          go_quiet (fail)
          go_wp2_with fail
          go_quiet (fail)
          go_wp2_with fail
          refine (Tryz.strings_IndexByte _ _ _).mono ?_
          rintro e w2 ⟨rfl, rfl⟩
          rw [hbn]
          go_wp2_with fail
          refine (Tryz.strings_HasPrefix _ _ _).mono ?_
          rintro e w3 ⟨rfl, rfl⟩
          rw [HRD.out, HPF.out.1]
          go_wp2_with fail
          refine (Tryz.strings_IndexByte _ _ _).mono ?_
          rintro e w4 ⟨rfl, rfl⟩
          rw [HRD.out, show (10 : Int).toNat.toUInt8 = (10 : UInt8) from rfl, HQ.out]
          go_wp2
          go_roundg (s.size - (i + n))
          case measure => have := A.out.1; omega
          case rel =>
            exact ⟨i + n, by omega, rfl, by omega, by have := A.out.2.1; have := HPF.out.2; omega, Rd.at_ (hRi.drewN _) (by have := HNN.out; have := HQ.out; omega), grown_set (grown_drewN A.out.2.2 _) rfl _⟩
    · obtain rfl : i = s.size := by omega
      have hd : decide ((s.size : Int) < (s.size : Int)) = false := by simp
      go_wp2_with fail
      go_quiet (fail)
      go_wp2
      go_end0
      have e2 : k + sk s k = s.size := by have := A.out.2.1; rw [sk_end] at this; omega
      rw [e2]
      exact ⟨rfl, hRi.drewN _, grown_drewN A.out.2.2 _⟩
end Go.Proofs.YtacgnbelcpmjfaaGreatDoor.Dx
