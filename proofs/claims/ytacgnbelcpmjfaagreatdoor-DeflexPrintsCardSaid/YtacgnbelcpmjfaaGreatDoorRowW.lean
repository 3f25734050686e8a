/-
  WALKS: may: what it says of a word.
  WALKS: rows of words, read; slices.ContainsFunc over may.
-/
import Derived.Test.YtacgnbelcpmjfaaGreatDoorMayA
import Derived.Test.YtacgnbelcpmjfaaGreatDoorQuoteW
set_option linter.unusedVariables false
set_option linter.unusedSimpArgs false
namespace Go.Proofs.YtacgnbelcpmjfaaGreatDoor.Dx
open Go.RowKit Go.Proofs Mx
theorem eqW_bool (p : Int) (v x : Wd) (hv : v.set < 2 ^ 256) (hx : x.set < 2 ^ 256) (b : Bool) (h : v = x ↔ b = true) :
    eqW v.kind p ⟨v.text.toArray⟩ (wd v.set 0) (wd v.set 1) (wd v.set 2) (wd v.set 3) v.num x.kind p ⟨x.text.toArray⟩ (wd x.set 0) (wd x.set 1) (wd x.set 2) (wd x.set 3) x.num = b := by
  have := eqW_iff p p v x hv hx
  rw [Bool.eq_iff_iff, this, ← h]
  exact ⟨fun h => h.2, fun h => ⟨rfl, h⟩⟩
theorem wd0 (j : Nat) : wd 0 j = 0 := by unfold wd; simp
theorem eqW_bool0 (p : Int) (v : Wd) (k n : Int) (t : List UInt8) (hv : v.set < 2 ^ 256) (b : Bool) (h : v = ⟨k, t, 0, n⟩ ↔ b = true) :
    eqW v.kind p ⟨v.text.toArray⟩ (wd v.set 0) (wd v.set 1) (wd v.set 2) (wd v.set 3) v.num k p ⟨t.toArray⟩ 0 0 0 0 n = b := by
  have := eqW_bool p v ⟨k, t, 0, n⟩ hv (Nat.pos_of_ne_zero (by decide)) b h
  simpa only [wd0] using this
theorem may_any (p : Int) (v : Wd) (hset : v.set < 2 ^ 256) (ht : v.text.length ≤ 400000000) (w : World) :
    Calls Tryz.prog 25 #[wdV p v] w fun e w' => e = .returned (.bool (mayF v)) ∧ Below w.heap.size w w' := by
  have hz : (0 : Nat) < 2 ^ 256 := Nat.pos_of_ne_zero (by decide)
  have hsz : (⟨v.text.toArray⟩ : ByteArray).size ≤ 400000000 := by rw [Lib.size_eq]; simpa using ht
  by_cases h1 : v.kind = 1
  · by_cases hn : nameB v.text = true
    · refine (may_name_true p v.kind ⟨v.text.toArray⟩ (wd v.set 0) (wd v.set 1) (wd v.set 2) (wd v.set 3) v.num w (by simp [h1]) hsz (by simpa using hn)).mono ?_
      rintro e w' ⟨rfl, hb⟩
      refine ⟨?_, hb⟩
      refine congrArg (fun b => Ending.returned (Value.bool b)) (eqW_bool0 p v v.kind 0 v.text hset (mayF v) ?_)
      unfold mayF
      rw [if_pos h1, hn]
      obtain ⟨a, b, c, d⟩ := v
      simp
      constructor
      · rintro ⟨rfl, rfl⟩; exact ⟨rfl, rfl⟩
      · rintro ⟨rfl, rfl⟩; exact ⟨rfl, rfl⟩
    · refine (may_name_false p v.kind ⟨v.text.toArray⟩ (wd v.set 0) (wd v.set 1) (wd v.set 2) (wd v.set 3) v.num w (by simp [h1]) hsz (by simpa using hn)).mono ?_
      rintro e w' ⟨rfl, hb⟩
      refine ⟨?_, hb⟩
      unfold mayF
      rw [if_pos h1]
      simp [hn]
  by_cases h2 : v.kind = 2
  · refine (may_text p v.kind ⟨v.text.toArray⟩ (wd v.set 0) (wd v.set 1) (wd v.set 2) (wd v.set 3) v.num w (by simp [h1]) (by simp [h2])).mono ?_
    rintro e w' ⟨rfl, hb⟩
    refine ⟨?_, hb⟩
    refine congrArg (fun b => Ending.returned (Value.bool b)) (eqW_bool0 p v v.kind 0 v.text hset (mayF v) ?_)
    unfold mayF
    rw [if_neg h1, if_pos h2]
    obtain ⟨a, b, c, d⟩ := v
    simp
    constructor
    · rintro ⟨rfl, rfl⟩; exact ⟨rfl, rfl⟩
    · rintro ⟨rfl, rfl⟩; exact ⟨rfl, rfl⟩
  by_cases h3 : v.kind = 3
  · refine (may_set p v.kind ⟨v.text.toArray⟩ (wd v.set 0) (wd v.set 1) (wd v.set 2) (wd v.set 3) v.num w (by simp [h1]) (by simp [h2]) (by simp [h3])).mono ?_
    rintro e w' ⟨rfl, hb⟩
    refine ⟨?_, hb⟩
    refine congrArg (fun b => Ending.returned (Value.bool b)) (eqW_bool p v ⟨v.kind, [], v.set, 0⟩ hset hset (mayF v) ?_)
    unfold mayF
    rw [if_neg h1, if_neg h2, if_pos h3]
    obtain ⟨a, b, c, d⟩ := v
    simp
    constructor
    · rintro ⟨rfl, rfl⟩; exact ⟨rfl, rfl⟩
    · rintro ⟨rfl, rfl⟩; exact ⟨rfl, rfl⟩
  by_cases h4 : v.kind = 4
  · by_cases f1 : 0 ≤ v.num
    · by_cases f2 : v.num ≤ 999999999
      · refine (may_num p v.kind ⟨v.text.toArray⟩ (wd v.set 0) (wd v.set 1) (wd v.set 2) (wd v.set 3) v.num w (by simp [h1]) (by simp [h2]) (by simp [h3]) (by simp [h4]) (by simpa using f1) (by simpa using f2)).mono ?_
        rintro e w' ⟨rfl, hb⟩
        refine ⟨?_, hb⟩
        refine congrArg (fun b => Ending.returned (Value.bool b)) (eqW_bool0 p v v.kind v.num [] hset (mayF v) ?_)
        unfold mayF
        rw [if_neg h1, if_neg h2, if_neg h3, if_pos h4]
        obtain ⟨a, b, c, d⟩ := v
        simp [f1, f2]
      · refine (may_num2 p v.kind ⟨v.text.toArray⟩ (wd v.set 0) (wd v.set 1) (wd v.set 2) (wd v.set 3) v.num w (by simp [h1]) (by simp [h2]) (by simp [h3]) (by simp [h4]) (by simpa using f1) (by simpa using f2)).mono ?_
        rintro e w' ⟨rfl, hb⟩
        refine ⟨?_, hb⟩
        unfold mayF
        rw [if_neg h1, if_neg h2, if_neg h3, if_pos h4]
        simp [f2]
    · refine (may_num1 p v.kind ⟨v.text.toArray⟩ (wd v.set 0) (wd v.set 1) (wd v.set 2) (wd v.set 3) v.num w (by simp [h1]) (by simp [h2]) (by simp [h3]) (by simp [h4]) (by simpa using f1)).mono ?_
      rintro e w' ⟨rfl, hb⟩
      refine ⟨?_, hb⟩
      unfold mayF
      rw [if_neg h1, if_neg h2, if_neg h3, if_pos h4]
      simp [f1]
  by_cases h5 : v.kind = 5
  · by_cases hl : v.text.length = 1
    · obtain ⟨c, hc⟩ : ∃ c, v.text = [c] := by
        match h : v.text, hl with
        | [c], _ => exact ⟨c, rfl⟩
      have hcls : (classI (c.toNat : Int) == 5) = signB (c.toNat : Int) := by
        by_cases hs : signB (c.toNat : Int) = true
        · rw [cls_sign hs, hs]; rfl
        · have := classI_cases (c.toNat : Int) _ (sign_index c) sign_range
          rw [Bool.eq_false_iff.2 hs]
          simp only [beq_eq_false_iff_ne, ne_eq]
          intro e
          rw [e] at this
          exact hs ((sign_index c).1 (by omega))
      have hb0 : (⟨v.text.toArray⟩ : ByteArray).size = 1 := by rw [Lib.size_eq]; simpa using hl
      by_cases hs : signB (c.toNat : Int) = true
      · refine (may_sign_true p v.kind ⟨v.text.toArray⟩ (wd v.set 0) (wd v.set 1) (wd v.set 2) (wd v.set 3) v.num w (by simp [h1]) (by simp [h2]) (by simp [h3]) (by simp [h4]) (by simp [h5]) c (by omega) (by omega) (by simp [hc]; rfl) (by rw [hb0]; rfl) (by rw [hcls, hs])).mono ?_
        rintro e w' ⟨rfl, hb⟩
        refine ⟨?_, hb⟩
        refine congrArg (fun b => Ending.returned (Value.bool b)) (eqW_bool0 p v v.kind 0 v.text hset (mayF v) ?_)
        unfold mayF
        rw [if_neg h1, if_neg h2, if_neg h3, if_neg h4, if_pos h5, hc]
        simp only [hs]
        obtain ⟨a, b, c, d⟩ := v
        simp
        simp at hc
        subst hc
        constructor
        · rintro ⟨_, rfl, rfl⟩; exact ⟨rfl, rfl⟩
        · rintro ⟨rfl, rfl⟩; exact ⟨rfl, rfl, rfl⟩
      · refine (may_sign_false p v.kind ⟨v.text.toArray⟩ (wd v.set 0) (wd v.set 1) (wd v.set 2) (wd v.set 3) v.num w (by simp [h1]) (by simp [h2]) (by simp [h3]) (by simp [h4]) (by simp [h5]) c (by omega) (by omega) (by simp [hc]; rfl) (by rw [hb0]; rfl) (by rw [hcls]; simpa using hs)).mono ?_
        rintro e w' ⟨rfl, hb⟩
        refine ⟨?_, hb⟩
        unfold mayF
        rw [if_neg h1, if_neg h2, if_neg h3, if_neg h4, if_pos h5, hc]
        simp [hs]
    · have hb0 : (⟨v.text.toArray⟩ : ByteArray).size ≠ 1 := by rw [Lib.size_eq]; simpa using hl
      refine (may_sign_long p v.kind ⟨v.text.toArray⟩ (wd v.set 0) (wd v.set 1) (wd v.set 2) (wd v.set 3) v.num w (by simp [h1]) (by simp [h2]) (by simp [h3]) (by simp [h4]) (by simp [h5]) (by simp; omega)).mono ?_
      rintro e w' ⟨rfl, hb⟩
      refine ⟨?_, hb⟩
      unfold mayF
      rw [if_neg h1, if_neg h2, if_neg h3, if_neg h4, if_pos h5]
      cases hx : v.text with
      | nil => simp
      | cons c u =>
        cases u with
        | nil => rw [hx] at hl; exact absurd rfl hl
        | cons d u => simp
  · refine (may_other p v.kind ⟨v.text.toArray⟩ (wd v.set 0) (wd v.set 1) (wd v.set 2) (wd v.set 3) v.num w (by simp [h1]) (by simp [h2]) (by simp [h3]) (by simp [h4]) (by simp [h5])).mono ?_
    rintro e w' ⟨rfl, hb⟩
    refine ⟨?_, hb⟩
    unfold mayF
    rw [if_neg h1, if_neg h2, if_neg h3, if_neg h4, if_neg h5]
end Go.Proofs.YtacgnbelcpmjfaaGreatDoor.Dx
set_option linter.unusedVariables false
set_option linter.unusedSimpArgs false
namespace Go.Proofs.YtacgnbelcpmjfaaGreatDoor.Dx
open Go.RowKit Go.Proofs Mx
/-- The eight cells of a word. -/
def W8 (w : World) (g o : Nat) (p : Int) (v : Wd) : Prop :=
  w.cell? ⟨g, o, none⟩ = some (.int .i64 v.kind) ∧ w.cell? ⟨g, o + 1, none⟩ = some (.int .i64 p) ∧ w.cell? ⟨g, o + 2, none⟩ = some (.string ⟨v.text.toArray⟩) ∧ w.cell? ⟨g, o + 3, none⟩ = some (.int .u64 (wd v.set 0)) ∧
  w.cell? ⟨g, o + 4, none⟩ = some (.int .u64 (wd v.set 1)) ∧ w.cell? ⟨g, o + 5, none⟩ = some (.int .u64 (wd v.set 2)) ∧ w.cell? ⟨g, o + 6, none⟩ = some (.int .u64 (wd v.set 3)) ∧ w.cell? ⟨g, o + 7, none⟩ = some (.int .i64 v.num)
theorem W8.below {w w' : World} {B g o : Nat} {p : Int} {v : Wd} (h : W8 w g o p v) (hb : Below B w w') (hg : g < B) : W8 w' g o p v := by
  obtain ⟨h0, h1, h2, h3, h4, h5, h6, h7⟩ := h
  exact ⟨(hb.cell hg).trans h0, (hb.cell hg).trans h1, (hb.cell hg).trans h2, (hb.cell hg).trans h3, (hb.cell hg).trans h4, (hb.cell hg).trans h5, (hb.cell hg).trans h6, (hb.cell hg).trans h7⟩
/-- Words that may be handled: sets of 256 bits, texts of modest size. -/
def fitW (v : Wd) : Prop := v.set < 2 ^ 256 ∧ v.text.length ≤ 400000000
/-- A row of words in memory. -/
structure RowW (w : World) (g o : Nat) (l : List (Int × Wd)) : Prop where
  lt : g < w.heap.size
  cells : ∀ i p v, l[i]? = some (p, v) → W8 w g (o + i * 8) p v
theorem RowW.below {w w' : World} {B g o : Nat} {l : List (Int × Wd)} (h : RowW w g o l) (hb : Below B w w') (hg : g < B) : RowW w' g o l :=
  ⟨Nat.lt_of_lt_of_le h.lt hb.size, fun i p v hi => (h.cells i p v hi).below hb hg⟩
/-- A slice of words. -/
inductive SliceW (w : World) : Value → List (Int × Wd) → Prop where
  | nil : SliceW w (.slice none 0 0) []
  | row {g o cap : Nat} {l : List (Int × Wd)} (h : RowW w g o l) (hc : l.length ≤ cap) : SliceW w (.slice (some ⟨g, o, none⟩) l.length cap) l
theorem pr1_any (p : Int) (v : Wd) (hf : fitW v) (w : World) :
    Calls Tryz.prog 24 #[wdV p v] w fun e w' => e = .returned (.bool (!mayF v)) ∧ Below w.heap.size w w' := by
  have hm := may_any p v hf.1 hf.2
  have HM := Lib.hid hm
  clear hm
  show Calls Tryz.prog 24 #[.agg #[.int .i64 v.kind, .int .i64 p, .string ⟨v.text.toArray⟩, .int .u64 (wd v.set 0), .int .u64 (wd v.set 1), .int .u64 (wd v.set 2), .int .u64 (wd v.set 3), .int .i64 v.num]] w _
  go_enter Tryz.func24, Tryz.ntmps24
  go_wp2_with fail
  refine (HM.out _).mono ?_
  rintro e w2 ⟨rfl, hb⟩
  have HB := Lib.hid hb
  clear hb
  go_wp2_with fail
  go_ret
  exact ⟨rfl, ((Below.refl _ _).alloc (Nat.le_refl _) _).trans (HB.out.mono (by simp))⟩
def allMay (l : List (Int × Wd)) : Bool := l.all (fun q => mayF q.2)
theorem idx_any (g o cap : Nat) (l : List (Int × Wd)) (hl : l.length ≤ 1000000000) (hfit : ∀ q ∈ l, fitW q.2) (w : World) (hr : RowW w g o l) :
    Calls Tryz.prog 47 #[.slice (some ⟨g, o, none⟩) l.length cap, .func (.func 24) #[] #[]] w fun e w' => ∃ r : Int, e = .returned (.int .i64 r) ∧ (0 ≤ r ↔ allMay l = false) ∧ Below w.heap.size w w' := by
  have HC := Lib.hid (And.intro hr hfit)
  clear hr hfit
  go_enter Tryz.func47, Tryz.ntmps47
  go_wp2_with fail
  go_loopg [8] l.length (fun m v wr => ∃ i : Nat, i ≤ l.length ∧ m = l.length - i ∧ v = .int .i64 i ∧ Below w.heap.size w wr ∧ allMay l = allMay (l.drop i))
  case atStart => exact ⟨0, by omega, rfl, rfl, Below.refl _ _, by rw [List.drop_zero]⟩
  case round =>
    obtain ⟨i, hi, hm, rfl, hb, hal⟩ := hrel
    have A := Lib.hid (And.intro hm (And.intro hb hal))
    clear hm hb hal
    by_cases hlt : i < l.length
    · obtain ⟨q, hq⟩ : ∃ q, l[i] = q := ⟨_, rfl⟩
      obtain ⟨p, v⟩ := q
      obtain ⟨c0, c1, c2, c3, c4, c5, c6, c7⟩ := (HC.out.1.cells i p v (by rw [List.getElem?_eq_getElem hlt, hq])).below A.out.2.1 HC.out.1.lt
      have HF := Lib.hid (HC.out.2 (p, v) (by rw [← hq]; exact List.getElem_mem hlt))
      have HD := Lib.hid (show l.drop i = (p, v) :: l.drop (i + 1) by rw [List.drop_eq_getElem_cons hlt, hq])
      have hlt' : (i : Int) < (l.length : Int) := by omega
      have hi0 : (0 : Int) ≤ (i : Int) := by omega
      clear hq
      go_wp2_with fail
      refine (pr1_any p v HF.out _).mono ?_
      rintro e w2 ⟨rfl, hb2⟩
      have HB := Lib.hid (A.out.2.1.trans (hb2.mono A.out.2.1.size))
      clear hb2
      by_cases hmv : mayF v = true
      · go_wp2_with fail
        go_roundg (l.length - (i + 1))
        case measure => have := A.out.1; omega
        case rel => exact ⟨i + 1, by omega, by omega, rfl, HB.out, by rw [A.out.2.2, HD.out, allMay, List.all_cons, hmv, Bool.true_and]; rfl⟩
      · go_wp2_with fail
        go_ret
        refine ⟨i, rfl, ?_, HB.out⟩
        rw [A.out.2.2, HD.out, allMay, List.all_cons]
        simp [hmv]
    · obtain rfl : i = l.length := by omega
      have hb := A.out.2.1
      have hal := A.out.2.2
      clear A
      go_wp2_with fail
      go_ret
      refine ⟨-1, rfl, ?_, hb⟩
      rw [hal, List.drop_length]
      simp [allMay]
theorem idx_nil (w : World) :
    Calls Tryz.prog 47 #[.slice none 0 0, .func (.func 24) #[] #[]] w fun e w' => ∃ r : Int, e = .returned (.int .i64 r) ∧ (0 ≤ r ↔ allMay [] = false) ∧ Below w.heap.size w w' := by
  go_enter Tryz.func47, Tryz.ntmps47
  go_wp2_with fail
  go_loopg [8] 0 (fun m v wr => v = .int .i64 0 ∧ Below w.heap.size w wr)
  case atStart => exact ⟨rfl, Below.refl _ _⟩
  case round =>
    obtain ⟨rfl, hb⟩ := hrel
    go_wp2_with fail
    go_ret
    exact ⟨-1, rfl, by simp [allMay], hb⟩
theorem cf_any (V : Value) (l : List (Int × Wd)) (hl : l.length ≤ 1000000000) (hfit : ∀ q ∈ l, fitW q.2) (w : World) (hV : SliceW w V l) :
    Calls Tryz.prog 23 #[V, .func (.func 24) #[] #[]] w fun e w' => e = .returned (.bool (!allMay l)) ∧ Below w.heap.size w w' := by
  have hi : Calls Tryz.prog 47 #[V, .func (.func 24) #[] #[]] w fun e w' => ∃ r : Int, e = .returned (.int .i64 r) ∧ (0 ≤ r ↔ allMay l = false) ∧ Below w.heap.size w w' := by
    cases hV with
    | nil => exact idx_nil w
    | row h hc => exact idx_any _ _ _ l hl hfit w h
  go_enter Tryz.func23, Tryz.ntmps23
  go_wp2_with fail
  refine hi.mono ?_
  rintro e w2 ⟨r, rfl, hr, hb⟩
  have HB := Lib.hid hb
  clear hb
  by_cases h0 : 0 ≤ r
  · go_wp2_with fail
    go_ret
    rw [hr.1 h0]
    exact ⟨rfl, HB.out⟩
  · go_wp2_with fail
    go_ret
    have : allMay l = true := by
      cases h : allMay l with
      | true => rfl
      | false => exact absurd (hr.2 h) (by omega)
    rw [this]
    exact ⟨by simp [h0], HB.out⟩
end Go.Proofs.YtacgnbelcpmjfaaGreatDoor.Dx
