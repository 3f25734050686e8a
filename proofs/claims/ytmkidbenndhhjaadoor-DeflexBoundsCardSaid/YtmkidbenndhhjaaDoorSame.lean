/-
  WALKS: Print of any slice; Same.
-/
import Derived.Test.YtmkidbenndhhjaaDoorPrint
set_option linter.unusedVariables false
set_option linter.unusedSimpArgs false
namespace Go.Proofs.YtmkidbenndhhjaaDoor.Dx
open Go.RowKit Go.Proofs Mx Bx
theorem print_nil (w : World) :
    Calls Tryd.prog 24 #[.slice none 0 0] w fun e w' => e = .returned (.tuple #[.string ⟨#[]⟩, .int .i64 0]) ∧ Below w.heap.size w w' := by
  have hcf := cf_any (.slice none 0 0) [] (by decide) (by simp) w .nil
  go_enter Tryd.func24, Tryd.ntmps24
  go_wp2_with fail
  refine hcf.mono ?_
  rintro e w1 ⟨rfl, hb1⟩
  rw [show (!allMay []) = false from rfl]
  have hfresh := Lib.fresh_isBuilder 80 5 w1
  have hL1 := hb1.alloc hb1.size (.cells #[.pointer none, .slice none 0 0] 80)
  have hw1 := hb1.size
  clear hcf hb1
  go_wp2_with fail
  obtain ⟨b0, hb0⟩ : ∃ b0, w1.heap.size = b0 := ⟨_, rfl⟩
  rw [hb0] at hfresh hw1 ⊢
  generalize (w1.alloc (.cells #[.pointer none, .slice none 0 0] 80)) = w2 at hfresh hL1 ⊢
  have H2 := Lib.hid (And.intro hfresh hL1)
  clear hfresh hL1 hb0
  go_loopg [11] 0 (fun m v wr => v = .int .i64 0 ∧ wr = w2)
  case atStart => exact ⟨rfl, rfl⟩
  case round =>
    obtain ⟨rfl, rfl⟩ := hrel
    go_wp2_with fail
    refine (Tryd.Builder_Len b0 b0 _ _ H2.out.1).mono ?_
    rintro e w8 ⟨rfl, rfl⟩
    go_wp2_with fail
    refine (Tryd.Builder_String_any b0 b0 [] _ H2.out.1 (Nat.le_of_lt (isb_lt H2.out.1))).mono ?_
    rintro e w9 ⟨rfl, hb9⟩
    have H9 := Lib.hid (H2.out.2.trans (hb9.mono hw1))
    clear hb9
    go_wp2_with fail
    go_ret2
    exact ⟨rfl, H9.out⟩
theorem print_any (V : Value) (l : List (Int × Wd)) (hl : l.length ≤ 1000000000) (hfit : ∀ q ∈ l, fitW q.2) (htot : allMay l = true → (tellL (l.map (·.2))).length ≤ 100000000000) (w : World) (E : Env w) (R : Bru w) (hV : SliceW w V l) :
    Calls Tryd.prog 24 #[V] w fun e w' => e = .returned (.tuple #[.string ⟨(printF (l.map (·.2))).1.toArray⟩, .int .i64 (printF (l.map (·.2))).2]) ∧ Below w.heap.size w w' := by
  cases hV with
  | nil => exact print_nil w
  | row h hc => exact print_row _ _ _ l hl hc hfit htot w E R h
instance : DecidableEq Wd := fun a b =>
  if h : a.kind = b.kind ∧ a.text = b.text ∧ a.set = b.set ∧ a.num = b.num then
    isTrue (by obtain ⟨a1, a2, a3, a4⟩ := a; obtain ⟨b1, b2, b3, b4⟩ := b; obtain ⟨h1, h2, h3, h4⟩ := h; simp at h1 h2 h3 h4; subst h1; subst h2; subst h3; subst h4; rfl)
  else isFalse (by rintro rfl; exact h ⟨rfl, rfl, rfl, rfl⟩)
theorem sm1_any (p q : Int) (v x : Wd) (hv : v.set < 2 ^ 256) (hx : x.set < 2 ^ 256) (w : World) :
    Calls Tryd.prog 52 #[wdV p v, wdV q x] w fun e w' => e = .returned (.bool (decide (v = x))) ∧ Below w.heap.size w w' := by
  have heq := eql_word
  show Calls Tryd.prog 52 #[.agg #[.int .i64 v.kind, .int .i64 p, .string ⟨v.text.toArray⟩, .int .u64 (wd v.set 0), .int .u64 (wd v.set 1), .int .u64 (wd v.set 2), .int .u64 (wd v.set 3), .int .i64 v.num], .agg #[.int .i64 x.kind, .int .i64 q, .string ⟨x.text.toArray⟩, .int .u64 (wd x.set 0), .int .u64 (wd x.set 1), .int .u64 (wd x.set 2), .int .u64 (wd x.set 3), .int .i64 x.num]] w _
  go_enter Tryd.func52, Tryd.ntmps52
  go_wp2_with fail
  go_ret
  refine ⟨congrArg (fun b => Ending.returned (Value.bool b)) ?_, ?_⟩
  · by_cases h : v = x
    · rw [decide_eq_true h]; exact (eqW_iff 0 0 v x hv hx).2 ⟨rfl, h⟩
    · rw [decide_eq_false h]; exact Bool.eq_false_iff.2 fun e => h ((eqW_iff 0 0 v x hv hx).1 e).2
  · exact ((Below.refl _ _).alloc (Nat.le_refl _) _).alloc (by simp) _
/-- A slice of words, whether it points or not. -/
def OptW (w : World) (a : Option Addr) (l : List (Int × Wd)) : Prop := (a = none → l = []) ∧ ∀ b, a = some b → ∃ g o, b = ⟨g, o, none⟩ ∧ RowW w g o l
theorem SliceW.opt {w : World} {V : Value} {l : List (Int × Wd)} (h : SliceW w V l) : ∃ a cap, V = .slice a l.length cap ∧ OptW w a l := by
  cases h with
  | nil => exact ⟨none, 0, rfl, fun _ => rfl, by intro b h; cases h⟩
  | row h hc => exact ⟨_, _, rfl, (fun e => by cases e), (fun b hb => by cases hb; exact ⟨_, _, rfl, h⟩)⟩
theorem OptW.some {w : World} {a : Option Addr} {l : List (Int × Wd)} (h : OptW w a l) (hl : 0 < l.length) : ∃ g o, a = some ⟨g, o, none⟩ ∧ RowW w g o l := by
  cases a with
  | none => rw [h.1 rfl] at hl; simp at hl
  | some b => obtain ⟨g, o, rfl, hr⟩ := h.2 b rfl; exact ⟨g, o, rfl, hr⟩
set_option maxHeartbeats 1000000 in
theorem eqf_any (a b : Option Addr) (c d : Nat) (l k : List (Int × Wd)) (hl : l.length ≤ 1000000000) (hk : k.length ≤ 1000000000) (hfl : ∀ q ∈ l, q.2.set < 2 ^ 256) (hfk : ∀ q ∈ k, q.2.set < 2 ^ 256) (w : World) (ha : OptW w a l) (hb : OptW w b k) :
    Calls Tryd.prog 51 #[.slice a l.length c, .slice b k.length d, .func (.func 52) #[] #[]] w fun e w' => e = .returned (.bool (decide (l.map (·.2) = k.map (·.2)))) ∧ Below w.heap.size w w' := by
  have HC := Lib.hid (And.intro hfl (And.intro hfk (And.intro ha hb)))
  clear hfl hfk ha hb
  go_enter Tryd.func51, Tryd.ntmps51
  by_cases hlen : l.length = k.length
  case neg =>
    have hlen' : ¬ (l.length : Int) = (k.length : Int) := by omega
    go_wp2_with fail
    go_ret
    refine ⟨congrArg (fun b => Ending.returned (Value.bool b)) ?_, Below.refl _ _⟩
    refine (decide_eq_false fun e => hlen ?_).symm
    simpa using congrArg List.length e
  rw [← hlen]
  have HL := Lib.hid hlen
  clear hlen
  go_wp2_with fail
  go_loopg [17] l.length (fun m v wr => ∃ i : Nat, i ≤ l.length ∧ m = l.length - i ∧ v = .int .i64 i ∧ Below w.heap.size w wr ∧ (l.map (·.2) = k.map (·.2) ↔ (l.drop i).map (·.2) = (k.drop i).map (·.2)))
  case atStart => exact ⟨0, by omega, rfl, rfl, Below.refl _ _, by rw [List.drop_zero, List.drop_zero]⟩
  case round =>
    obtain ⟨i, hi, hm, rfl, hbe, hiff⟩ := hrel
    have A := Lib.hid (And.intro hm (And.intro hbe hiff))
    clear hm hbe hiff
    by_cases hlt : i < l.length
    · obtain ⟨g, o, rfl, hr1⟩ := HC.out.2.2.1.some (by omega)
      obtain ⟨g2, o2, rfl, hr2⟩ := HC.out.2.2.2.some (by have := HL.out; omega)
      obtain ⟨q, hq⟩ : ∃ q, l[i] = q := ⟨_, rfl⟩
      obtain ⟨p, v⟩ := q
      obtain ⟨q2, hq2⟩ : ∃ q, k[i]'(by have := HL.out; omega) = q := ⟨_, rfl⟩
      obtain ⟨p2, x⟩ := q2
      have hget : l[i]? = some (p, v) := by rw [List.getElem?_eq_getElem hlt, hq]
      have hget2 : k[i]? = some (p2, x) := by rw [List.getElem?_eq_getElem (by have := HL.out; omega), hq2]
      have hv := HC.out.1 (p, v) (List.mem_of_getElem? hget)
      have hx := HC.out.2.1 (p2, x) (List.mem_of_getElem? hget2)
      have HD := Lib.hid (show l.drop i = (p, v) :: l.drop (i + 1) by rw [List.drop_eq_getElem_cons hlt, hq])
      have HE := Lib.hid (show k.drop i = (p2, x) :: k.drop (i + 1) by rw [List.drop_eq_getElem_cons (by have := HL.out; omega), hq2])
      have w1 := (hr1.cells i p v hget).below A.out.2.1 hr1.lt
      have hbal : Below w.heap.size w (wr.alloc (.cells #[.int .i64 v.kind, .int .i64 p, .string ⟨v.text.toArray⟩, .int .u64 (wd v.set 0), .int .u64 (wd v.set 1), .int .u64 (wd v.set 2), .int .u64 (wd v.set 3), .int .i64 v.num] 51)) := A.out.2.1.alloc A.out.2.1.size _
      have w2 := (hr2.cells i p2 x hget2).below hbal hr2.lt
      have hbal2 := hbal.alloc (by have := A.out.2.1.size; simp; omega) (.cells #[.int .i64 x.kind, .int .i64 p2, .string ⟨x.text.toArray⟩, .int .u64 (wd x.set 0), .int .u64 (wd x.set 1), .int .u64 (wd x.set 2), .int .u64 (wd x.set 3), .int .i64 x.num] 51)
      have hb1 := (Blk.new wr 51 #[.int .i64 v.kind, .int .i64 p, .string ⟨v.text.toArray⟩, .int .u64 (wd v.set 0), .int .u64 (wd v.set 1), .int .u64 (wd v.set 2), .int .u64 (wd v.set 3), .int .i64 v.num]).alloc (.cells #[.int .i64 x.kind, .int .i64 p2, .string ⟨x.text.toArray⟩, .int .u64 (wd x.set 0), .int .u64 (wd x.set 1), .int .u64 (wd x.set 2), .int .u64 (wd x.set 3), .int .i64 x.num] 51)
      obtain ⟨c0, c1, c2, c3, c4, c5, c6, c7⟩ := w1
      obtain ⟨d0, d1, d2, d3, d4, d5, d6, d7⟩ := w2
      have HB := Lib.hid (And.intro hbal2 (And.intro hv hx))
      have hlt' : (i : Int) < (l.length : Int) := by omega
      have hi0 : (0 : Int) ≤ (i : Int) := by omega
      clear hq hq2 hbal hbal2 hget hget2 hr1 hr2 hv hx
      obtain ⟨b0, b1, b2, b3, b4, b5, b6, b7, bf⟩ := hb1.facts8
      clear hb1
      go_wp2_with fail
      refine (sm1_any p p2 v x HB.out.2.1 HB.out.2.2 _).mono ?_
      rintro e w3 ⟨rfl, hb3⟩
      have H3 := Lib.hid (HB.out.1.trans (hb3.mono (by have := A.out.2.1.size; simp; omega)))
      clear hb3
      by_cases hvx : v = x
      · rw [decide_eq_true hvx]
        have HV := Lib.hid hvx
        clear hvx
        go_wp2_with fail
        go_roundg (l.length - (i + 1))
        case measure => have := A.out.1; omega
        case rel =>
          refine ⟨i + 1, by omega, by omega, rfl, H3.out, ?_⟩
          rw [A.out.2.2, HD.out, HE.out]
          simp [HV.out]
      · rw [decide_eq_false hvx]
        have HV := Lib.hid hvx
        clear hvx
        go_wp2_with fail
        go_ret
        refine ⟨congrArg (fun b => Ending.returned (Value.bool b)) (decide_eq_false fun e => HV.out ?_).symm, H3.out⟩
        have := A.out.2.2.1 e
        rw [HD.out, HE.out] at this
        simp at this
        exact this.1
    · obtain rfl : i = l.length := by omega
      have hbe := A.out.2.1
      have hiff := A.out.2.2
      have HZ := Lib.hid (And.intro hbe hiff)
      clear A hbe hiff
      go_wp2_with fail
      go_ret
      refine ⟨congrArg (fun b => Ending.returned (Value.bool b)) (decide_eq_true ?_).symm, HZ.out.1⟩
      rw [HZ.out.2, List.drop_length, List.drop_eq_nil_of_le (by have := HL.out; omega)]
theorem same_any (V U : Value) (l k : List (Int × Wd)) (hl : l.length ≤ 1000000000) (hk : k.length ≤ 1000000000) (hfl : ∀ q ∈ l, q.2.set < 2 ^ 256) (hfk : ∀ q ∈ k, q.2.set < 2 ^ 256) (w : World) (hV : SliceW w V l) (hU : SliceW w U k) :
    Calls Tryd.prog 27 #[V, U] w fun e w' => e = .returned (.bool (decide (l.map (·.2) = k.map (·.2)))) ∧ Below w.heap.size w w' := by
  obtain ⟨a, c, rfl, ha⟩ := hV.opt
  obtain ⟨b, d, rfl, hb⟩ := hU.opt
  have heq := eqf_any a b c d l k hl hk hfl hfk w ha hb
  go_enter Tryd.func27, Tryd.ntmps27
  go_wp2_with fail
  refine heq.mono ?_
  rintro e w2 ⟨rfl, hb2⟩
  have H2 := Lib.hid hb2
  clear hb2
  go_wp2_with fail
  go_ret
  exact ⟨rfl, H2.out⟩
end Go.Proofs.YtmkidbenndhhjaaDoor.Dx
