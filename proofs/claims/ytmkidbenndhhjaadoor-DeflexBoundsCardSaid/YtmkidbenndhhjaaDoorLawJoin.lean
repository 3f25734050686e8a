/-
  DeflexJoin.
-/
import Derived.Test.YtmkidbenndhhjaaDoorWorks
import Derived.RegionTactic
set_option linter.unusedVariables false
set_option linter.unusedSimpArgs false
namespace Go.Proofs.YtmkidbenndhhjaaDoor.Dx
open Go.RowKit Go.Proofs Mx Bx
theorem lexR_ok (l : List UInt8) (h : l.length ≤ 1048576) (e : (lexF 0 l).2 = none) : lexR l = ((lexF 0 l).1, 0, 0) := by
  have hr : readR l = ((lexF 0 l).1, 0, 0) := by rw [readR, if_neg (by omega), e]
  rw [lexR, hr]
  rfl
theorem lexR_no (l : List UInt8) (h : l.length ≤ 1048576) (p : Nat) (e : (lexF 0 l).2 = some p) : lexR l = ([], (p : Int), 130) := by
  have hr : readR l = ((lexF 0 l).1, (p : Int), 130) := by rw [readR, if_neg (by omega), e]
  rw [lexR, hr]
  rfl
theorem lexG_nil (f p : Nat) : lexG f p [] = ([], none) := by
  cases f with
  | zero => rfl
  | succ f => rfl
theorem lexG_places : ∀ (f p : Nat) (l : List UInt8), (∀ q, (lexG f p l).2 = some q → q < p + l.length) ∧ (∀ x ∈ (lexG f p l).1, x.1 < p + l.length) := by
  intro f
  induction f with
  | zero => intro p l; exact ⟨(fun q h => by cases h), (fun x h => by cases h)⟩
  | succ f ih =>
    intro p l
    have hk := skM_le false l
    rw [lexG]
    cases hd : l.drop (skM false l) with
    | nil => exact ⟨(fun q h => by cases h), (fun x h => by cases h)⟩
    | cons c t =>
      have hlen : (c :: t).length = l.length - skM false l := by rw [← hd, List.length_drop]
      have hpos : 0 < (c :: t).length := by simp
      dsimp only
      cases hw : wordF (c :: t) with
      | none =>
        refine ⟨fun q h => ?_, fun x h => by cases h⟩
        dsimp only at h
        injection h with h
        omega
      | some wn =>
        obtain ⟨w, n⟩ := wn
        dsimp only
        have hrec := ih (p + skM false l + n) ((c :: t).drop n)
        by_cases hn : n ≤ (c :: t).length
        · rw [List.length_drop] at hrec
          refine ⟨fun q h => ?_, fun x h => ?_⟩
          · have := hrec.1 q h; omega
          · rcases List.mem_cons.1 h with rfl | h
            · show p + skM false l < _; omega
            · have := hrec.2 x h; omega
        · have hnil : (c :: t).drop n = [] := List.drop_eq_nil_of_le (by omega)
          rw [hnil, lexG_nil]
          refine ⟨(fun q h => by cases h), fun x h => ?_⟩
          rcases List.mem_cons.1 h with rfl | h
          · show p + skM false l < _; omega
          · cases h
theorem lexF_places (p : Nat) (l : List UInt8) : (∀ q, (lexF p l).2 = some q → q < p + l.length) ∧ (∀ x ∈ (lexF p l).1, x.1 < p + l.length) := lexG_places _ _ _
/-- Words at places moved on. -/
def upW (d : Nat) (l : List (Nat × Wd)) : List (Nat × Wd) := l.map fun q => (q.1 + d, q.2)
theorem upW_len (d : Nat) (l : List (Nat × Wd)) : (upW d l).length = l.length := by simp [upW]
theorem join_no (a b : List UInt8) (h : (lexF 0 a).2 ≠ none) : ∃ p, (lexF 0 (a ++ 10 :: b)).2 = some p := by
  have := (lexF_join a b 0).2 h
  cases e : (lexF 0 (a ++ 10 :: b)).2 with
  | none => exact absurd e this
  | some p => exact ⟨p, rfl⟩
theorem join_ok (a b : List UInt8) (h : (lexF 0 a).2 = none) :
    lexF 0 (a ++ 10 :: b) = ((lexF 0 a).1 ++ upW (a.length + 1) (lexF 0 b).1, (lexF 0 b).2.map (· + (a.length + 1))) := by
  have h1 := (lexF_join a b 0).1 h
  have h2 := lexF_shift (a.length + 1) 0 b
  rw [Nat.zero_add] at h2
  rw [show 0 + a.length + 1 = a.length + 1 by omega, h2] at h1
  refine Prod.ext ?_ ?_
  · rw [h1.1]; rfl
  · rw [h1.2]; rfl
/-- A word of the joined texts. -/
theorem join_get (la lb : List (Nat × Wd)) (d i : Nat) (p : Int) (v : Wd) (h : (wI (la ++ upW d lb))[i]? = some (p, v)) :
    (i < la.length → (wI la)[i]? = some (p, v)) ∧ (¬ i < la.length → ∃ n : Nat, p = (n : Int) + (d : Int) ∧ (wI lb)[i - la.length]? = some ((n : Int), v) ∧ (n, v) ∈ lb) := by
  rw [wI, List.getElem?_map] at h
  constructor
  · intro hi
    rw [List.getElem?_append_left hi] at h
    rw [wI, List.getElem?_map]; exact h
  · intro hi
    rw [List.getElem?_append_right (by omega), upW, List.getElem?_map] at h
    cases hq : lb[i - la.length]? with
    | none => rw [hq] at h; cases h
    | some q =>
      rw [hq] at h
      simp at h
      obtain ⟨h1, h2⟩ := h
      refine ⟨q.1, by omega, ?_, ?_⟩
      · rw [wI, List.getElem?_map, hq]
        simp [h2]
      · have := List.mem_of_getElem? hq
        rw [← h2]; exact this
theorem SliceW.ptr {w : World} {a : Option Addr} {n c : Nat} {l : List (Int × Wd)} (h : SliceW w (.slice a n c) l) (hl : 0 < l.length) : ∃ g o, a = some ⟨g, o, none⟩ ∧ RowW w g o l := by
  cases h with
  | nil => simp at hl
  | row h hc => exact ⟨_, _, rfl, h⟩
set_option maxRecDepth 100000 in
set_option maxHeartbeats 4000000 in
theorem join_law (a b : ByteArray) (w : World) (E : Env w) (R : Bru w) :
    Calls Tryd.prog 6 #[.string a, .string b] w fun e w' => e = .returned (.bool true) ∧ Below w.heap.size w w' := by
  have hwk := works_any w E R
  have h10 := E.big
  have HE := Lib.hid (And.intro E R)
  clear E R
  go_enter Tryd.func6, Tryd.ntmps6
  by_cases ha : 2500 < a.size
  · have ha' : (2500 : Int) < (a.size : Int) := by omega
    go_wp2_with fail
    refine hwk.mono ?_
    rintro e w1 ⟨rfl, hb1⟩
    have H1 := Lib.hid hb1
    clear hb1
    go_wp2_with fail
    go_ret
    exact ⟨rfl, H1.out⟩
  have ha' : ¬ (2500 : Int) < (a.size : Int) := by omega
  by_cases hb : 2500 < b.size
  · have hb' : (2500 : Int) < (b.size : Int) := by omega
    go_wp2_with fail
    refine hwk.mono ?_
    rintro e w1 ⟨rfl, hb1⟩
    have H1 := Lib.hid hb1
    clear hb1
    go_wp2_with fail
    go_ret
    exact ⟨rfl, H1.out⟩
  have hb' : ¬ (2500 : Int) < (b.size : Int) := by omega
  clear hwk
  have hla := lex_any a w HE.out.1
  obtain ⟨⟨la, pa, ea⟩, hra⟩ : ∃ r, lexR a.data.toList = r := ⟨_, rfl⟩
  rw [hra] at hla
  go_wp2_with fail
  refine hla.mono ?_
  rintro e w1 ⟨a1, n1, c1, rfl, hown1, hb1⟩
  obtain ⟨rfl, hs1⟩ := own_sliceW hown1
  have h101 := Nat.le_trans h10 hb1.size
  have E1 := HE.out.1.below hb1 (Nat.le_trans (by decide) h10)
  have hlb := lex_any b w1 E1
  obtain ⟨⟨lb, pb, eb⟩, hrb⟩ : ∃ r, lexR b.data.toList = r := ⟨_, rfl⟩
  rw [hrb] at hlb
  have H1 := Lib.hid (And.intro hb1 (And.intro hs1 E1))
  clear hla hown1 hb1 hs1 E1
  go_wp2_with fail
  refine hlb.mono ?_
  rintro e w2 ⟨a2, n2, c2, rfl, hown2, hb2⟩
  obtain ⟨rfl, hs2⟩ := own_sliceW hown2
  have h102 := Nat.le_trans h101 hb2.size
  have E2 := H1.out.2.2.below hb2 (Nat.le_trans (by decide) h101)
  have hs12 := H1.out.2.1.below hb2
  have hlk := lex_any ((a ++ ⟨#[10]⟩) ++ b) w2 E2
  have hcat : ((a ++ ⟨#[10]⟩) ++ b).data.toList = a.data.toList ++ 10 :: b.data.toList := by simp
  rw [hcat] at hlk
  obtain ⟨⟨lk, pk, ek⟩, hrk⟩ : ∃ r, lexR (a.data.toList ++ 10 :: b.data.toList) = r := ⟨_, rfl⟩
  rw [hrk] at hlk
  have H2 := Lib.hid (And.intro (H1.out.1.trans (hb2.mono H1.out.1.size)) (And.intro hs12 (And.intro hs2 E2)))
  clear hlb hown2 hb2 hs2 E2 hs12
  go_wp2_with fail
  refine hlk.mono ?_
  rintro e w3 ⟨a3, n3, c3, rfl, hown3, hb3⟩
  obtain ⟨rfl, hs3⟩ := own_sliceW hown3
  have h103 := Nat.le_trans h102 hb3.size
  have HW := Lib.hid (And.intro (H2.out.2.2.2.below hb3 (Nat.le_trans (by decide) h102)) (HE.out.2.below (H2.out.1.trans (hb3.mono H2.out.1.size)) (Nat.le_trans (by decide) h10)))
  have hwk := works_any w3 HW.out.1 HW.out.2
  have H3 := Lib.hid (And.intro (H2.out.1.trans (hb3.mono H2.out.1.size)) (And.intro (H2.out.2.1.below hb3) (And.intro (H2.out.2.2.1.below hb3) hs3)))
  clear hlk hown3 hb3 hs3
  have hsa : a.data.toList.length = a.size := (Lib.size_eq a).symm
  have hsb : b.data.toList.length = b.size := (Lib.size_eq b).symm
  have hkl : (a.data.toList ++ 10 :: b.data.toList).length ≤ 1048576 := by simp; omega
  cases h1 : (lexF 0 a.data.toList).2 with
  | some p =>
    obtain ⟨q, hq⟩ := join_no a.data.toList b.data.toList (by rw [h1]; simp)
    rw [lexR_no _ (by omega) p h1] at hra
    rw [lexR_no _ hkl q hq] at hrk
    cases hra
    cases hrk
    clear h1 hq hkl hsa hsb hcat
    go_wp2_with fail
    refine (num_any _ _).mono ?_
    rintro e w4 ⟨rfl, rfl⟩
    go_wp2_with fail
    refine (num_any _ _).mono ?_
    rintro e w4 ⟨rfl, rfl⟩
    go_wp2_with fail
    refine hwk.mono ?_
    rintro e w5 ⟨rfl, hb5⟩
    have H5 := Lib.hid (H3.out.1.trans (hb5.mono H3.out.1.size))
    clear hb5
    go_wp2_with fail
    go_ret
    exact ⟨rfl, H5.out⟩
  | none =>
    have hj := join_ok a.data.toList b.data.toList h1
    cases h2 : (lexF 0 b.data.toList).2 with
    | some p =>
      have h3 : (lexF 0 (a.data.toList ++ 10 :: b.data.toList)).2 = some (p + (a.data.toList.length + 1)) := by rw [hj, h2]; rfl
      rw [lexR_ok _ (by omega) h1] at hra
      rw [lexR_no _ (by omega) p h2] at hrb
      rw [lexR_no _ hkl _ h3, hsa] at hrk
      cases hra
      cases hrb
      cases hrk
      have hp5 := (lexF_places 0 b.data.toList).1 p h2
      clear h1 h2 h3 hj hkl hcat
      have hpl : (((p + (a.size + 1) : Nat) : Int) == (a.size : Int) + 1 + (p : Int)) = true := by simp; omega
      have HP := Lib.hid hpl
      go_wp2_with fail
      refine (num_any _ _).mono ?_
      rintro e w4 ⟨rfl, rfl⟩
      go_wp2_with fail
      refine (num_any _ _).mono ?_
      rintro e w4 ⟨rfl, rfl⟩
      go_wp2_with fail
      refine (num_any _ _).mono ?_
      rintro e w4 ⟨rfl, rfl⟩
      go_wp2_with fail
      refine hwk.mono ?_
      rintro e w5 ⟨rfl, hb5⟩
      have H5 := Lib.hid (H3.out.1.trans (hb5.mono H3.out.1.size))
      clear hb5
      go_wp2_with fail
      go_ret
      exact ⟨rfl, H5.out⟩
    | none =>
      have h3 : (lexF 0 (a.data.toList ++ 10 :: b.data.toList)).2 = none := by rw [hj, h2]; rfl
      rw [lexR_ok _ (by omega) h1] at hra
      rw [lexR_ok _ (by omega) h2] at hrb
      rw [lexR_ok _ hkl h3, hj, hsa] at hrk
      have hpb := (lexF_places 0 b.data.toList).2
      have hla := (lexF_may 0 a.data.toList).2.2
      have hlb := (lexF_may 0 b.data.toList).2.2
      have hwa := (lexF_may 0 a.data.toList).1
      have hwb := (lexF_may 0 b.data.toList).1
      generalize (lexF 0 a.data.toList).1 = xa at hra hrk hla hwa
      generalize (lexF 0 b.data.toList).1 = xb at hrb hrk hlb hpb hwb
      cases hra
      cases hrb
      cases hrk
      have hup : (la ++ upW (a.size + 1) lb).length = la.length + lb.length := by simp [upW_len]
      have HX := Lib.hid (And.intro hpb (And.intro hwa hwb))
      have h1b : la.length ≤ 2500 := by omega
      have h2b : lb.length ≤ 2500 := by omega
      clear h1 h2 h3 hj hkl hcat hpb hwa hwb hla hlb
      obtain ⟨xk, hxk⟩ : ∃ xk, la ++ upW (a.size + 1) lb = xk := ⟨_, rfl⟩
      rw [hxk] at H3 hup ⊢
      rw [hup]
      have HK := Lib.hid (And.intro hxk hup)
      clear hxk hup
      go_wp2_with fail
      refine (num_any _ _).mono ?_
      rintro e w4 ⟨rfl, rfl⟩
      go_wp2_with fail
      refine (num_any _ _).mono ?_
      rintro e w5 ⟨rfl, rfl⟩
      go_wp2_with fail
      refine (num_any _ _).mono ?_
      rintro e w6 ⟨rfl, rfl⟩
      have hnq := neq_word
      have hqq := fun p v hv => eqW_bool p v v hv hv true (by simp)
      go_wp2_with fail
      go_loopg [14] (la.length + lb.length) (fun m v wr => ∃ i : Nat, i ≤ la.length + lb.length ∧ m = la.length + lb.length - i ∧ v = .int .i64 i ∧ Below w6.heap.size w6 wr)
      case atStart => exact ⟨0, by omega, by omega, rfl, Below.refl _ _⟩
      case round =>
        obtain ⟨i, hi, hm, rfl, hbe⟩ := hrel
        have A := Lib.hid (And.intro hm hbe)
        clear hm hbe
        by_cases hlt : i < la.length + lb.length
        · obtain ⟨q, hq⟩ : ∃ q, (wI xk)[i]? = some q := ⟨_, List.getElem?_eq_getElem (by rw [wI_len, HK.out.2]; exact hlt)⟩
          obtain ⟨p, v⟩ := q
          obtain ⟨sa, sb⟩ := join_get la lb (a.size + 1) i p v (by rw [HK.out.1]; exact hq)
          obtain ⟨g3, o3, rfl, hrk⟩ := H3.out.2.2.2.ptr (by rw [wI_len, HK.out.2]; omega)
          have hlt' : (i : Int) < (la.length : Int) + (lb.length : Int) := by omega
          have hi0 : (0 : Int) ≤ (i : Int) := by omega
          by_cases hia : i < la.length
          · have hga := sa hia
            obtain ⟨g1, o1, rfl, hr1⟩ := H3.out.2.1.ptr (by rw [wI_len]; omega)
            have hia' : (i : Int) < (la.length : Int) := by omega
            have hvs : v.set < 2 ^ 256 := (HX.out.2.1 v (by
              have := List.mem_of_getElem? hga
              rw [← wI_snd]; exact List.mem_map_of_mem this)).2
            have hq1 := hqq p v hvs
            have hal0 : Below w6.heap.size w6 (wr.alloc (.cells #[.int .i64 0, .int .i64 0, .string ⟨#[]⟩, .int .u64 0, .int .u64 0, .int .u64 0, .int .u64 0, .int .i64 0] 51)) := A.out.2.alloc A.out.2.size _
            have hal : Below w6.heap.size w6 (wr.alloc (.cells #[.int .i64 v.kind, .int .i64 p, .string ⟨v.text.toArray⟩, .int .u64 (wd v.set 0), .int .u64 (wd v.set 1), .int .u64 (wd v.set 2), .int .u64 (wd v.set 3), .int .i64 v.num] 51)) := A.out.2.alloc A.out.2.size _
            have hca := (hr1.cells i p v hga).below hal0 hr1.lt
            have hck := (hrk.cells i p v hq).below hal hrk.lt
            have HB := Lib.hid (And.intro hal hvs)
            clear hal hal0 hga sa sb hr1 hrk hq hvs
            obtain ⟨c0, c1, c2, c3', c4, c5, c6, c7⟩ := hca
            obtain ⟨d0, d1, d2, d3, d4, d5, d6, d7⟩ := hck
            go_wp2_with fail
            go_region
            all_goals
              go_wp2_with fail
              go_roundg (la.length + lb.length - (i + 1))
              case measure => have := A.out.1; omega
              case rel => exact ⟨i + 1, by omega, by omega, rfl, by first | exact HB.out.1 | exact HB.out.1.drew⟩
          · obtain ⟨n, hpn, hgb, hmem⟩ := sb hia
            have hp : p = (n : Int) + (a.size : Int) + 1 := by omega
            subst hp
            obtain ⟨g1, o1, rfl, hr1⟩ := H3.out.2.2.1.ptr (by rw [wI_len]; omega)
            have hia' : ¬ (i : Int) < (la.length : Int) := by omega
            obtain ⟨j, hj⟩ : ∃ j, i - la.length = j := ⟨_, rfl⟩
            rw [hj] at hgb
            have hij : (i : Int) - (la.length : Int) = (j : Int) := by omega
            have hj0 : (0 : Int) ≤ (j : Int) := by omega
            have hjl : (j : Int) < (lb.length : Int) := by omega
            have hvs : v.set < 2 ^ 256 := (HX.out.2.2 v (List.mem_map_of_mem (f := (·.2)) hmem)).2
            have hn5 : n < 0 + b.data.toList.length := HX.out.1 (n, v) hmem
            have hq1 := hqq ((n : Int) + (a.size : Int) + 1) v hvs
            have hal0 : Below w6.heap.size w6 (wr.alloc (.cells #[.int .i64 0, .int .i64 0, .string ⟨#[]⟩, .int .u64 0, .int .u64 0, .int .u64 0, .int .u64 0, .int .i64 0] 51)) := A.out.2.alloc A.out.2.size _
            have hal : Below w6.heap.size w6 (wr.alloc (.cells #[.int .i64 v.kind, .int .i64 ((n : Int) + (a.size : Int) + 1), .string ⟨v.text.toArray⟩, .int .u64 (wd v.set 0), .int .u64 (wd v.set 1), .int .u64 (wd v.set 2), .int .u64 (wd v.set 3), .int .i64 v.num] 51)) := A.out.2.alloc A.out.2.size _
            have hcb := (hr1.cells j n v hgb).below hal0 hr1.lt
            have hck := (hrk.cells i _ v hq).below hal hrk.lt
            have HB := Lib.hid (And.intro hal hvs)
            clear hal hal0 hgb sa sb hr1 hrk hq hvs hpn hmem
            obtain ⟨c0, c1, c2, c3', c4, c5, c6, c7⟩ := hcb
            obtain ⟨d0, d1, d2, d3, d4, d5, d6, d7⟩ := hck
            go_wp2_with fail
            go_region
            all_goals
              go_wp2_with fail
              go_roundg (la.length + lb.length - (i + 1))
              case measure => have := A.out.1; omega
              case rel => exact ⟨i + 1, by omega, by omega, rfl, by first | exact HB.out.1 | exact HB.out.1.drew⟩
        · obtain rfl : i = la.length + lb.length := by omega
          have hbe := A.out.2
          have hwk2 := works_any wr (HW.out.1.below hbe (Nat.le_trans (by decide) h103)) (HW.out.2.below hbe (Nat.le_trans (by decide) h103))
          have HB := Lib.hid hbe
          clear hbe A hwk
          go_wp2_with fail
          refine hwk2.mono ?_
          rintro e w7 ⟨rfl, hb7⟩
          have H7 := Lib.hid (H3.out.1.trans ((HB.out.mono H3.out.1.size).trans (hb7.mono (Nat.le_trans H3.out.1.size HB.out.size))))
          clear hb7
          go_wp2_with fail
          go_ret
          exact ⟨rfl, H7.out⟩
end Go.Proofs.YtmkidbenndhhjaaDoor.Dx
