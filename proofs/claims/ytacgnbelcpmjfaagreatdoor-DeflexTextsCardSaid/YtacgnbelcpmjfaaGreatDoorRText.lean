/-
  WALKS: the document's text.
-/
import Derived.Test.YtacgnbelcpmjfaaGreatDoorRBase
import Derived.Test.YtacgnbelcpmjfaaGreatDoorText
import Derived.Deep.RegionWith
import Derived.BigRegion
set_option linter.unusedVariables false
set_option linter.unusedSimpArgs false
namespace Go.Proofs.YtacgnbelcpmjfaaGreatDoor.Dx
open Go.RowKit Go.Proofs Mx
def metAt (d : UInt8) (q : Nat) : Bool := (plainL.take q).contains d
def outAt (O : ByteArray) (d : UInt8) (q : Nat) : ByteArray := if metAt d q then O ++ ⟨#[meansB d]⟩ else O
theorem metAt_0 (d : UInt8) : metAt d 0 = false := rfl
theorem outAt_0 (O : ByteArray) (d : UInt8) : outAt O d 0 = O := rfl
theorem metAt_5 (d : UInt8) : metAt d 5 = plainL.contains d := rfl
theorem metAt_same (d : UInt8) (q : Nat) (c : UInt8) (hq : plainL[q]? = some c) (h : d ≠ c) : metAt d (q + 1) = metAt d q := by
  have hl : q < plainL.length := (List.getElem?_eq_some_iff.1 hq).1
  unfold metAt
  rw [List.take_succ_eq_append_getElem hl]
  have he : plainL[q] = c := by rw [List.getElem?_eq_getElem hl] at hq; injection hq
  rw [he]
  simp [h]
theorem outAt_same (O : ByteArray) (d : UInt8) (q : Nat) (c : UInt8) (hq : plainL[q]? = some c) (h : d ≠ c) : outAt O d (q + 1) = outAt O d q := by
  unfold outAt; rw [metAt_same d q c hq h]
theorem outAt_size (O : ByteArray) (d : UInt8) (q : Nat) : (outAt O d q).size ≤ O.size + 1 := by
  unfold outAt
  split
  · rw [ByteArray.size_append]; exact Nat.le_refl _
  · omega
def TextR (s : ByteArray) (k : Nat) (w : World) : Option (List UInt8 × Nat) → Ending → World → Prop
  | some (o, n), e, w' => e = .returned (.tuple #[.string ⟨o.toArray⟩, .int .i64 ((k + 1 + n : Nat) : Int), .bool true]) ∧ Below w.heap.size w w'
  | none, e, w' => e = .returned (.tuple #[.string ⟨#[]⟩, .int .i64 (k : Int), .bool false]) ∧ Below w.heap.size w w'
theorem TextR.no {s : ByteArray} {k : Nat} {w w' : World} {x : Option (List UInt8 × Nat)} (h : x = none) (hb : Below w.heap.size w w') : TextR s k w x (.returned (.tuple #[.string ⟨#[]⟩, .int .i64 (k : Int), .bool false])) w' := by
  subst h; exact ⟨rfl, hb⟩
theorem TextR.yes {s : ByteArray} {k n : Nat} {w w' : World} {x : Option (List UInt8 × Nat)} {o : List UInt8} {O : ByteArray} {j : Int} (h : x = some (o, n)) (ho : O.data.toList = o) (hj : j = ((k + 1 + n : Nat) : Int)) (hb : Below w.heap.size w w') : TextR s k w x (.returned (.tuple #[.string O, .int .i64 j, .bool true])) w' := by
  subst h; subst hj
  refine ⟨?_, hb⟩
  rw [str_eq O o ho]
theorem rhex_eq (b : UInt8) (x : Int) (h : hexI b = x) (w : World) :
    Calls Tryz.prog 59 #[.int .u8 (b.toNat : Int)] w fun e w' => e = .returned (.int .i64 x) ∧ w = w' := (h ▸ rhex_any b w).mono fun e w' ⟨h1, h2⟩ => ⟨h1, h2.symm⟩
theorem w64_nat (n : Nat) (h : n ≤ 500000000) : IntKind.i64.wrap (n : Int) = (n : Int) := by rw [IntKind.wrap_i64]; omega
theorem w64_16 (x : Int) (h0 : 0 ≤ x) (h1 : x ≤ 15) : IntKind.i64.wrap (16 * x) = 16 * x := by rw [IntKind.wrap_i64]; omega
theorem w64_16y (x y : Int) (h0 : 0 ≤ x) (h1 : x ≤ 15) (h2 : 0 ≤ y) (h3 : y ≤ 15) : IntKind.i64.wrap (16 * x + y) = 16 * x + y := by rw [IntKind.wrap_i64]; omega
theorem wz64 (z : UInt8) : IntKind.i64.wrap (z.toNat : Int) = (z.toNat : Int) := by have := z.toNat_lt; rw [IntKind.wrap_i64]; omega
theorem wz8 (z : UInt8) : IntKind.u8.wrap (z.toNat : Int) = (z.toNat : Int) := by have := z.toNat_lt; rw [IntKind.wrap_u8]; omega
theorem le_of_lt_size {a n : Nat} (h : a < n) (hn : n ≤ 400000000) : a ≤ 500000000 := by omega
theorem txt_step {x : Option (List UInt8 × Nat)} {l l' : List UInt8} {O : List UInt8} {a : Nat} {b : UInt8} {m : Nat} (h : x = (txt l).map fun p => (O ++ p.1, p.2 + a)) (hl : txt l = (txt l').map fun p => (b :: p.1, p.2 + m)) :
    x = (txt l').map fun p => ((O ++ [b]) ++ p.1, p.2 + (a + m)) := by
  rw [h, hl]
  cases txt l' with
  | none => rfl
  | some p => simp; omega
theorem txt_none {x : Option (List UInt8 × Nat)} {l : List UInt8} {O : List UInt8} {a : Nat} (h : x = (txt l).map fun p => (O ++ p.1, p.2 + a)) (hl : txt l = none) : x = none := by rw [h, hl]; rfl
theorem txt_esc_some {t : List UInt8} {b : UInt8} {n : Nat} (h : escF t = some (b, n)) : txt (92 :: t) = (txt (t.drop n)).map fun p => (b :: p.1, p.2 + (n + 1)) := by
  rw [txt_esc, h]; rfl
theorem txt_esc_none {t : List UInt8} (h : escF t = none) : txt (92 :: t) = none := by rw [txt_esc, h]
set_option maxRecDepth 100000 in
set_option maxHeartbeats 4000000 in
theorem rtext_any (s : ByteArray) (k : Nat) (hs : s.size ≤ 400000000) (hk : k < s.size) (w : World) :
    Calls Tryz.prog 44 #[.string s, .int .i64 (k : Int)] w (TextR s k w (txt (s.data.toList.drop (k + 1)))) := by
  obtain ⟨X, hX⟩ : ∃ X, txt (s.data.toList.drop (k + 1)) = X := ⟨_, rfl⟩
  rw [hX]
  go_enter Tryz.func44, Tryz.ntmps44
  go_wp2_with fail
  go_loopg [7, 8] (s.size - (k + 1)) (fun m vo v wr => ∃ (i : Nat) (O : ByteArray), k + 1 ≤ i ∧ i ≤ s.size ∧ m = s.size - i ∧ v = .int .i64 i ∧ vo = .string O ∧ O.size ≤ i ∧ Below w.heap.size w wr ∧ X = (txt (s.data.toList.drop i)).map (fun p => (O.data.toList ++ p.1, p.2 + (i - (k + 1)))))
  case atStart => exact ⟨k + 1, ⟨#[]⟩, Nat.le_refl _, by omega, rfl, rfl, rfl, Nat.zero_le _, Below.refl _ _, by rw [hX]; cases X <;> simp⟩
  case round =>
    obtain ⟨i, O, hki, hi, hm, rfl, rfl, hO, hb, hx⟩ := hrel
    have A := Lib.hid (And.intro hm (And.intro hb hx))
    clear hm hb hx hX
    by_cases hlt : i < s.size
    · obtain ⟨c, hc⟩ : ∃ c, s[i] = c := ⟨_, rfl⟩
      have HD := Lib.hid (show s.data.toList.drop i = c :: s.data.toList.drop (i + 1) by rw [drop_cons s i hlt, hc])
      have hso := slice_one s i hlt
      rw [hc] at hso
      have hlt' : (i : Int) < (s.size : Int) := by omega
      have hi0 : (0 : Int) ≤ (i : Int) := by omega
      have hi1 : (i : Int) + 1 ≤ (s.size : Int) := by omega
      by_cases h34 : c = 34
      · subst h34
        go_wp2_with fail
        go_ret3
        refine TextR.yes (o := O.data.toList ++ []) (n := 1 + (i - (k + 1))) ?_ (by simp) (by omega) A.out.2.1
        rw [A.out.2.2, HD.out, txt_quote]; rfl
      have n34 : ((c.toNat : Int) == 34) = false := u8_beq c 34 h34
      by_cases hbad : c.toNat < 32 ∨ 126 < c.toNat
      · have HN := Lib.hid (txt_none A.out.2.2 (by rw [HD.out]; exact txt_bad c _ hbad))
        have hbb : (c.toNat : Int) < 32 ∨ (¬ (c.toNat : Int) < 32 ∧ 126 < (c.toNat : Int)) := by omega
        clear hbad h34
        rcases hbb with q1 | ⟨q1, q2⟩
        all_goals
          go_wp2_with fail
          go_ret3
          exact TextR.no HN.out A.out.2.1
      have q1 : ¬ (c.toNat : Int) < 32 := by omega
      have q2 : ¬ 126 < (c.toNat : Int) := by omega
      by_cases h92 : c = 92
      · subst h92
        by_cases hl1 : i + 1 < s.size
        · obtain ⟨d, hd⟩ : ∃ d, s[i + 1] = d := ⟨_, rfl⟩
          have HD1 := Lib.hid (show s.data.toList.drop (i + 1) = d :: s.data.toList.drop (i + 2) by rw [drop_cons s (i + 1) hl1, hd])
          obtain ⟨j, hj⟩ : ∃ j : Nat, j = i + 1 := ⟨_, rfl⟩
          have hij : (i : Int) + 1 = (j : Int) := by omega
          have hjs : j < s.size := by omega
          have hdj : s[j]'hjs = d := by subst hj; exact hd
          have HJ := Lib.hid hj
          have g1 : (j : Int) < (s.size : Int) := by omega
          have g2 : ¬ (s.size : Int) ≤ (j : Int) := by omega
          have g0 : (0 : Int) ≤ (j : Int) := by omega
          clear h34 hbad hj hd hi1
          go_wp2_with fail
          go_loopg [7, 12, 13] 5 (fun m vo vm v wx => ∃ (q n : Nat), q ≤ 5 ∧ m = 5 - q ∧ v = .int .i64 q ∧ vm = .bool (metAt d q) ∧ vo = .string (outAt O d q) ∧ wx = wr.drewN n)
          case atStart => exact ⟨0, 0, by omega, rfl, rfl, by rw [metAt_0], by rw [outAt_0], rfl⟩
          case round =>
            obtain ⟨q, nd, hq, hm2, rfl, rfl, rfl, rfl⟩ := hrel
            have M := Lib.hid hm2
            have hosz := outAt_size O d q
            clear hm2
            rcases (show q = 0 ∨ q = 1 ∨ q = 2 ∨ q = 3 ∨ q = 4 ∨ q = 5 by omega) with rfl | rfl | rfl | rfl | rfl | rfl
            · have hxq : ((⟨#[110, 116, 114, 34, 92]⟩ : ByteArray)[0]'(by decide)) = 110 := rfl
              by_cases he : d = 110
              · subst he
                go_wp2_with fail
                go_quiet (fail)
                go_wp2_with fail
                go_roundg 4
                case measure => have := M.out; omega
                case rel => exact ⟨1, _, by omega, rfl, rfl, rfl, rfl, rfl⟩
              · have he' : ((d.toNat : Int) == 110) = false := u8_beq d 110 he
                have HE := Lib.hid (And.intro (metAt_same d 0 110 rfl he) (outAt_same O d 0 110 rfl he))
                clear he
                go_wp2_with fail
                go_quiet (fail)
                go_wp2_with fail
                go_roundg 4
                case measure => have := M.out; omega
                case rel => exact ⟨1, _, by omega, rfl, rfl, by rw [HE.out.1], by rw [HE.out.2], rfl⟩
            · have hxq : ((⟨#[110, 116, 114, 34, 92]⟩ : ByteArray)[1]'(by decide)) = 116 := rfl
              by_cases he : d = 116
              · subst he
                go_wp2_with fail
                go_quiet (fail)
                go_wp2_with fail
                go_roundg 3
                case measure => have := M.out; omega
                case rel => exact ⟨2, _, by omega, rfl, rfl, rfl, rfl, rfl⟩
              · have he' : ((d.toNat : Int) == 116) = false := u8_beq d 116 he
                have HE := Lib.hid (And.intro (metAt_same d 1 116 rfl he) (outAt_same O d 1 116 rfl he))
                clear he
                go_wp2_with fail
                go_quiet (fail)
                go_wp2_with fail
                go_roundg 3
                case measure => have := M.out; omega
                case rel => exact ⟨2, _, by omega, rfl, rfl, by rw [HE.out.1], by rw [HE.out.2], rfl⟩
            · have hxq : ((⟨#[110, 116, 114, 34, 92]⟩ : ByteArray)[2]'(by decide)) = 114 := rfl
              by_cases he : d = 114
              · subst he
                go_wp2_with fail
                go_quiet (fail)
                go_wp2_with fail
                go_roundg 2
                case measure => have := M.out; omega
                case rel => exact ⟨3, _, by omega, rfl, rfl, rfl, rfl, rfl⟩
              · have he' : ((d.toNat : Int) == 114) = false := u8_beq d 114 he
                have HE := Lib.hid (And.intro (metAt_same d 2 114 rfl he) (outAt_same O d 2 114 rfl he))
                clear he
                go_wp2_with fail
                go_quiet (fail)
                go_wp2_with fail
                go_roundg 2
                case measure => have := M.out; omega
                case rel => exact ⟨3, _, by omega, rfl, rfl, by rw [HE.out.1], by rw [HE.out.2], rfl⟩
            · have hxq : ((⟨#[110, 116, 114, 34, 92]⟩ : ByteArray)[3]'(by decide)) = 34 := rfl
              by_cases he : d = 34
              · subst he
                go_wp2_with fail
                go_quiet (fail)
                go_wp2_with fail
                go_roundg 1
                case measure => have := M.out; omega
                case rel => exact ⟨4, _, by omega, rfl, rfl, rfl, rfl, rfl⟩
              · have he' : ((d.toNat : Int) == 34) = false := u8_beq d 34 he
                have HE := Lib.hid (And.intro (metAt_same d 3 34 rfl he) (outAt_same O d 3 34 rfl he))
                clear he
                go_wp2_with fail
                go_quiet (fail)
                go_wp2_with fail
                go_roundg 1
                case measure => have := M.out; omega
                case rel => exact ⟨4, _, by omega, rfl, rfl, by rw [HE.out.1], by rw [HE.out.2], rfl⟩
            · have hxq : ((⟨#[110, 116, 114, 34, 92]⟩ : ByteArray)[4]'(by decide)) = 92 := rfl
              by_cases he : d = 92
              · subst he
                go_wp2_with fail
                go_quiet (fail)
                go_wp2_with fail
                go_roundg 0
                case measure => have := M.out; omega
                case rel => exact ⟨5, _, by omega, rfl, rfl, rfl, rfl, rfl⟩
              · have he' : ((d.toNat : Int) == 92) = false := u8_beq d 92 he
                have HE := Lib.hid (And.intro (metAt_same d 4 92 rfl he) (outAt_same O d 4 92 rfl he))
                clear he
                go_wp2_with fail
                go_quiet (fail)
                go_wp2_with fail
                go_roundg 0
                case measure => have := M.out; omega
                case rel => exact ⟨5, _, by omega, rfl, rfl, by rw [HE.out.1], by rw [HE.out.2], rfl⟩
            · rw [metAt_5]
              cases hp : plainL.contains d with
              | true =>
                have HT := Lib.hid (txt_step A.out.2.2 (l' := s.data.toList.drop (i + 2)) (b := meansB d) (m := 2) (by rw [HD.out, HD1.out]; exact txt_esc_some (escF_plain d _ hp)))
                have HO := Lib.hid (show outAt O d 5 = O ++ ⟨#[meansB d]⟩ by unfold outAt; rw [metAt_5, hp]; rfl)
                clear hp
                go_wp2_with fail
                go_roundg (s.size - (i + 2))
                case measure => have := A.out.1; omega
                case rel =>
                  refine ⟨i + 2, outAt O d 5, by omega, by omega, rfl, by have := HJ.out; congr 1; omega, rfl, by omega, below_drewN A.out.2.1 _, ?_⟩
                  rw [HT.out, HO.out, show (O ++ ⟨#[meansB d]⟩ : ByteArray).data.toList = O.data.toList ++ [meansB d] from str_app O _ [meansB d] rfl, show i - (k + 1) + 2 = i + 2 - (k + 1) by omega]
              | false =>
                have HO := Lib.hid (show outAt O d 5 = O by unfold outAt; rw [metAt_5, hp]; rfl)
                by_cases h120 : d = 120
                · subst h120
                  by_cases h3 : i + 3 < s.size
                  · obtain ⟨a, ha⟩ : ∃ a, s[i + 2] = a := ⟨_, rfl⟩
                    obtain ⟨b, hbb⟩ : ∃ b, s[i + 3] = b := ⟨_, rfl⟩
                    have l2 : i + 2 < s.size := by omega
                    have H4 := Lib.hid (And.intro (show k + 1 ≤ i + 4 by omega) (And.intro (show i + 4 ≤ s.size by omega) (And.intro (show s.size - (i + 4) < s.size - i by omega) (And.intro (show ∀ z : UInt8, (O ++ ⟨#[z]⟩ : ByteArray).size ≤ i + 4 from fun z => by rw [ByteArray.size_append]; show O.size + 1 ≤ _; omega) (show i - (k + 1) + 4 = i + 4 - (k + 1) by omega)))))
                    have HD2 := Lib.hid (show s.data.toList.drop (i + 2) = a :: b :: s.data.toList.drop (i + 4) by rw [drop_cons s (i + 2) l2, drop_cons s (i + 3) h3, ha, hbb])
                    have HE := Lib.hid (show escF (120 :: s.data.toList.drop (i + 2)) = if 0 ≤ hexI a ∧ 0 ≤ hexI b then some (UInt8.ofNat (16 * hexI a + hexI b).toNat, 3) else none by
                      rw [HD2.out, escF, if_neg (by rw [hp]; decide), if_pos rfl]; rfl)
                    have ba := hexI_le a
                    have bb := hexI_le b
                    obtain ⟨x, hx⟩ : ∃ x, hexI a = x := ⟨_, rfl⟩
                    obtain ⟨y, hy⟩ : ∃ y, hexI b = y := ⟨_, rfl⟩
                    rw [hx] at HE ba
                    rw [hy] at HE bb
                    obtain ⟨ba1, ba2⟩ := ba
                    obtain ⟨bb1, bb2⟩ := bb
                    have hjj := HJ.out
                    have g3 : ¬ (s.size : Int) - (j : Int) < 3 := by omega
                    obtain ⟨a1, e1⟩ : ∃ a1 : Nat, a1 = j + 1 := ⟨_, rfl⟩
                    obtain ⟨a2, e2⟩ : ∃ a2 : Nat, a2 = j + 2 := ⟨_, rfl⟩
                    have r1 : (j : Int) + 1 = (a1 : Int) := by omega
                    have r2 : (j : Int) + 2 = (a2 : Int) := by omega
                    have g4 : (a1 : Int) < (s.size : Int) := by omega
                    have g5 : (a2 : Int) < (s.size : Int) := by omega
                    have g6 : (0 : Int) ≤ (a1 : Int) := by omega
                    have g7 : (0 : Int) ≤ (a2 : Int) := by omega
                    have hj1 : a1 < s.size := by omega
                    have hj2 : a2 < s.size := by omega
                    have ha' : s[a1]'hj1 = a := by subst e1; subst hjj; exact ha
                    have hb' : s[a2]'hj2 = b := by subst e2; subst hjj; exact hbb
                    have HE2 := Lib.hid (show (a2 : Int) + 1 = ((i + 4 : Nat) : Int) by omega)
                    clear ha hbb hjj e1 e2
                    clear hp
                    by_cases x0 : 0 ≤ x
                    · have x0' : ¬ x < 0 := by omega
                      by_cases y0 : 0 ≤ y
                      · have y0' : ¬ y < 0 := by omega
                        obtain ⟨z, hz⟩ : ∃ z, UInt8.ofNat (16 * x + y).toNat = z := ⟨_, rfl⟩
                        have hzi : 16 * x + y = (z.toNat : Int) := by rw [← hz]; simp; omega
                        have hzw : IntKind.u8.wrap (16 * x + y) = (z.toNat : Int) := by rw [IntKind.wrap_u8, hzi]; have := z.toNat_lt; omega
                        have HT := Lib.hid (txt_step A.out.2.2 (l' := s.data.toList.drop (i + 4)) (b := z) (m := 4) (by
                          rw [HD.out, HD1.out, txt_esc_some (by rw [HE.out, if_pos ⟨x0, y0⟩, hz]), List.drop_succ_cons, HD2.out]; rfl))
                        go_wp2_with (go_at_call 59; refine (rhex_eq _ _ (by assumption) _).mono ?_; rintro e w' ⟨rfl, rfl⟩)
                        have hcv : ∀ q, (convert 56 9 (.slice (some ⟨wr.heap.size, 0, none⟩) 1 1)).run Tryz.prog ((wr.drewN q).alloc (.cells #[.int .u8 (z.toNat : Int)] 5)) = .ok (.string ⟨#[z]⟩) ((wr.drewN q).alloc (.cells #[.int .u8 (z.toNat : Int)] 5)) := fun q => conv_one _ _ z (Blk.new_ rfl _ _)
                        have hz1 : IntKind.i64.wrap (z.toNat : Int) = (z.toNat : Int) := wz64 z
                        have hz2 : IntKind.u8.wrap (z.toNat : Int) = (z.toNat : Int) := wz8 z
                        rw [HO.out]
                        have hw3 : IntKind.i64.wrap (16 * x) = 16 * x := w64_16 x x0 ba2
                        have hw4 : IntKind.i64.wrap (16 * x + y) = 16 * x + y := w64_16y x y x0 ba2 y0 bb2
                        have hw5 : IntKind.i64.wrap (a1 : Int) = (a1 : Int) := w64_nat a1 (le_of_lt_size hj1 hs)
                        have hw6 : IntKind.i64.wrap (a2 : Int) = (a2 : Int) := w64_nat a2 (le_of_lt_size hj2 hs)
                        go_region_with (go_at_call 59; refine (rhex_eq _ _ (by assumption) _).mono ?_; rintro e w' ⟨rfl, rfl⟩)
                        all_goals
                          go_wp2_with fail
                          go_roundg (s.size - (i + 4))
                          case measure => exact Nat.lt_of_lt_of_eq H4.out.2.2.1 A.out.1.symm
                          case rel =>
                            refine ⟨i + 4, O ++ ⟨#[z]⟩, H4.out.1, H4.out.2.1, rfl, by rw [← HE2.out], rfl, H4.out.2.2.2.1 z, ?_, ?_⟩
                            · first | exact (below_drewN A.out.2.1 _).alloc A.out.2.1.size _ | exact ((below_drewN A.out.2.1 _).alloc A.out.2.1.size _).drew
                            · rw [HT.out, show (O ++ ⟨#[z]⟩ : ByteArray).data.toList = O.data.toList ++ [z] from str_app O _ [z] rfl, H4.out.2.2.2.2]
                      · have y0' : y < 0 := by omega
                        have HN := Lib.hid (txt_none A.out.2.2 (by rw [HD.out, HD1.out]; apply txt_esc_none; rw [HE.out, if_neg (fun h => y0 h.2)]))
                        go_wp2_with (go_at_call 59; refine (rhex_eq _ _ (by assumption) _).mono ?_; rintro e w' ⟨rfl, rfl⟩)
                        go_ret3
                        exact TextR.no HN.out (below_drewN A.out.2.1 _)
                    · have x0' : x < 0 := by omega
                      have HN := Lib.hid (txt_none A.out.2.2 (by rw [HD.out, HD1.out]; apply txt_esc_none; rw [HE.out, if_neg (fun h => x0 h.1)]))
                      go_wp2_with (go_at_call 59; refine (rhex_eq _ _ (by assumption) _).mono ?_; rintro e w' ⟨rfl, rfl⟩)
                      go_ret3
                      exact TextR.no HN.out (below_drewN A.out.2.1 _)
                  · have g3 : (s.size : Int) - (j : Int) < 3 := by have := HJ.out; omega
                    have HN := Lib.hid (txt_none A.out.2.2 (by
                      rw [HD.out, HD1.out]
                      apply txt_esc_none
                      rw [escF, if_neg (by rw [hp]; decide), if_pos rfl]
                      have hl : (s.data.toList.drop (i + 2)).length < 2 := by rw [List.length_drop, ← Lib.size_eq]; omega
                      generalize s.data.toList.drop (i + 2) = u at hl
                      match u, hl with
                      | [], _ => rfl
                      | [_], _ => rfl))
                    clear hp
                    go_wp2_with fail
                    go_ret3
                    exact TextR.no HN.out (below_drewN A.out.2.1 _)
                · have h120' : ((d.toNat : Int) != 120) = true := by have h := u8_beq d 120 h120; show (!((d.toNat : Int) == ((120 : UInt8).toNat : Int))) = true; rw [h]; rfl
                  have HN := Lib.hid (txt_none A.out.2.2 (by
                    rw [HD.out, HD1.out]
                    apply txt_esc_none
                    rw [escF, if_neg (by rw [hp]; decide), if_neg h120]))
                  clear hp h120
                  go_wp2_with fail
                  go_ret3
                  exact TextR.no HN.out (below_drewN A.out.2.1 _)
        · have g2 : (s.size : Int) ≤ (i : Int) + 1 := by omega
          have HN := Lib.hid (txt_none A.out.2.2 (by rw [HD.out, drop_all s (i + 1) (by omega)]; rfl))
          go_wp2_with fail
          go_ret3
          exact TextR.no HN.out A.out.2.1
      · have n92 : ((c.toNat : Int) == 92) = false := u8_beq c 92 h92
        have HT := Lib.hid (txt_step A.out.2.2 (l' := s.data.toList.drop (i + 1)) (b := c) (m := 1) (by rw [HD.out]; exact txt_plain c _ h34 hbad h92))
        clear h34 h92 hbad
        go_wp2_with fail
        go_roundg (s.size - (i + 1))
        case measure => have := A.out.1; omega
        case rel =>
          refine ⟨i + 1, O ++ ⟨#[c]⟩, by omega, by omega, rfl, rfl, rfl, by rw [ByteArray.size_append]; show O.size + 1 ≤ _; omega, A.out.2.1, ?_⟩
          rw [HT.out, show (O ++ ⟨#[c]⟩ : ByteArray).data.toList = O.data.toList ++ [c] from str_app O _ [c] rfl, show i - (k + 1) + 1 = i + 1 - (k + 1) by omega]
    · obtain rfl : i = s.size := by omega
      have HN := Lib.hid (txt_none A.out.2.2 (by rw [drop_all s _ (Nat.le_refl _)]; rfl))
      go_wp2_with fail
      go_ret3
      exact TextR.no HN.out A.out.2.1
end Go.Proofs.YtacgnbelcpmjfaaGreatDoor.Dx
