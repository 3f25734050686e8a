/-
  WALKS of the reader: escape.
-/
import Derived.Test.YtacgnbelcpmjfaaGreatDoorParse
import Derived.Test.YtacgnbelcpmjfaaGreatDoorGap
import Derived.Test.YtacgnbelcpmjfaaGreatDoorEnv
import Derived.StillTailTactics
import Derived.Deep.RegionHeld3
set_option linter.unusedVariables false
set_option linter.unusedSimpArgs false
namespace Go.Proofs.YtacgnbelcpmjfaaGreatDoor.Dx
open Go.RowKit Go.Proofs Mx

theorem puI_ok (t : ByteArray) (h2 : t.size = 2) (x : Int) (h : pu 0 t.data.toList = some x) (w : World) :
    Calls Tryz.prog 99 #[.string t, .int .i64 16, .int .i64 8] w fun e w' => e = .returned (.tuple #[.int .u64 x, .nilIface]) ∧ Below w.heap.size w w' := by
  have hI := pu16 t h2 w
  rw [h] at hI
  have hI : Calls Tryz.prog 104 #[.string t, .int .i64 16, .int .i64 8] w fun e w' => e = .returned (.tuple #[.int .u64 x, .nilIface]) ∧ w' = Lib.bytesWorld w 5 t := hI
  clear h
  go_enter Tryz.func99, Tryz.ntmps99
  go_wp2_with (go_at_call 104; refine hI.mono ?_; rintro e W1 ⟨rfl, rfl⟩)
  go_ret2
  exact ⟨rfl, Lib.bytesWorld_below _ _ _⟩
theorem puI_none (t : ByteArray) (h2 : t.size = 2) (h : pu 0 t.data.toList = none) (w : World) (E : Env w) :
    Calls Tryz.prog 99 #[.string t, .int .i64 16, .int .i64 8] w fun e w' => (∃ N, e = .returned (.tuple #[.int .u64 0, .iface 136 (.pointer (some ⟨N, 0, none⟩))])) ∧ Below w.heap.size w w' := by
  have hI := pu16 t h2 w
  rw [h] at hI
  have hI : Calls Tryz.prog 104 #[.string t, .int .i64 16, .int .i64 8] w fun e w' => e = .returned (.tuple #[.int .u64 0, .iface 133 (.int .i64 2)]) ∧ w' = Lib.bytesWorld w 5 t := hI
  clear h
  go_enter Tryz.func99, Tryz.ntmps99
  have hb1 : Below w.heap.size w (Lib.bytesWorld w 5 t) := Lib.bytesWorld_below _ _ _
  obtain ⟨et, ep, hv⟩ := (E.below hb1 (by have := E.big; omega)).synt
  go_wp2_with (go_at_call 104; refine hI.mono ?_; rintro e W1 ⟨rfl, rfl⟩)
  refine (Tryz.strconv_toError_syntax ⟨#[80, 97, 114, 115, 101, 85, 105, 110, 116]⟩ t 16 8 _ _ (by omega) hv (Or.inr ⟨et, ep, rfl⟩)).mono ?_
  rintro e W2 ⟨N, rfl, h1, h2', h3⟩
  go_wp2
  go_ret2
  exact ⟨⟨N, rfl⟩, hb1.trans (h3.mono hb1.size)⟩

/-- What stands behind a backslash: the byte that is meant, and how many bytes tell it. -/
def plainL : List UInt8 := [110, 116, 114, 34, 92]
def meansB (c : UInt8) : UInt8 := if c = 110 then 10 else if c = 116 then 9 else if c = 114 then 13 else c
def escH : List UInt8 → Option (UInt8 × Nat)
  | a :: b :: _ => if 0 ≤ hexI a ∧ 0 ≤ hexI b then some (UInt8.ofNat (16 * hexI a + hexI b).toNat, 3) else none
  | _ => none
def escF : List UInt8 → Option (UInt8 × Nat)
  | [] => none
  | c :: t => if plainL.contains c then some (meansB c, 1)
      else if c = 120 then escH t else none
theorem plain_none (c : UInt8) (h : plainL.contains c = false) : Lib.indexByte [110, 116, 114, 34, 92] c = -1 := by
  revert h
  exact all_bytes (p := fun c => plainL.contains c = false → Lib.indexByte [110, 116, 114, 34, 92] c = -1) (by decide +kernel) c
theorem plain_some (c : UInt8) (h : plainL.contains c = true) : c = 110 ∨ c = 116 ∨ c = 114 ∨ c = 34 ∨ c = 92 := by
  revert h
  exact all_bytes (p := fun c => plainL.contains c = true → c = 110 ∨ c = 116 ∨ c = 114 ∨ c = 34 ∨ c = 92) (by decide +kernel) c
theorem plain_ix (c : UInt8) (h : plainL.contains c = true) : 0 ≤ Lib.indexByte [110, 116, 114, 34, 92] c ∧ Lib.indexByte [110, 116, 114, 34, 92] c < 5 := by
  rcases plain_some c h with rfl | rfl | rfl | rfl | rfl <;> decide
theorem plain_means (c : UInt8) (h : plainL.contains c = true) (hb : (Lib.indexByte [110, 116, 114, 34, 92] c).toNat < (⟨#[10, 9, 13, 34, 92]⟩ : ByteArray).size) :
    (⟨#[10, 9, 13, 34, 92]⟩ : ByteArray)[(Lib.indexByte [110, 116, 114, 34, 92] c).toNat]'hb = meansB c := by
  rcases plain_some c h with rfl | rfl | rfl | rfl | rfl <;> rfl
theorem esc_tuple {a b : Int} (h : a = b) {x y : Bool} (k : x = y) : Ending.returned (.tuple #[.int .u8 a, .bool x]) = .returned (.tuple #[.int .u8 b, .bool y]) := by rw [h, k]
theorem keepR {w W w2 : World} {g : Nat} {s : ByteArray} {k : Nat} {v : Int} (hb : Below W.heap.size W w2)
    (h : W.cell? ⟨g, 0, none⟩ = some (.string s) ∧ W.cell? ⟨g, 1, none⟩ = some (.int .i64 v) ∧ Rd W g s k ∧ w.grownBy W (some g)) :
    w2.cell? ⟨g, 0, none⟩ = some (.string s) ∧ w2.cell? ⟨g, 1, none⟩ = some (.int .i64 v) ∧ Rd w2 g s k ∧ w.grownBy w2 (some g) :=
  ⟨(hb.cell (p := ⟨g, 0, none⟩) h.2.2.1.lt).trans h.1, (hb.cell (p := ⟨g, 1, none⟩) h.2.2.1.lt).trans h.2.1, h.2.2.1.below hb h.2.2.1.lt, grown_below h.2.2.2 hb⟩
def EscOut (s : ByteArray) (k g : Nat) (w : World) : Option (UInt8 × Nat) → Ending → World → Prop
  | some (b, n), e, w' => e = .returned (.tuple #[.int .u8 (b.toNat : Int), .bool true]) ∧ Rd w' g s (k + n) ∧ w.grownBy w' (some g)
  | none, e, w' => e = .returned (.tuple #[.int .u8 0, .bool false]) ∧ w.grownBy w' (some g)

set_option maxRecDepth 100000 in
set_option maxHeartbeats 1000000 in
theorem escape_any (g : Nat) (s : ByteArray) (k : Nat) (w : World) (hs : s.size ≤ 4000000000) (hk : k < s.size) (hR : Rd w g s k) (E : Env w) (hg6 : LB ≤ g) :
    Calls Tryz.prog 87 #[.pointer (some ⟨g, 0, none⟩)] w (EscOut s k g w (escF (s.data.toList.drop (k + 1)))) := by
  have hR1 : Rd (w.setCell ⟨g, 1, none⟩ (.int .i64 ((k : Int) + 1))) g s (k + 1) := Rd.at_ hR (by omega)
  have hG1 : w.grownBy (w.setCell ⟨g, 1, none⟩ (.int .i64 ((k : Int) + 1))) (some g) := grown_set (grown_refl _ _) rfl _
  obtain ⟨c0, c1, cf⟩ := hR.facts2
  by_cases hlt : k + 1 < s.size
  · have hd := drop_cons s (k + 1) hlt
    obtain ⟨c, hc⟩ : ∃ c, s[k + 1] = c := ⟨_, rfl⟩
    rw [hc] at hd
    rw [hd, escF]
    obtain ⟨w1, hw1⟩ : ∃ w1, w.setCell ⟨g, 1, none⟩ (.int .i64 ((k : Int) + 1)) = w1 := ⟨_, rfl⟩
    have hk0 : (0 : Int) ≤ (k : Int) + 1 := by omega
    have hk1 : (k : Int) + 1 < (s.size : Int) := by omega
    have hne : ((k : Int) + 1 == (s.size : Int)) = false := by simp; omega
    have hcn : (c.toNat : Int).toNat.toUInt8 = c := by simp
    have hkt : ((k : Int) + 1).toNat = k + 1 := by omega
    have HE := Lib.hid (And.intro hR1 hG1)
    have hix := Tryz.strings_IndexByte ⟨#[110, 116, 114, 34, 92]⟩ (c.toNat : Int)
    rw [hcn] at hix
    have HI := Lib.hid hix
    clear hix hcn hd hR1 hG1
    rw [hw1] at HE
    obtain ⟨d0, d1, df⟩ := HE.out.1.facts2
    by_cases hp : plainL.contains c = true
    · rw [if_pos hp]
      obtain ⟨i0, i1⟩ := plain_ix c hp
      have HP := Lib.hid hp
      clear hp
      go_enter Tryz.func87, Tryz.ntmps87
      go_wp2_with fail
      go_quiet (fail)
      go_wp2
      go_quiet ((first | (go_at_call 50; refine (HI.out _).mono ?_; rintro e w' ⟨rfl, rfl⟩; exact ⟨rfl, _, rfl⟩)))
      go_wp2
      go_ret2
      refine ⟨esc_tuple ?_ rfl, HE.out.1.drewN _, grown_drewN HE.out.2 _⟩
      rw [plain_means c HP.out]
    · rw [if_neg hp]
      have i0 : Lib.indexByte [110, 116, 114, 34, 92] c = -1 := plain_none c (by simpa using hp)
      rw [show (⟨#[110, 116, 114, 34, 92]⟩ : ByteArray).data.toList = [110, 116, 114, 34, 92] from rfl, i0] at HI
      clear hp i0
      by_cases hx : c = 120
      · rw [if_pos hx]
        have hcx : (c.toNat : Int) = 120 := by rw [hx]; rfl
        rw [hcx] at HI
        by_cases h3 : s.size < k + 4
        · have hH : escH (s.data.toList.drop (k + 1 + 1)) = none := by
            have hl : (s.data.toList.drop (k + 1 + 1)).length = s.size - (k + 2) := by rw [List.length_drop, Array.length_toList]; rfl
            match hm : s.data.toList.drop (k + 1 + 1) with
            | [] => rfl
            | [_] => rfl
            | a :: b :: t => rw [hm] at hl; simp at hl; omega
          rw [hH]
          have hd3 : decide ((s.size : Int) - ((k : Int) + 1) < 3) = true := by simp; omega
          clear hH h3
          go_enter Tryz.func87, Tryz.ntmps87
          go_wp2_with fail
          go_quiet (fail)
          go_wp2
          go_quiet ((first | (go_at_call 50; refine (HI.out _).mono ?_; rintro e w' ⟨rfl, rfl⟩; exact ⟨rfl, _, rfl⟩)))
          go_wp2
          go_quiet (fail)
          go_wp2
          go_ret2
          exact ⟨rfl, grown_drewN (grown_drewN HE.out.2 _) _⟩
        · have h4 : k + 4 ≤ s.size := by omega
          have hd3 : decide ((s.size : Int) - ((k : Int) + 1) < 3) = false := by simp; omega
          obtain ⟨a, ha⟩ : ∃ a, s[k + 2] = a := ⟨_, rfl⟩
          obtain ⟨b, hb⟩ : ∃ b, s[k + 3] = b := ⟨_, rfl⟩
          have hda : s.data.toList.drop (k + 1 + 1) = a :: b :: s.data.toList.drop (k + 4) := by
            rw [drop_cons s (k + 2) (by omega), drop_cons s (k + 3) (by omega), ha, hb]
          rw [hda, escH]
          obtain ⟨t, ht⟩ : ∃ t, s.extract (k + 2) (k + 4) = t := ⟨_, rfl⟩
          have ht2 : t.size = 2 := by rw [← ht]; simp; omega
          have htl : t.data.toList = [a, b] := by
            rw [← ht, ByteArray.data_extract, Array.toList_extract, List.extract_eq_take_drop, show s.data.toList.drop (k + 2) = _ from hda, show k + 4 - (k + 2) = 2 by omega]
            rfl
          obtain ⟨lo, hlo⟩ : ∃ lo : Int, (k : Int) + 1 + 1 = lo := ⟨_, rfl⟩
          obtain ⟨hi, hhi⟩ : ∃ hi : Int, (k : Int) + 1 + 3 = hi := ⟨_, rfl⟩
          have hjt : s.extract lo.toNat hi.toNat = t := by rw [← ht]; congr 1 <;> omega
          have hj0 : (0 : Int) ≤ lo := by omega
          have hj1 : lo ≤ hi := by omega
          have hj2 : hi ≤ (s.size : Int) := by omega
          have hwl : IntKind.i64.wrap ((k : Int) + 1 + 1) = lo := by rw [IntKind.wrap_i64] <;> omega
          have hwh : IntKind.i64.wrap ((k : Int) + 1 + 3) = hi := by rw [IntKind.wrap_i64] <;> omega
          clear hlo hhi
          clear ha hb hda ht h3 h4
          by_cases hh : 0 ≤ hexI a ∧ 0 ≤ hexI b
          · rw [if_pos hh]
            have hpu : pu 0 t.data.toList = some (16 * hexI a + hexI b) := by
              rw [htl, pu, if_neg (by omega), pu, if_neg (by omega), pu]
              simp
            have HC := Lib.hid (puI_ok t ht2 _ hpu)
            have ha15 := hexI_le a
            have hb15 := hexI_le b
            obtain ⟨x, hx⟩ : ∃ x, 16 * hexI a + hexI b = x := ⟨_, rfl⟩
            rw [hx] at HC ⊢
            have x0 : 0 ≤ x := by omega
            have x1 : x ≤ 255 := by omega
            have HX := Lib.hid (show ((UInt8.ofNat x.toNat).toNat : Int) = x by simp; omega)
            clear hpu hx ha15 hb15 hh htl ht2
            go_enter Tryz.func87, Tryz.ntmps87
            go_wp2_with fail
            go_quiet (fail)
            go_wp2
            go_quiet ((first | (go_at_call 50; refine (HI.out _).mono ?_; rintro e w' ⟨rfl, rfl⟩; exact ⟨rfl, _, rfl⟩)))
            go_wp2
            go_quiet (fail)
            go_wp2
            go_region_held3 (fun W => W.cell? ⟨g, 0, none⟩ = some (.string s) ∧ W.cell? ⟨g, 1, none⟩ = some (.int .i64 ((k : Int) + 1)) ∧ Rd W g s (k + 1) ∧ w.grownBy W (some g)) (first | assumption | exact ⟨by assumption, by assumption, HE.out.1, HE.out.2.os, HE.out.2.tape, HE.out.2.output, HE.out.2.size, HE.out.2.block⟩ | go_keep)
              (first | (go_at_call 99; refine (HC.out _).mono ?_; rintro e w2 ⟨rfl, hb2⟩; have q := keepR (w := w) (g := g) (s := s) (k := k + 1) (v := (k : Int) + 1) hb2 ⟨by assumption, by assumption, HE.out.1, HE.out.2.os, HE.out.2.tape, HE.out.2.output, HE.out.2.size, HE.out.2.block⟩))
            obtain ⟨e0, e1, eR, eG⟩ := q
            have ef := eR.frozen
            have HQ := Lib.hid (And.intro eR eG)
            clear eR eG
            go_wp2_with fail
            go_quiet (fail)
            go_wp2
            go_ret2
            refine ⟨esc_tuple HX.out.symm rfl, ?_, ?_⟩
            · exact Rd.at_ HQ.out.1 (by omega)
            · exact grown_drewN (grown_set HQ.out.2 rfl _) _
          · rw [if_neg hh]
            have hpu : pu 0 t.data.toList = none := by
              rw [htl, pu]
              by_cases h1 : hexI a < 0
              · rw [if_pos h1]
              · rw [if_neg h1, pu, if_pos (by omega)]
            have HC := Lib.hid (puI_none t ht2 hpu)
            have HE6 := Lib.hid (And.intro E hg6)
            clear hpu hh htl ht2 hg6
            go_enter Tryz.func87, Tryz.ntmps87
            go_wp2_with fail
            go_quiet (fail)
            go_wp2
            go_quiet ((first | (go_at_call 50; refine (HI.out _).mono ?_; rintro e w' ⟨rfl, rfl⟩; exact ⟨rfl, _, rfl⟩)))
            go_wp2
            go_quiet (fail)
            go_wp2
            go_region_held3 (fun W => W.cell? ⟨g, 0, none⟩ = some (.string s) ∧ W.cell? ⟨g, 1, none⟩ = some (.int .i64 ((k : Int) + 1)) ∧ Rd W g s (k + 1) ∧ w.grownBy W (some g)) (first | assumption | exact ⟨by assumption, by assumption, HE.out.1, HE.out.2.os, HE.out.2.tape, HE.out.2.output, HE.out.2.size, HE.out.2.block⟩ | go_keep)
              (first | (go_at_call 99; refine (HC.out _ (Env.drewN (Env.grown HE6.out.1 HE.out.2 HE6.out.2) _)).mono ?_; rintro e w2 ⟨⟨N, rfl⟩, hb2⟩; have q := keepR (w := w) (g := g) (s := s) (k := k + 1) (v := (k : Int) + 1) hb2 ⟨by assumption, by assumption, HE.out.1, HE.out.2.os, HE.out.2.tape, HE.out.2.output, HE.out.2.size, HE.out.2.block⟩))
            obtain ⟨e0, e1, eR, eG⟩ := q
            have ef := eR.frozen
            have HQ := Lib.hid (And.intro eR eG)
            clear eR eG
            go_wp2_with fail
            go_quiet (fail)
            go_wp2
            go_ret2
            exact ⟨rfl, grown_drewN (grown_set HQ.out.2 rfl _) _⟩
      · rw [if_neg hx]
        have hcx : ((c.toNat : Int) == 120) = false := by
          simp only [beq_eq_false_iff_ne, ne_eq]
          intro h
          exact hx (UInt8.toNat_inj.1 (show c.toNat = (120 : UInt8).toNat by have : (120 : UInt8).toNat = 120 := rfl; omega))
        have hcy : (((c.toNat : Int)) != 120) = true := by simp only [bne, hcx]; rfl
        clear hx
        go_enter Tryz.func87, Tryz.ntmps87
        go_wp2_with fail
        go_quiet (fail)
        go_wp2
        go_quiet ((first | (go_at_call 50; refine (HI.out _).mono ?_; rintro e w' ⟨rfl, rfl⟩; exact ⟨rfl, _, rfl⟩)))
        go_wp2
        go_quiet (fail)
        go_wp2
        go_ret2
        exact ⟨rfl, grown_drewN (grown_drewN HE.out.2 _) _⟩
  · have hks : (s.size : Int) = (k : Int) + 1 := by omega
    rw [drop_all s (k + 1) (by omega), escF]
    obtain ⟨w1, hw1⟩ : ∃ w1, w.setCell ⟨g, 1, none⟩ (.int .i64 ((k : Int) + 1)) = w1 := ⟨_, rfl⟩
    rw [hw1] at hR1 hG1
    have HE := Lib.hid (And.intro hR1 hG1)
    clear hR1 hG1
    obtain ⟨d0, d1, df⟩ := HE.out.1.facts2
    have hne : (((k : Int) + 1) == (s.size : Int)) = true := by simp; omega
    go_enter Tryz.func87, Tryz.ntmps87
    go_wp2_with fail
    go_quiet (fail)
    go_wp2
    go_ret2
    exact ⟨rfl, grown_drewN HE.out.2 _⟩
end Go.Proofs.YtacgnbelcpmjfaaGreatDoor.Dx
