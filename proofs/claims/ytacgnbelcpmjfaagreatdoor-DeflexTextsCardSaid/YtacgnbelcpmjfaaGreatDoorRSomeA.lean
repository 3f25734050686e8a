/-
  WALKS: the document's Word, whole.
  WALKS: the document's Some, Lex.
-/
import Derived.Test.YtacgnbelcpmjfaaGreatDoorRWordC
import Derived.Test.YtacgnbelcpmjfaaGreatDoorRWordL
import Derived.Test.YtacgnbelcpmjfaaGreatDoorRWordD0
import Derived.Test.YtacgnbelcpmjfaaGreatDoorRWordD1
import Derived.Test.YtacgnbelcpmjfaaGreatDoorPrintA
set_option linter.unusedVariables false
namespace Go.Proofs.YtacgnbelcpmjfaaGreatDoor.Dx
open Go.RowKit Go.Proofs Mx
/-- The word that begins at a place, or that none does. -/
theorem rword_any (s : ByteArray) (k : Nat) (hs : s.size ≤ 400000000) (hk : k < s.size) (w : World) :
    Calls Tryz.prog 20 #[.string s, .int .i64 (k : Int)] w (WordR k w (wordF (s.data.toList.drop k))) := by
  have h := classI_cases (s[k].toNat : Int) _ (sign_index s[k]) sign_range
  rcases h with h | h | h | h | h | h
  · exact rword_letter s k hs hk _ rfl h.1 w
  · by_cases h48 : s[k] = 48
    · exact rword_zero s k hs hk _ rfl h.1 h48 w
    · exact rword_digits s k hs hk _ rfl h.1 h48 w
  · exact rword_quote s k hs hk _ rfl h.1 w
  · exact rword_bracket s k hs hk _ rfl h.1 w
  · exact rword_sign s k hs hk _ rfl h.1 w
  · exact rword_other s k hs hk _ rfl h.1 w
end Go.Proofs.YtacgnbelcpmjfaaGreatDoor.Dx
set_option linter.unusedVariables false
set_option linter.unusedSimpArgs false
namespace Go.Proofs.YtacgnbelcpmjfaaGreatDoor.Dx
open Go.RowKit Go.Proofs Mx Bx
/-- The words so far. -/
structure SM (w wr : World) (ws : List (Nat × Wd)) (v : Value) : Prop where
  own : wr.ownsRow w.heap.size 35 8 v ws.length (wcells ws)
  bel : Below w.heap.size w wr
theorem SM.below {w wr w2 : World} {ws : List (Nat × Wd)} {v : Value} (h : SM w wr ws v) (hb : Below wr.heap.size wr w2) : SM w w2 ws v :=
  ⟨row_below h.own hb, h.bel.trans (hb.mono h.bel.size)⟩
theorem SM.append {w wr w2 : World} {ws : List (Nat × Wd)} {v v' : Value} {p : Nat} {x : Wd} {o1 o2 : Obj} (h : SM w wr ws v)
    (hown : w2.ownsRow w.heap.size 35 8 v' (ws.length + 1) (wcells ws ++ (wdC (p : Int) x).toList)) (hgrow : ((wr.alloc o1).alloc o2).grownBy w2 v.ownBlock) : SM w w2 (ws ++ [(p, x)]) v' := by
  have hne : ∀ b, v.ownBlock = some b → w.heap.size ≤ b := fun b hb => (h.own.lt b hb).1
  refine ⟨?_, ((h.bel.alloc h.bel.size o1).alloc (by have := h.bel.size; simp; omega) o2).grown hgrow (by have := h.bel.size; simp; omega) (fun k hk => hne k hk)⟩
  rw [wcells_append] at hown
  simpa using hown
theorem SM.no {w wr : World} {ws : List (Nat × Wd)} {v : Value} (h : SM w wr ws v) (n : Nat) : SM w (wr.drewN n) ws v :=
  ⟨row_kept (row := none) h.own ⟨rfl, rfl, rfl, Nat.le_refl _, fun _ _ _ => rfl⟩ (fun r e => by cases e), Mx.below_drewN h.bel n⟩
theorem readR_long (l : List UInt8) (h : 1048576 < l.length) : readR l = ([], 0, 3) := by rw [readR, if_pos h]
theorem readR_ok (l : List UInt8) (h : ¬ 1048576 < l.length) (ws : List (Nat × Wd)) (hl : lexF 0 l = (ws, none)) : readR l = (ws, 0, 0) := by rw [readR, if_neg h, hl]
theorem readR_no (l : List UInt8) (h : ¬ 1048576 < l.length) (ws : List (Nat × Wd)) (p : Nat) (hl : lexF 0 l = (ws, some p)) : readR l = (ws, (p : Int), 130) := by rw [readR, if_neg h, hl]
theorem some_out {w wr : World} {ws : List (Nat × Wd)} {v : Value} {r : List (Nat × Wd) × Int × Int} {a b : Int} (h : SM w wr ws v) (hr : r = (ws, a, b)) :
    LexOut w r (.returned (.tuple #[v, .int .i64 a, .int .i64 b])) wr := by
  subst hr
  obtain ⟨x, y, z, rfl⟩ := own_slice h.own
  exact ⟨x, y, z, rfl, h.own, h.bel⟩
set_option maxRecDepth 100000 in
set_option maxHeartbeats 4000000 in
theorem rsome_any (s : ByteArray) (hs : s.size ≤ 400000000) (w : World) :
    Calls Tryz.prog 9 #[.string s] w (LexOut w (readR s.data.toList)) := by
  have hsl : s.data.toList.length = s.size := (Lib.size_eq s).symm
  by_cases hlong : 1048576 < s.size
  · have g : (1048576 : Int) < (s.size : Int) := by omega
    have HR := Lib.hid (readR_long s.data.toList (by omega))
    clear hlong hsl
    go_enter Tryz.func9, Tryz.ntmps9
    go_wp2_with fail
    go_ret3
    rw [HR.out]
    exact ⟨none, 0, 0, rfl, ⟨rfl, .inl ⟨rfl, rfl⟩⟩, Below.refl _ _⟩
  have g : ¬ (1048576 : Int) < (s.size : Int) := by omega
  have HS := Lib.hid (show ¬ 1048576 < s.data.toList.length by omega)
  clear hlong
  obtain ⟨R, hR⟩ : ∃ R, lexF 0 s.data.toList = R := ⟨_, rfl⟩
  have H0 := Lib.hid hR
  have hk0 : Calls Tryz.prog 19 #[.string s, .int .i64 0] w fun e w' => e = .returned (.int .i64 ((sk s 0 : Nat) : Int)) ∧ w' = w := by
    have := rskip_any s 0 (by omega) (by omega) w
    rw [Nat.zero_add] at this
    exact this
  have hk1 : sk s 0 ≤ s.size := by have := skM_le false (s.data.toList.drop 0); unfold sk; rw [List.drop_zero] at this ⊢; omega
  obtain ⟨i0, hi, hz0, hz1, hz2⟩ := info_parts infoWord
  clear hR
  go_enter Tryz.func9, Tryz.ntmps9
  go_wp2_with fail
  refine hk0.mono ?_
  rintro e w1 ⟨rfl, rfl⟩
  clear hk0
  go_wp2_with fail
  go_loopg [5, 6] (s.size - sk s 0) (fun m v5 v6 wr => ∃ (i j : Nat) (ws : List (Nat × Wd)), j = i + sk s i ∧ j ≤ s.size ∧ m = s.size - j ∧ v6 = .int .i64 j ∧ ws.length ≤ j ∧ SM w1 wr ws v5 ∧ R = (ws ++ (lexF i (s.data.toList.drop i)).1, (lexF i (s.data.toList.drop i)).2))
  case atStart => exact ⟨0, sk s 0, [], (Nat.zero_add _).symm, hk1, rfl, rfl, Nat.zero_le _, ⟨⟨rfl, .inl ⟨rfl, rfl⟩⟩, Below.refl _ _⟩, by rw [List.drop_zero, H0.out]; rfl⟩
  case round =>
    obtain ⟨i, j, ws, hj, hjs, hm, rfl, hwl, hS, hx⟩ := hrel
    have A := Lib.hid (And.intro hm (And.intro hS (And.intro hx hj)))
    clear hm hS hx hj hk1
    have HL := Lib.hid (show (s.data.toList.drop i).drop (skM false (s.data.toList.drop i)) = s.data.toList.drop j by
      rw [List.drop_drop]; congr 1; have := A.out.2.2.2; unfold sk at this; omega)
    by_cases hlt : j < s.size
    · have hlt' : (j : Int) < (s.size : Int) := by omega
      have hw := rword_any s j hs hlt wr
      cases hf : wordF (s.data.toList.drop j) with
      | none =>
        rw [hf] at hw
        have HX := Lib.hid (show R = (ws, some j) by
          rw [A.out.2.2.1, lexF_bad i _ _ HL.out (by rw [drop_cons s j hlt]; simp) hf]
          have := A.out.2.2.2
          unfold sk at this
          rw [List.append_nil, ← this])
        clear hf
        go_wp2_with fail
        refine hw.mono ?_
        rintro e w2 ⟨⟨x, n, rfl⟩, hb⟩
        have B := Lib.hid hb
        clear hb hw
        unfold wdV wdC
        go_wp2_with fail
        go_ret3
        refine some_out (ws := ws) ?_ (readR_no _ HS.out ws j (H0.out.trans HX.out))
        exact (A.out.2.1.below B.out).below ((Below.refl _ _).alloc (Nat.le_refl _) _)
      | some q =>
        obtain ⟨x, n⟩ := q
        have hp := wordF_pos _ _ _ hf
        rw [List.length_drop, hsl] at hp
        rw [hf] at hw
        have HX := Lib.hid (show R = ((ws ++ [(j, x)]) ++ (lexF (j + n) (s.data.toList.drop (j + n))).1, (lexF (j + n) (s.data.toList.drop (j + n))).2) by
          have h5 := A.out.2.2.2
          unfold sk at h5
          rw [A.out.2.2.1, lexF_word i _ _ x n HL.out hf, ← h5, List.drop_drop]
          simp)
        clear hf
        have hsk := rskip_any s (j + n) (by omega) (by omega)
        have HN := Lib.hid (show j + n + sk s (j + n) ≤ s.size by
          have := skM_le false (s.data.toList.drop (j + n))
          rw [List.length_drop, hsl] at this
          unfold sk; omega)
        go_wp2_with fail
        refine hw.mono ?_
        rintro e w2 ⟨rfl, hb⟩
        have hS2 := Lib.hid (A.out.2.1.below hb)
        clear hb hw
        unfold wdV wdC
        go_wp2_with (at_builtin; refine wpList_append_own _ rfl _ _ 23 rfl w1.heap.size 35 i0 (.agg zeroC) 8 72 Tryz.underlying23 hi hz0 hz1 hz2 rfl (by decide) _ _ _ rfl ((hS2.out.own.alloc _).alloc _) ⟨w2.heap.size + 1, 0, none⟩ 1 1 [.int .i64 x.kind, .int .i64 (j : Int), .string ⟨x.text.toArray⟩, .int .u64 (wd x.set 0), .int .u64 (wd x.set 1), .int .u64 (wd x.set 2), .int .u64 (wd x.set 3), .int .i64 x.num] rfl rfl ?c1 ?c2 ?c3 ?c4 ?c5 ?_)
        case c1 =>
          intro j u hj
          match j, hj with
          | 0, hj => simp at hj; subst hj; exact (Blk.new_ (by simp) _ _).cell 0
          | 1, hj => simp at hj; subst hj; exact (Blk.new_ (by simp) _ _).cell 1
          | 2, hj => simp at hj; subst hj; exact (Blk.new_ (by simp) _ _).cell 2
          | 3, hj => simp at hj; subst hj; exact (Blk.new_ (by simp) _ _).cell 3
          | 4, hj => simp at hj; subst hj; exact (Blk.new_ (by simp) _ _).cell 4
          | 5, hj => simp at hj; subst hj; exact (Blk.new_ (by simp) _ _).cell 5
          | 6, hj => simp at hj; subst hj; exact (Blk.new_ (by simp) _ _).cell 6
          | 7, hj => simp at hj; subst hj; exact (Blk.new_ (by simp) _ _).cell 7
        case c2 => intro u hu; simp at hu; rcases hu with rfl | rfl | rfl | rfl | rfl | rfl | rfl | rfl <;> rfl
        case c3 => unfold maxLen; omega
        case c4 => omega
        case c5 => have := hS2.out.bel.size; simp; omega
        intro v' w3 hown' hgrow _
        obtain ⟨sa, sn, sc, rfl⟩ := own_slice hown'
        have HS3 := Lib.hid (hS2.out.append (p := j) (x := x) hown' hgrow)
        clear hown' hgrow
        go_wp2_with fail
        refine (hsk _).mono ?_
        rintro e w4 ⟨rfl, rfl⟩
        go_wp2_with fail
        go_roundg (s.size - (j + n + sk s (j + n)))
        case measure => have := A.out.1; omega
        case rel => exact ⟨j + n, j + n + sk s (j + n), ws ++ [(j, x)], rfl, HN.out, rfl, rfl, by simp; omega, HS3.out, HX.out⟩
    · obtain rfl : j = s.size := by omega
      have HX := Lib.hid (show R = (ws, none) by
        rw [A.out.2.2.1, lexF_end i _ (by rw [HL.out]; exact drop_all s _ (Nat.le_refl _))]
        simp)
      go_wp2_with fail
      go_ret3
      exact some_out (ws := ws) A.out.2.1 (readR_ok _ HS.out ws (H0.out.trans HX.out))
set_option maxRecDepth 100000 in
set_option maxHeartbeats 1000000 in
theorem rlex_any (s : ByteArray) (hs : s.size ≤ 400000000) (w : World) :
    Calls Tryz.prog 7 #[.string s] w (LexOut w (lexR s.data.toList)) := by
  have hsm := rsome_any s hs w
  obtain ⟨R, hR⟩ : ∃ R, readR s.data.toList = R := ⟨_, rfl⟩
  rw [hR] at hsm
  obtain ⟨ws, at_, en⟩ := R
  have H := Lib.hid hR
  clear hR
  go_enter Tryz.func7, Tryz.ntmps7
  go_wp2_with fail
  refine hsm.mono ?_
  rintro e w2 ⟨sa, sn, sc, rfl, ho, hb⟩
  by_cases h0 : en = 0
  · subst h0
    have HX := Lib.hid (And.intro ho hb)
    clear ho hb
    go_wp2_with fail
    go_ret3
    refine ⟨sa, sn, sc, ?_, ?_, HX.out.2⟩
    · rw [lexR, H.out]; rfl
    · rw [lexR, H.out]; exact HX.out.1
  · have hne : (en != 0) = true := by simpa using h0
    have HX := Lib.hid (And.intro hb h0)
    clear ho hb h0
    go_wp2_with fail
    go_ret3
    refine ⟨none, 0, 0, ?_, ?_, HX.out.1⟩
    · rw [lexR, H.out, if_neg HX.out.2]; rfl
    · rw [lexR, H.out, if_neg HX.out.2]
      exact ⟨rfl, .inl ⟨rfl, rfl⟩⟩
end Go.Proofs.YtacgnbelcpmjfaaGreatDoor.Dx
