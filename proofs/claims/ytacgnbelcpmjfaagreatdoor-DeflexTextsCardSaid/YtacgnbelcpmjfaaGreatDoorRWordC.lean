/-
  WALKS: the document's Word: a text.
  WALKS: the document's Word: a set.
-/
import Derived.Test.YtacgnbelcpmjfaaGreatDoorRWordA
import Derived.Test.YtacgnbelcpmjfaaGreatDoorRText
import Derived.Deep.RegionWith
set_option linter.unusedVariables false
set_option linter.unusedSimpArgs false
namespace Go.Proofs.YtacgnbelcpmjfaaGreatDoor.Dx
open Go.RowKit Go.Proofs Mx
theorem class3 (c : UInt8) (h : classI (c.toNat : Int) = 3) : c = 34 := by
  revert h
  exact all_bytes (p := fun c => classI (c.toNat : Int) = 3 → c = 34) (by decide +kernel) c
set_option maxRecDepth 100000 in
set_option maxHeartbeats 20000000 in
theorem rword_quote (s : ByteArray) (k : Nat) (hs : s.size ≤ 400000000) (hk : k < s.size) (c : UInt8) (hc : s[k] = c) (hcl : classI (c.toNat : Int) = 3) (w : World) :
    Calls Tryz.prog 20 #[.string s, .int .i64 (k : Int)] w (WordR k w (wordF (s.data.toList.drop k))) := by
  obtain rfl := class3 c hcl
  have hlet := letter_any 34
  rw [show letterB 34 = false from rfl] at hlet
  have hcall := fun W => rtext_any s k hs hk W
  have hlt : (k : Int) < (s.size : Int) := by omega
  have hk0 : (0 : Int) ≤ (k : Int) := by omega
  have HF := Lib.hid (show wordF (s.data.toList.drop k) = (txt (s.data.toList.drop (k + 1))).map fun p => (⟨2, p.1, 0, 0⟩, p.2 + 1) by
    rw [drop_cons s k hk, hc, wordF, hcl]
    rw [if_neg (by decide), if_neg (by decide), if_pos (by decide)])
  clear hcl
  go_enter Tryz.func20, Tryz.ntmps20
  go_wp2_with fail
  refine (hlet _).mono ?_
  rintro e w2 ⟨rfl, rfl⟩
  go_wp2_with fail
  cases ht : txt (s.data.toList.drop (k + 1)) with
  | some p =>
    obtain ⟨o, n⟩ := p
    have HW := Lib.hid (show wordF (s.data.toList.drop k) = some (⟨2, o, 0, 0⟩, n + 1) by rw [HF.out, ht]; rfl)
    simp only [ht] at hcall
    clear ht
    refine (hcall _).mono ?_
    rintro e w2 ⟨rfl, hb⟩
    have B0 : Blk w2 (w.heap.size + 1) 35 #[.int .i64 0, .int .i64 (k : Int), .string ⟨#[]⟩, .int .u64 0, .int .u64 0, .int .u64 0, .int .u64 0, .int .i64 0] ∧ Blk w2 w.heap.size 35 #[.int .i64 0, .int .i64 0, .string ⟨#[]⟩, .int .u64 0, .int .u64 0, .int .u64 0, .int .u64 0, .int .i64 0] ∧ Below w.heap.size w w2 :=
      ⟨(Blk.new_ (by simp) _ _).below hb (by simp), ((Blk.new_ rfl _ _).alloc _).below hb (by simp; omega), (((Below.refl w.heap.size w).alloc (Nat.le_refl _) (.cells #[.int .i64 0, .int .i64 0, .string ⟨#[]⟩, .int .u64 0, .int .u64 0, .int .u64 0, .int .u64 0, .int .i64 0] 35)).alloc (by simp) (.cells #[.int .i64 0, .int .i64 (k : Int), .string ⟨#[]⟩, .int .u64 0, .int .u64 0, .int .u64 0, .int .u64 0, .int .i64 0] 35)).trans (hb.mono (by simp; omega))⟩
    have S0 := Lib.hid B0
    obtain ⟨z0, z1, z2, z3, z4, z5, z6, z7, zf⟩ := B0.1.facts8
    obtain ⟨x0, x1, x2, x3, x4, x5, x6, x7, xf⟩ := B0.2.1.facts8
    clear B0 hb
    go_wp2_with fail
    refine bodyPost_ret (results_cell_tmp2_row (cs := #[.int .i64 2, .int .i64 (k : Int), .string ⟨o.toArray⟩, .int .u64 0, .int .u64 0, .int .u64 0, .int .u64 0, .int .i64 0]) (by rfl) _ _ w.heap.size 35 _ _ _ (by rfl) (by rfl) (by rfl) (by apply Blk.eq; (focus (repeat (first | with_reducible exact S0.out.2.1 | with_reducible apply Blk.drew | with_reducible apply Blk.set_ | (apply Blk.far _ (by simp); rotate_left)))); simp) Tryz.underlying35 (by rfl) (by kernel_rfl)) rfl ?_
    refine WordR.yes (v := ⟨2, o, 0, 0⟩) (n := n + 1) HW.out ?_ (by omega) (by repeat (first | with_reducible exact S0.out.2.2 | with_reducible refine Below.drew ?_ | refine Below.setCell ?_ (by simp) _))
    simp [wdV, wdC, wd_zero]
  | none =>
    have HW := Lib.hid (show wordF (s.data.toList.drop k) = none by rw [HF.out, ht]; rfl)
    simp only [ht] at hcall
    clear ht
    refine (hcall _).mono ?_
    rintro e w2 ⟨rfl, hb⟩
    have B0 : Blk w2 (w.heap.size + 1) 35 #[.int .i64 0, .int .i64 (k : Int), .string ⟨#[]⟩, .int .u64 0, .int .u64 0, .int .u64 0, .int .u64 0, .int .i64 0] ∧ Blk w2 w.heap.size 35 #[.int .i64 0, .int .i64 0, .string ⟨#[]⟩, .int .u64 0, .int .u64 0, .int .u64 0, .int .u64 0, .int .i64 0] ∧ Below w.heap.size w w2 :=
      ⟨(Blk.new_ (by simp) _ _).below hb (by simp), ((Blk.new_ rfl _ _).alloc _).below hb (by simp; omega), (((Below.refl w.heap.size w).alloc (Nat.le_refl _) (.cells #[.int .i64 0, .int .i64 0, .string ⟨#[]⟩, .int .u64 0, .int .u64 0, .int .u64 0, .int .u64 0, .int .i64 0] 35)).alloc (by simp) (.cells #[.int .i64 0, .int .i64 (k : Int), .string ⟨#[]⟩, .int .u64 0, .int .u64 0, .int .u64 0, .int .u64 0, .int .i64 0] 35)).trans (hb.mono (by simp; omega))⟩
    have S0 := Lib.hid B0
    obtain ⟨z0, z1, z2, z3, z4, z5, z6, z7, zf⟩ := B0.1.facts8
    obtain ⟨x0, x1, x2, x3, x4, x5, x6, x7, xf⟩ := B0.2.1.facts8
    clear B0 hb
    go_wp2_with fail
    refine bodyPost_ret (results_cell_tmp2_row (cs := #[.int .i64 2, .int .i64 (k : Int), .string ⟨#[]⟩, .int .u64 0, .int .u64 0, .int .u64 0, .int .u64 0, .int .i64 0]) (by rfl) _ _ w.heap.size 35 _ _ _ (by rfl) (by rfl) (by rfl) (by apply Blk.eq; (focus (repeat (first | with_reducible exact S0.out.2.1 | with_reducible apply Blk.drew | with_reducible apply Blk.set_ | (apply Blk.far _ (by simp); rotate_left)))); simp) Tryz.underlying35 (by rfl) (by kernel_rfl)) rfl ?_
    refine WordR.no HW.out (v := ⟨2, [], 0, 0⟩) ?_ (by repeat (first | with_reducible exact S0.out.2.2 | with_reducible refine Below.drew ?_ | refine Below.setCell ?_ (by simp) _))
    simp [wdV, wdC, wd_zero]
end Go.Proofs.YtacgnbelcpmjfaaGreatDoor.Dx
set_option linter.unusedVariables false
set_option linter.unusedSimpArgs false
namespace Go.Proofs.YtacgnbelcpmjfaaGreatDoor.Dx
open Go.RowKit Go.Proofs Mx
theorem class4 (c : UInt8) (h : classI (c.toNat : Int) = 4) : c = 91 := by
  revert h
  exact all_bytes (p := fun c => classI (c.toNat : Int) = 4 → c = 91) (by decide +kernel) c
theorem scan_step {x : Option Nat} {l l' : List UInt8} {a m : Nat} (h : x = (scanB l).map (· + a)) (hl : scanB l = (scanB l').map (· + m)) : x = (scanB l').map (· + (a + m)) := by
  rw [h, hl]
  cases scanB l' with
  | none => rfl
  | some p => simp; omega
theorem ext_take (s : ByteArray) (k i : Nat) : (s.extract k i).data.toList = (s.data.toList.drop k).take (i - k) := by
  rw [ByteArray.data_extract, Array.toList_extract, List.extract_eq_take_drop]
set_option maxRecDepth 100000 in
set_option maxHeartbeats 20000000 in
theorem rword_bracket (s : ByteArray) (k : Nat) (hs : s.size ≤ 400000000) (hk : k < s.size) (c : UInt8) (hc : s[k] = c) (hcl : classI (c.toNat : Int) = 4) (w : World) :
    Calls Tryz.prog 20 #[.string s, .int .i64 (k : Int)] w (WordR k w (wordF (s.data.toList.drop k))) := by
  obtain rfl := class4 c hcl
  have hlet := letter_any 91
  rw [show letterB 91 = false from rfl] at hlet
  have hlt : (k : Int) < (s.size : Int) := by omega
  have hk0 : (0 : Int) ≤ (k : Int) := by omega
  obtain ⟨X, hX⟩ : ∃ X, scanB (s.data.toList.drop k) = X := ⟨_, rfl⟩
  have HF := Lib.hid (show wordF (s.data.toList.drop k) = (X.bind fun n => (readF ((s.data.toList.drop k).take (n + 1))).map fun M => (M, n + 1)).map fun p => (⟨3, [], p.1, 0⟩, p.2) by
    rw [← hX]
    rw [drop_cons s k hk, hc, wordF, hcl]
    rw [if_neg (by decide), if_neg (by decide), if_neg (by decide), if_pos (by decide)]
    rfl)
  have HX := Lib.hid hX
  clear hcl hX
  go_enter Tryz.func20, Tryz.ntmps20
  go_wp2_with fail
  refine (hlet _).mono ?_
  rintro e w2 ⟨rfl, rfl⟩
  go_wp2_with fail
  go_loopg [9] (s.size + 1 - k) (fun m v wr => ∃ i : Nat, k ≤ i ∧ i ≤ s.size + 1 ∧ m = s.size + 1 - i ∧ v = .int .i64 i ∧ wr = ((w.alloc (.cells #[.int .i64 0, .int .i64 0, .string ⟨#[]⟩, .int .u64 0, .int .u64 0, .int .u64 0, .int .u64 0, .int .i64 0] 35)).alloc (.cells #[.int .i64 0, .int .i64 (k : Int), .string ⟨#[]⟩, .int .u64 0, .int .u64 0, .int .u64 0, .int .u64 0, .int .i64 0] 35)) ∧ X = (scanB (s.data.toList.drop i)).map (· + (i - k)))
  case atStart => exact ⟨k, Nat.le_refl _, by omega, rfl, rfl, rfl, by rw [HX.out, Nat.sub_self]; cases X <;> rfl⟩
  case round =>
    obtain ⟨i, hki, hi, hm, rfl, rfl, hx⟩ := hrel
    have A := Lib.hid (And.intro hm hx)
    clear hm hx
    have hi0 : (0 : Int) ≤ (i : Int) := by omega
    by_cases hlt2 : i < s.size
    · obtain ⟨d, hd⟩ : ∃ d, s[i] = d := ⟨_, rfl⟩
      have HD := Lib.hid (show s.data.toList.drop i = d :: s.data.toList.drop (i + 1) by rw [drop_cons s i hlt2, hd])
      have hlt2' : (i : Int) < (s.size : Int) := by omega
      by_cases h93 : d = 93
      · subst h93
        have HY := Lib.hid (show X = some (i - k) by rw [A.out.2, HD.out, scanB_end]; simp)
        have g1 : ¬ (s.size : Int) ≤ (i : Int) := by omega
        have hi1 : (i : Int) + 1 ≤ (s.size : Int) := by omega
        have hki' : (k : Int) ≤ (i : Int) + 1 := by omega
        have hrd := fun W => rread_any (s.extract k (i + 1)) (by rw [ByteArray.size_extract]; omega) W
        rw [ext_take] at hrd
        have hnk : i + 1 - k = i - k + 1 := by omega
        rw [hnk] at hrd
        obtain ⟨Q, hQ⟩ : ∃ Q, readF ((s.data.toList.drop k).take (i - k + 1)) = Q := ⟨_, rfl⟩
        rw [hQ] at hrd
        have HQ := Lib.hid hQ
        clear hQ hnk
        go_wp2_with fail
        refine (hrd _).mono ?_
        rintro e w2 ⟨he, hb⟩
        cases Q with
        | some M =>
          obtain rfl : e = .returned (.tuple #[setV M, .int .i64 0]) := he
          have HW := Lib.hid (show wordF (s.data.toList.drop k) = some (⟨3, [], M, 0⟩, i + 1 - k) by
            rw [HF.out, HY.out, Option.bind_some, HQ.out]
            simp
            omega)
          unfold setV
          have B0 : Blk w2 (w.heap.size + 1) 35 #[.int .i64 0, .int .i64 (k : Int), .string ⟨#[]⟩, .int .u64 0, .int .u64 0, .int .u64 0, .int .u64 0, .int .i64 0] ∧ Blk w2 w.heap.size 35 #[.int .i64 0, .int .i64 0, .string ⟨#[]⟩, .int .u64 0, .int .u64 0, .int .u64 0, .int .u64 0, .int .i64 0] ∧ Below w.heap.size w w2 :=
            ⟨(Blk.new_ (by simp) _ _).below hb (by simp), ((Blk.new_ rfl _ _).alloc _).below hb (by simp; omega), (((Below.refl w.heap.size w).alloc (Nat.le_refl _) (.cells #[.int .i64 0, .int .i64 0, .string ⟨#[]⟩, .int .u64 0, .int .u64 0, .int .u64 0, .int .u64 0, .int .i64 0] 35)).alloc (by simp) (.cells #[.int .i64 0, .int .i64 (k : Int), .string ⟨#[]⟩, .int .u64 0, .int .u64 0, .int .u64 0, .int .u64 0, .int .i64 0] 35)).trans (hb.mono (by simp; omega))⟩
          have S0 := Lib.hid B0
          clear B0 hb
          have B1 := S0.out.1.alloc (.cells #[.int .u64 (wd M 0), .int .u64 (wd M 1), .int .u64 (wd M 2), .int .u64 (wd M 3)] 33)
          obtain ⟨z0, z1, z2, z3, z4, z5, z6, z7, zf⟩ := B1.facts8
          have B2 := S0.out.2.1.alloc (.cells #[.int .u64 (wd M 0), .int .u64 (wd M 1), .int .u64 (wd M 2), .int .u64 (wd M 3)] 33)
          obtain ⟨x0, x1, x2, x3, x4, x5, x6, x7, xf⟩ := B2.facts8
          have B3 := Blk.new w2 33 #[.int .u64 (wd M 0), .int .u64 (wd M 1), .int .u64 (wd M 2), .int .u64 (wd M 3)]
          obtain ⟨y0, y1, y2, y3, yf⟩ := B3.facts4
          clear B1 B2 B3
          have hne1 : ¬ w2.heap.size = w.heap.size + 1 := by have := S0.out.1.lt; omega
          have hne2 : ¬ w.heap.size + 1 = w2.heap.size := by have := S0.out.1.lt; omega
          have hne3 : ¬ w2.heap.size = w.heap.size := by have := S0.out.1.lt; omega
          have hne4 : ¬ w.heap.size = w2.heap.size := by have := S0.out.1.lt; omega
          go_wp2_with fail
          go_region
          all_goals
            generalize hW4 : World.drew _ = W4
            have T1 : Blk W4 (w.heap.size + 1) 35 #[.int .i64 3, .int .i64 (k : Int), .string ⟨#[]⟩, .int .u64 (wd M 0), .int .u64 (wd M 1), .int .u64 (wd M 2), .int .u64 (wd M 3), .int .i64 0] := by rw [← hW4]; exact (by apply Blk.eq; (focus (repeat (first | with_reducible exact S0.out.1.alloc _ | with_reducible apply Blk.drew | with_reducible apply Blk.set_ | (apply Blk.far _ (by simp); rotate_left)))); simp)
            have T2 : Blk W4 w.heap.size 35 #[.int .i64 0, .int .i64 0, .string ⟨#[]⟩, .int .u64 0, .int .u64 0, .int .u64 0, .int .u64 0, .int .i64 0] := by rw [← hW4]; exact (by apply Blk.eq; (focus (repeat (first | with_reducible exact S0.out.2.1.alloc _ | with_reducible apply Blk.drew | with_reducible apply Blk.set_ | (apply Blk.far _ (by simp); rotate_left)))); simp)
            have T3 : Below w.heap.size w W4 := by rw [← hW4]; exact (by repeat (first | with_reducible exact S0.out.2.2.alloc S0.out.2.2.size _ | with_reducible refine Below.drew ?_ | refine Below.setCell ?_ (by simp) _))
            clear hW4 z0 z1 z2 z3 z4 z5 z6 z7 zf x0 x1 x2 x3 x4 x5 x6 x7 xf y0 y1 y2 y3 yf hne1 hne2 hne3 hne4 S0
            have S0 := Lib.hid (And.intro T1 (And.intro T2 T3))
            obtain ⟨z0, z1, z2, z3, z4, z5, z6, z7, zf⟩ := T1.facts8
            obtain ⟨x0, x1, x2, x3, x4, x5, x6, x7, xf⟩ := T2.facts8
            clear T1 T2 T3
            go_wp2_with fail
            refine bodyPost_ret (results_cell_tmp2_row (cs := #[.int .i64 3, .int .i64 (k : Int), .string ⟨#[]⟩, .int .u64 (wd M 0), .int .u64 (wd M 1), .int .u64 (wd M 2), .int .u64 (wd M 3), .int .i64 0]) (by rfl) _ _ w.heap.size 35 _ _ _ (by rfl) (by rfl) (by rfl) (by apply Blk.eq; (focus (repeat (first | with_reducible exact S0.out.2.1 | with_reducible apply Blk.drew | with_reducible apply Blk.set_ | (apply Blk.far _ (by simp); rotate_left)))); simp) Tryz.underlying35 (by rfl) (by kernel_rfl)) rfl ?_
            refine WordR.yes (v := ⟨3, [], M, 0⟩) (n := i + 1 - k) HW.out ?_ (by omega) (by repeat (first | with_reducible exact S0.out.2.2 | with_reducible refine Below.drew ?_ | refine Below.setCell ?_ (by simp) _))
            simp [wdV, wdC]
        | none =>
          obtain rfl : e = .returned (.tuple #[setV 0, .int .i64 120]) := he
          have HW := Lib.hid (show wordF (s.data.toList.drop k) = none by
            rw [HF.out, HY.out, Option.bind_some, HQ.out]
            rfl)
          unfold setV
          have B0 : Blk w2 (w.heap.size + 1) 35 #[.int .i64 0, .int .i64 (k : Int), .string ⟨#[]⟩, .int .u64 0, .int .u64 0, .int .u64 0, .int .u64 0, .int .i64 0] ∧ Blk w2 w.heap.size 35 #[.int .i64 0, .int .i64 0, .string ⟨#[]⟩, .int .u64 0, .int .u64 0, .int .u64 0, .int .u64 0, .int .i64 0] ∧ Below w.heap.size w w2 :=
            ⟨(Blk.new_ (by simp) _ _).below hb (by simp), ((Blk.new_ rfl _ _).alloc _).below hb (by simp; omega), (((Below.refl w.heap.size w).alloc (Nat.le_refl _) (.cells #[.int .i64 0, .int .i64 0, .string ⟨#[]⟩, .int .u64 0, .int .u64 0, .int .u64 0, .int .u64 0, .int .i64 0] 35)).alloc (by simp) (.cells #[.int .i64 0, .int .i64 (k : Int), .string ⟨#[]⟩, .int .u64 0, .int .u64 0, .int .u64 0, .int .u64 0, .int .i64 0] 35)).trans (hb.mono (by simp; omega))⟩
          have S0 := Lib.hid B0
          clear B0 hb
          have B1 := S0.out.1.alloc (.cells #[.int .u64 (wd 0 0), .int .u64 (wd 0 1), .int .u64 (wd 0 2), .int .u64 (wd 0 3)] 33)
          obtain ⟨z0, z1, z2, z3, z4, z5, z6, z7, zf⟩ := B1.facts8
          have B2 := S0.out.2.1.alloc (.cells #[.int .u64 (wd 0 0), .int .u64 (wd 0 1), .int .u64 (wd 0 2), .int .u64 (wd 0 3)] 33)
          obtain ⟨x0, x1, x2, x3, x4, x5, x6, x7, xf⟩ := B2.facts8
          have B3 := Blk.new w2 33 #[.int .u64 (wd 0 0), .int .u64 (wd 0 1), .int .u64 (wd 0 2), .int .u64 (wd 0 3)]
          obtain ⟨y0, y1, y2, y3, yf⟩ := B3.facts4
          clear B1 B2 B3
          have hne1 : ¬ w2.heap.size = w.heap.size + 1 := by have := S0.out.1.lt; omega
          have hne2 : ¬ w.heap.size + 1 = w2.heap.size := by have := S0.out.1.lt; omega
          have hne3 : ¬ w2.heap.size = w.heap.size := by have := S0.out.1.lt; omega
          have hne4 : ¬ w.heap.size = w2.heap.size := by have := S0.out.1.lt; omega
          go_wp2_with fail
          go_region
          all_goals
            generalize hW4 : World.drew _ = W4
            have T1 : Blk W4 (w.heap.size + 1) 35 #[.int .i64 3, .int .i64 (k : Int), .string ⟨#[]⟩, .int .u64 (wd 0 0), .int .u64 (wd 0 1), .int .u64 (wd 0 2), .int .u64 (wd 0 3), .int .i64 0] := by rw [← hW4]; exact (by apply Blk.eq; (focus (repeat (first | with_reducible exact S0.out.1.alloc _ | with_reducible apply Blk.drew | with_reducible apply Blk.set_ | (apply Blk.far _ (by simp); rotate_left)))); simp)
            have T2 : Blk W4 w.heap.size 35 #[.int .i64 0, .int .i64 0, .string ⟨#[]⟩, .int .u64 0, .int .u64 0, .int .u64 0, .int .u64 0, .int .i64 0] := by rw [← hW4]; exact (by apply Blk.eq; (focus (repeat (first | with_reducible exact S0.out.2.1.alloc _ | with_reducible apply Blk.drew | with_reducible apply Blk.set_ | (apply Blk.far _ (by simp); rotate_left)))); simp)
            have T3 : Below w.heap.size w W4 := by rw [← hW4]; exact (by repeat (first | with_reducible exact S0.out.2.2.alloc S0.out.2.2.size _ | with_reducible refine Below.drew ?_ | refine Below.setCell ?_ (by simp) _))
            clear hW4 z0 z1 z2 z3 z4 z5 z6 z7 zf x0 x1 x2 x3 x4 x5 x6 x7 xf y0 y1 y2 y3 yf hne1 hne2 hne3 hne4 S0
            have S0 := Lib.hid (And.intro T1 (And.intro T2 T3))
            obtain ⟨z0, z1, z2, z3, z4, z5, z6, z7, zf⟩ := T1.facts8
            obtain ⟨x0, x1, x2, x3, x4, x5, x6, x7, xf⟩ := T2.facts8
            clear T1 T2 T3
            go_wp2_with fail
            refine bodyPost_ret (results_cell_tmp2_row (cs := #[.int .i64 3, .int .i64 (k : Int), .string ⟨#[]⟩, .int .u64 (wd 0 0), .int .u64 (wd 0 1), .int .u64 (wd 0 2), .int .u64 (wd 0 3), .int .i64 0]) (by rfl) _ _ w.heap.size 35 _ _ _ (by rfl) (by rfl) (by rfl) (by apply Blk.eq; (focus (repeat (first | with_reducible exact S0.out.2.1 | with_reducible apply Blk.drew | with_reducible apply Blk.set_ | (apply Blk.far _ (by simp); rotate_left)))); simp) Tryz.underlying35 (by rfl) (by kernel_rfl)) rfl ?_
            refine WordR.no HW.out (v := ⟨3, [], 0, 0⟩) ?_ (by repeat (first | with_reducible exact S0.out.2.2 | with_reducible refine Below.drew ?_ | refine Below.setCell ?_ (by simp) _))
            simp [wdV, wdC]
      · have n93 : ((d.toNat : Int) != 93) = true := by have h := u8_beq d 93 h93; show (!((d.toNat : Int) == ((93 : UInt8).toNat : Int))) = true; rw [h]; rfl
        by_cases h92 : d = 92
        · subst h92
          have HT := Lib.hid (scan_step A.out.2 (l' := s.data.toList.drop (i + 2)) (m := 2) (by rw [HD.out, scanB_esc, List.drop_drop]))
          clear h93 n93
          go_wp2_with fail
          go_roundg (s.size + 1 - (i + 2))
          case measure => have := A.out.1; omega
          case rel => exact ⟨i + 2, by omega, by omega, rfl, by first | rfl | (congr 1; omega) | (congr 1), rfl, by rw [HT.out, show i - k + 2 = i + 2 - k by omega]⟩
        · have n92 : ((d.toNat : Int) == 92) = false := u8_beq d 92 h92
          have HT := Lib.hid (scan_step A.out.2 (l' := s.data.toList.drop (i + 1)) (m := 1) (by rw [HD.out, scanB_other d _ h92 h93]))
          clear h92 h93
          go_wp2_with fail
          go_roundg (s.size + 1 - (i + 1))
          case measure => have := A.out.1; omega
          case rel => exact ⟨i + 1, by omega, by omega, rfl, rfl, rfl, by rw [HT.out, show i - k + 1 = i + 1 - k by omega]⟩
    · have g1 : (s.size : Int) ≤ (i : Int) := by omega
      have g2 : ¬ (i : Int) < (s.size : Int) := by omega
      have HW := Lib.hid (show wordF (s.data.toList.drop k) = none by
        rw [HF.out, A.out.2, drop_all s i (by omega)]; rfl)
      clear hlt2
      go_wp2_with fail
      refine bodyPost_ret (results_cell_tmp2_row (cs := #[.int .i64 0, .int .i64 (k : Int), .string ⟨#[]⟩, .int .u64 0, .int .u64 0, .int .u64 0, .int .u64 0, .int .i64 0]) (by rfl) _ _ w.heap.size 35 _ _ _ (by rfl) (by rfl) (by rfl) (Blk.eq (by (repeat (first | with_reducible apply Blk.drew | with_reducible refine Blk.drewN ?_ _)); exact (Blk.new_ rfl _ _).alloc _) (by rfl)) Tryz.underlying35 (by rfl) (by kernel_rfl)) rfl ?_
      refine WordR.no HW.out (v := ⟨0, [], 0, 0⟩) ?_ (by (repeat (first | with_reducible refine Below.drew ?_ | with_reducible refine below_drewN ?_ _)); exact ((Below.refl w.heap.size w).alloc (Nat.le_refl _) _).alloc (by simp) _)
      simp [wdV, wdC, wd_zero]
end Go.Proofs.YtacgnbelcpmjfaaGreatDoor.Dx
