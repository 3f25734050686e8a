/-
  WALKS: the document's Read.
  WALKS: the document's Read, no complement.
  WALKS: the document's Read, a complement.
  WALKS: the document's Read.
-/
import Derived.Test.YtacgnbelcpmjfaaGreatDoorRBase
import Derived.Test.YtacgnbelcpmjfaaGreatDoorReadWalk
set_option linter.unusedVariables false
set_option linter.unusedSimpArgs false
namespace Go.Proofs.YtacgnbelcpmjfaaGreatDoor.Dx
open Go.RowKit Go.Proofs Mx
/-- The variables of the document's Read. -/
structure RV (w wr : World) (B : Nat) (M : Nat) : Prop where
  res : Blk wr B 33 (setC 0)
  out : Blk wr (B + 1) 33 (setC M)
  bel : Below B w wr
  lt : M < 2 ^ 256
theorem RV.below {w wr w2 : World} {B M : Nat} (h : RV w wr B M) (hb : Below wr.heap.size wr w2) : RV w w2 B M :=
  ⟨h.res.below hb h.res.lt, h.out.below hb h.out.lt, h.bel.trans (hb.mono (Nat.le_of_lt h.res.lt)), h.lt⟩
theorem RV.set {w wr : World} {B M N : Nat} (h : RV w wr B M) (hN : N < 2 ^ 256) :
    RV w ((((wr.setCell ⟨B + 1, 0, none⟩ (.int .u64 (wd N 0))).setCell ⟨B + 1, 1, none⟩ (.int .u64 (wd N 1))).setCell ⟨B + 1, 2, none⟩ (.int .u64 (wd N 2))).setCell ⟨B + 1, 3, none⟩ (.int .u64 (wd N 3))) B N := by
  refine ⟨?_, ?_, ?_, hN⟩
  · exact (((h.res.far (p := ⟨B + 1, 0, none⟩) (by simp) _).far (p := ⟨B + 1, 1, none⟩) (by simp) _).far (p := ⟨B + 1, 2, none⟩) (by simp) _).far (p := ⟨B + 1, 3, none⟩) (by simp) _
  · exact (((h.out.set_ 0 (.int .u64 (wd N 0))).set_ 1 (.int .u64 (wd N 1))).set_ 2 (.int .u64 (wd N 2))).set_ 3 (.int .u64 (wd N 3))
  · exact (((h.bel.setCell (p := ⟨B + 1, 0, none⟩) (by simp) _).setCell (p := ⟨B + 1, 1, none⟩) (by simp) _).setCell (p := ⟨B + 1, 2, none⟩) (by simp) _).setCell (p := ⟨B + 1, 3, none⟩) (by simp) _
theorem or_lt (N x : Nat) (hN : N < 2 ^ 256) (hx : x < 256) : N ||| 2 ^ x < 2 ^ 256 := Nat.or_lt_two_pow hN (Nat.pow_lt_pow_right (by decide) hx)
theorem take_93 (t : List UInt8) : takeF (93 :: t) = none := by
  rw [takeF, if_neg (by decide), if_neg]
  rintro ⟨_, _, h⟩
  revert h; decide
theorem bindF_bad {l : List UInt8} {M : Nat} (h : l ≠ [93]) (ht : takeF l = none) : (itemsF l).bind (makeF M) = none := by rw [itemsF_bad l h ht]; rfl
theorem bindF_end (M : Nat) : (itemsF [93]).bind (makeF M) = some M := by rw [itemsF_end]; rfl
theorem bindF_one {l : List UInt8} {M : Nat} (h : l ≠ [93]) (a : UInt8) (n : Nat) (ht : takeF l = some (a, n)) (hd : (l.drop n).head? ≠ some 45) : (itemsF l).bind (makeF M) = (itemsF (l.drop n)).bind (makeF (fillM M a.toNat (a.toNat + 1 - a.toNat))) := by
  rw [itemsF_one l h a n ht hd]
  cases itemsF (l.drop n) with
  | none => rfl
  | some m => show makeF M ((a, a) :: m) = _; rw [makeF, if_neg (Nat.lt_irrefl _)]; show _ = makeF _ m; rw [show a.toNat - a.toNat + 1 = a.toNat + 1 - a.toNat by omega]
theorem bindF_two_no {l : List UInt8} {M : Nat} (h : l ≠ [93]) (a : UInt8) (n : Nat) (ht : takeF l = some (a, n)) (hd : (l.drop n).head? = some 45) (h2 : takeF (l.drop (n + 1)) = none) : (itemsF l).bind (makeF M) = none := by
  rw [itemsF_two l h a n ht hd, h2]; rfl
theorem bindF_two_less {l : List UInt8} {M : Nat} (h : l ≠ [93]) (a b : UInt8) (n k : Nat) (ht : takeF l = some (a, n)) (hd : (l.drop n).head? = some 45) (h2 : takeF (l.drop (n + 1)) = some (b, k)) (hba : b.toNat < a.toNat) : (itemsF l).bind (makeF M) = none := by
  rw [itemsF_two l h a n ht hd, h2]
  cases h3 : itemsF (l.drop (n + 1 + k)) with
  | none => simp only [h3]; rfl
  | some m => simp only [h3]; show makeF M ((a, b) :: m) = _; rw [makeF, if_pos hba]
theorem bindF_two {l : List UInt8} {M : Nat} (h : l ≠ [93]) (a b : UInt8) (n k : Nat) (ht : takeF l = some (a, n)) (hd : (l.drop n).head? = some 45) (h2 : takeF (l.drop (n + 1)) = some (b, k)) (hba : a.toNat ≤ b.toNat) :
    (itemsF l).bind (makeF M) = (itemsF (l.drop (n + 1 + k))).bind (makeF (fillM M a.toNat (b.toNat + 1 - a.toNat))) := by
  rw [itemsF_two l h a n ht hd, h2]
  cases h3 : itemsF (l.drop (n + 1 + k)) with
  | none => simp only [h3]; rfl
  | some m => simp only [h3]; show makeF M ((a, b) :: m) = _; rw [makeF, if_neg (by omega)]; show _ = makeF _ m; rw [show b.toNat - a.toNat + 1 = b.toNat + 1 - a.toNat by omega]
theorem ne_93 {l : List UInt8} {c : UInt8} {t : List UInt8} (h : l = c :: t) (hc : c ≠ 93) : l ≠ [93] := by rw [h]; intro e; injection e with e _; exact hc e
set_option maxRecDepth 100000 in
set_option maxHeartbeats 8000000 in
theorem rread_short (s : ByteArray) (hs : s.size ≤ 400000000) (hshort : s.size < 2 ∨ s.data.toList.head? ≠ some 91) (w : World) :
    Calls Tryz.prog 45 #[.string s] w fun e w' => ReadOut (readF s.data.toList) e ∧ Below w.heap.size w w' := by
  obtain ⟨B, hB⟩ : ∃ B, w.heap.size = B := ⟨_, rfl⟩
  have hB0 : Blk (w.alloc (.cells #[.int .u64 0, .int .u64 0, .int .u64 0, .int .u64 0] 33)) B 33 (setC 0) := Blk.new_ hB _ _
  have hF : readF s.data.toList = none := by
    unfold readF
    split
    · rename_i t hl
      rw [hl] at hshort
      rcases hshort with h | h
      · rw [Lib.size_eq, hl] at h
        have ht : t = [] := List.eq_nil_of_length_eq_zero (by simp at h; omega)
        subst ht
        rfl
      · exact absurd rfl h
    · rfl
  have HF := Lib.hid hF
  have hb1 := (Below.refl w.heap.size w).alloc (Nat.le_refl _) (.cells #[.int .u64 0, .int .u64 0, .int .u64 0, .int .u64 0] 33)
  rw [hB] at hb1
  have HBL := Lib.hid (And.intro hB0 hb1)
  have hcase : s.size < 2 ∨ (2 ≤ s.size ∧ s.data.toList.head? ≠ some 91) := by
    rcases Nat.lt_or_ge s.size 2 with h | h
    · exact .inl h
    · exact .inr ⟨h, hshort.resolve_left (by omega)⟩
  clear hF hB0 hshort hb1
  rcases hcase with h | ⟨h1, h2⟩
  · have h' : (s.size : Int) < 2 := by omega
    go_enter Tryz.func45, Tryz.ntmps45
    have hbk := HBL.out.1
    go_wp2_with fail
    refine bodyPost_ret (results_cell_tmp_row (by rfl) _ _ B 33 _ _ _ (by rfl) (by rfl) hbk Tryz.underlying33 (by rfl) (by kernel_rfl)) rfl ?_
    rw [HF.out]
    try rw [hB]
    exact ⟨rfl, HBL.out.2⟩
  · have h' : ¬ (s.size : Int) < 2 := by omega
    have h0 : (0 : Int) < (s.size : Int) := by omega
    have h0' : 0 < s.size := by omega
    have h91 : ((s[0].toNat : Int) != 91) = true := by
      have hne : s[0] ≠ 91 := by
        intro e
        apply h2
        have := drop_cons s 0 h0'
        rw [List.drop_zero, e] at this
        rw [this]; rfl
      have h := u8_beq s[0] 91 hne
      show (!((s[0].toNat : Int) == ((91 : UInt8).toNat : Int))) = true
      rw [h]; rfl
    go_enter Tryz.func45, Tryz.ntmps45
    have hbk := HBL.out.1
    go_wp2_with fail
    refine bodyPost_ret (results_cell_tmp_row (by rfl) _ _ B 33 _ _ _ (by rfl) (by rfl) hbk Tryz.underlying33 (by rfl) (by kernel_rfl)) rfl ?_
    rw [HF.out]
    try rw [hB]
    exact ⟨rfl, HBL.out.2⟩
end Go.Proofs.YtacgnbelcpmjfaaGreatDoor.Dx
set_option linter.unusedVariables false
set_option linter.unusedSimpArgs false
namespace Go.Proofs.YtacgnbelcpmjfaaGreatDoor.Dx
open Go.RowKit Go.Proofs Mx
set_option maxRecDepth 100000 in
set_option maxHeartbeats 8000000 in
theorem rread_pos (s : ByteArray) (hs : s.size ≤ 400000000) (hsz : 2 ≤ s.size) (hhd : s.data.toList.head? = some 91) (h94n : ∀ h : 1 < s.size, s[1] ≠ 94) (w : World) :
    Calls Tryz.prog 45 #[.string s] w fun e w' => ReadOut (readF s.data.toList) e ∧ Below w.heap.size w w' := by
  obtain ⟨B, hB⟩ : ∃ B, w.heap.size = B := ⟨_, rfl⟩
  have hB0 : Blk (w.alloc (.cells #[.int .u64 0, .int .u64 0, .int .u64 0, .int .u64 0] 33)) B 33 (setC 0) := Blk.new_ hB _ _
  have l0 : 0 < s.size := by omega
  have l1 : 1 < s.size := by omega
  have h0 : s[0] = 91 := by
    have := drop_cons s 0 l0
    rw [List.drop_zero] at this
    rw [this] at hhd
    simpa using hhd
  obtain ⟨c1, hc1⟩ : ∃ c1, s[1] = c1 := ⟨_, rfl⟩
  have hl : s.data.toList = 91 :: c1 :: s.data.toList.drop 2 := by
    have e0 := drop_cons s 0 l0
    have e1 := drop_cons s 1 l1
    rw [List.drop_zero, h0] at e0
    rw [hc1] at e1
    rw [e0, e1]
    rfl
  have hd1 : s.data.toList.drop 1 = c1 :: s.data.toList.drop 2 := by
    have e1 := drop_cons s 1 l1
    rw [hc1] at e1
    exact e1
  have g0 : ¬ (s.size : Int) < 2 := by omega
  have g1 : (1 : Int) < (s.size : Int) := by omega
  have g2 : (0 : Int) < (s.size : Int) := by omega
  clear hhd
  have hW1 : RV w ((w.alloc (.cells #[.int .u64 0, .int .u64 0, .int .u64 0, .int .u64 0] 33)).alloc (.cells #[.int .u64 0, .int .u64 0, .int .u64 0, .int .u64 0] 33)) B 0 :=
    ⟨hB0.alloc _, Blk.new_ (by simp [hB]) _ _, hB ▸ (((Below.refl w.heap.size w).alloc (Nat.le_refl _) _).alloc (by simp) _), Nat.pos_of_ne_zero (by decide)⟩
  clear hB0
  have h94 : c1 ≠ 94 := hc1 ▸ h94n (by omega)
  have n94 : ((c1.toNat : Int) == 94) = false := u8_beq c1 94 h94
  have hsz' : 1 ≤ s.size := by omega
  obtain ⟨R0, hR0⟩ : ∃ R0, (itemsF (s.data.toList.drop 1)).bind (makeF 0) = R0 := ⟨_, rfl⟩
  have hRF : readF s.data.toList = R0 := by
    rw [← hR0, hd1, hl, readF, if_neg (by intro e; injection e with e; exact h94 e)]
    simp
  clear hl hd1 h94
  have HRF := Lib.hid (And.intro hRF True.intro)
  clear hRF
  go_enter Tryz.func45, Tryz.ntmps45
  go_wp2_with fail
  generalize ((w.alloc (.cells #[.int .u64 0, .int .u64 0, .int .u64 0, .int .u64 0] 33)).alloc (.cells #[.int .u64 0, .int .u64 0, .int .u64 0, .int .u64 0] 33)) = W1 at hW1 ⊢
  go_loopg [4] (s.size - 1) (fun m v wr => ∃ (i M : Nat), i ≤ s.size ∧ m = s.size - i ∧ v = .int .i64 i ∧ RV w wr B M ∧ R0 = (itemsF (s.data.toList.drop i)).bind (makeF M))
  case atStart => exact ⟨1, 0, hsz', rfl, rfl, hW1, hR0.symm⟩
  case round =>
    obtain ⟨i, M, hi, hm, rfl, hV, hx⟩ := hrel
    have A := Lib.hid (And.intro hm (And.intro hV hx))
    obtain ⟨o0, o1, o2, o3, of⟩ := hV.out.facts4
    obtain ⟨r0, r1, r2, r3, rf⟩ := hV.res.facts4
    have AV := Lib.hid hV
    clear hm hx hV hW1 hR0
    by_cases hlt : i < s.size
    · obtain ⟨c, hc⟩ : ∃ c, s[i] = c := ⟨_, rfl⟩
      have HD := Lib.hid (show s.data.toList.drop i = c :: s.data.toList.drop (i + 1) by rw [drop_cons s i hlt, hc])
      have hlt' : (i : Int) < (s.size : Int) := by omega
      have hi0 : (0 : Int) ≤ (i : Int) := by omega
      by_cases h93 : c = 93
      · subst h93
        by_cases hlast : i + 1 = s.size
        · have hne : ((i : Int) != (s.size : Int) - 1) = false := by
            have : (i : Int) = (s.size : Int) - 1 := by omega
            rw [this]; simp
          have HN := Lib.hid (show R0 = some M by rw [A.out.2.2, HD.out, drop_all s (i + 1) (by omega), bindF_end])
          clear hlast
          have hbk := (((AV.out.res.set_ 0 (.int .u64 (wd M 0))).set_ 1 (.int .u64 (wd M 1))).set_ 2 (.int .u64 (wd M 2))).set_ 3 (.int .u64 (wd M 3))
          go_wp2_with fail
          refine bodyPost_ret (results_cell_tmp_row (by rfl) _ _ B 33 _ _ _ (by rfl) (by rfl) hbk Tryz.underlying33 (by rfl) (by kernel_rfl)) rfl ?_
          rw [HRF.out.1, HN.out]
          refine ⟨rfl, ?_⟩
          try rw [hB]
          refine (((AV.out.bel.setCell ?_ _).setCell ?_ _).setCell ?_ _).setCell ?_ _ <;> simp
        · have hne : ((i : Int) != (s.size : Int) - 1) = true := by simp; omega
          have HN := Lib.hid (show R0 = none by
            rw [A.out.2.2]
            refine bindF_bad ?_ (by rw [HD.out]; exact take_93 _)
            intro e
            have := congrArg List.length e
            rw [List.length_drop, ← Lib.size_eq] at this
            simp at this
            omega)
          clear hlast
          have hbk := (((AV.out.res.set_ 0 (.int .u64 0)).set_ 1 (.int .u64 0)).set_ 2 (.int .u64 0)).set_ 3 (.int .u64 0)
          go_wp2_with fail
          refine bodyPost_ret (results_cell_tmp_row (by rfl) _ _ B 33 _ _ _ (by rfl) (by rfl) hbk Tryz.underlying33 (by rfl) (by kernel_rfl)) rfl ?_
          rw [HRF.out.1, HN.out]
          refine ⟨rfl, ?_⟩
          try rw [hB]
          refine (((AV.out.bel.setCell ?_ _).setCell ?_ _).setCell ?_ _).setCell ?_ _ <;> simp
      have n93 : ((c.toNat : Int) != 93) = true := by
        have h := u8_beq c 93 h93
        show (!((c.toNat : Int) == ((93 : UInt8).toNat : Int))) = true
        rw [h]; rfl
      have hN93 := ne_93 HD.out h93
      have HN93 := Lib.hid hN93
      have hbyte := rbyte_any s i (by omega) (by omega) wr
      clear h93 hN93
      cases ht : takeF (s.data.toList.drop i) with
      | none =>
        rw [byteR_none ht] at hbyte
        have HN := Lib.hid (show R0 = none by rw [A.out.2.2]; exact bindF_bad HN93.out ht)
        clear ht
        go_wp2_with fail
        refine hbyte.mono ?_
        rintro e w2 ⟨rfl, hb2⟩
        have A2 := Lib.hid (AV.out.below hb2)
        clear o0 o1 o2 o3 of r0 r1 r2 r3 rf hb2 hbyte
        obtain ⟨r0, r1, r2, r3, rf⟩ := A2.out.res.facts4
        have hbk := (((A2.out.res.set_ 0 (.int .u64 0)).set_ 1 (.int .u64 0)).set_ 2 (.int .u64 0)).set_ 3 (.int .u64 0)
        go_wp2_with fail
        refine bodyPost_ret (results_cell_tmp_row (by rfl) _ _ B 33 _ _ _ (by rfl) (by rfl) hbk Tryz.underlying33 (by rfl) (by kernel_rfl)) rfl ?_
        rw [HRF.out.1, HN.out]
        refine ⟨rfl, ?_⟩
        try rw [hB]
        refine (((A2.out.bel.setCell ?_ _).setCell ?_ _).setCell ?_ _).setCell ?_ _ <;> simp
      | some q =>
        obtain ⟨a, n⟩ := q
        have hpos := takeF_pos _ _ _ ht
        rw [List.length_drop, ← Lib.size_eq] at hpos
        rw [byteR_some ht] at hbyte
        have ha255 := a.toNat_lt
        have HT := Lib.hid ht
        clear ht
        go_wp2_with fail
        refine hbyte.mono ?_
        rintro e w2 ⟨rfl, hb2⟩
        have A2 := Lib.hid (AV.out.below hb2)
        clear o0 o1 o2 o3 of r0 r1 r2 r3 rf hb2 hbyte
        obtain ⟨r0, r1, r2, r3, rf⟩ := A2.out.res.facts4
        obtain ⟨o0, o1, o2, o3, of⟩ := A2.out.out.facts4
        have ha0 : (0 : Int) ≤ (a.toNat : Int) := by omega
        have ha0' : ¬ (a.toNat : Int) < 0 := by omega
        by_cases hdash : (s.data.toList.drop (i + n)).head? = some 45
        · have hnl : i + n < s.size := by
            rcases Nat.lt_or_ge (i + n) s.size with h | h
            · exact h
            · rw [drop_all s _ h] at hdash; cases hdash
          have hdc : s[i + n] = 45 := by
            rw [drop_cons s (i + n) hnl] at hdash
            simpa using hdash
          have HDH := Lib.hid (show ((s.data.toList.drop i).drop n).head? = some 45 by rw [List.drop_drop]; exact hdash)
          have k1 : (i : Int) + (n : Int) < (s.size : Int) := by omega
          have k0 : (0 : Int) ≤ (i : Int) + (n : Int) := by omega
          have hbyte2 := rbyte_any s (i + n + 1) (by omega) (by omega)
          clear hdash
          cases ht2 : takeF (s.data.toList.drop (i + n + 1)) with
          | none =>
            simp only [byteR_none ht2] at hbyte2
            have HN := Lib.hid (show R0 = none by rw [A.out.2.2]; exact bindF_two_no HN93.out a n HT.out HDH.out (by rw [List.drop_drop]; exact ht2))
            have hm1 : (-1 : Int) < (a.toNat : Int) := by omega
            clear ht2
            go_wp2_with fail
            refine (hbyte2 _).mono ?_
            rintro e w3 ⟨rfl, hb3⟩
            have A3 := Lib.hid (A2.out.below hb3)
            clear o0 o1 o2 o3 of r0 r1 r2 r3 rf hb3 hbyte2
            obtain ⟨r0, r1, r2, r3, rf⟩ := A3.out.res.facts4
            have hbk := (((A3.out.res.set_ 0 (.int .u64 0)).set_ 1 (.int .u64 0)).set_ 2 (.int .u64 0)).set_ 3 (.int .u64 0)
            go_wp2_with fail
            refine bodyPost_ret (results_cell_tmp_row (by rfl) _ _ B 33 _ _ _ (by rfl) (by rfl) hbk Tryz.underlying33 (by rfl) (by kernel_rfl)) rfl ?_
            rw [HRF.out.1, HN.out]
            refine ⟨rfl, ?_⟩
            try rw [hB]
            refine (((A3.out.bel.setCell ?_ _).setCell ?_ _).setCell ?_ _).setCell ?_ _ <;> simp
          | some q2 =>
            obtain ⟨b, k⟩ := q2
            have hpos2 := takeF_pos _ _ _ ht2
            rw [List.length_drop, ← Lib.size_eq] at hpos2
            simp only [byteR_some ht2] at hbyte2
            have HT2 := Lib.hid (show takeF ((s.data.toList.drop i).drop (n + 1)) = some (b, k) by rw [List.drop_drop]; exact ht2)
            have hb255 := b.toNat_lt
            clear ht2
            go_wp2_with fail
            refine (hbyte2 _).mono ?_
            rintro e w3 ⟨rfl, hb3⟩
            have A3 := Lib.hid (A2.out.below hb3)
            clear o0 o1 o2 o3 of r0 r1 r2 r3 rf hb3 hbyte2
            obtain ⟨r0, r1, r2, r3, rf⟩ := A3.out.res.facts4
            by_cases hba : b.toNat < a.toNat
            · have hba' : (b.toNat : Int) < (a.toNat : Int) := by omega
              have HN := Lib.hid (show R0 = none by rw [A.out.2.2]; exact bindF_two_less HN93.out a b n k HT.out HDH.out HT2.out hba)
              clear hba
              have hbk := (((A3.out.res.set_ 0 (.int .u64 0)).set_ 1 (.int .u64 0)).set_ 2 (.int .u64 0)).set_ 3 (.int .u64 0)
              go_wp2_with fail
              refine bodyPost_ret (results_cell_tmp_row (by rfl) _ _ B 33 _ _ _ (by rfl) (by rfl) hbk Tryz.underlying33 (by rfl) (by kernel_rfl)) rfl ?_
              rw [HRF.out.1, HN.out]
              refine ⟨rfl, ?_⟩
              try rw [hB]
              refine (((A3.out.bel.setCell ?_ _).setCell ?_ _).setCell ?_ _).setCell ?_ _ <;> simp
            · have hba' : ¬ (b.toNat : Int) < (a.toNat : Int) := by omega
              have hbd : decide ((b.toNat : Int) < (a.toNat : Int)) = false := decide_eq_false (by omega)
              have hbd2 : decide (b.toNat < a.toNat) = false := decide_eq_false (by omega)
              have had : decide ((a.toNat : Int) < 0) = false := decide_eq_false (by omega)
              have hab : a.toNat ≤ b.toNat := by omega
              have HI := Lib.hid (show (itemsF (s.data.toList.drop i)).bind (makeF M) = (itemsF (s.data.toList.drop (i + n + 1 + k))).bind (makeF (fillM M a.toNat (b.toNat + 1 - a.toNat))) by
                rw [bindF_two HN93.out a b n k HT.out HDH.out HT2.out hab, List.drop_drop, show i + (n + 1 + k) = i + n + 1 + k by omega])
              have HR := A3
              clear hba r0 r1 r2 r3 rf
              go_wp2_with fail
              go_loopg [10] (b.toNat + 1 - a.toNat) (fun m v wx => ∃ (x N : Nat), a.toNat ≤ x ∧ x ≤ b.toNat + 1 ∧ m = b.toNat + 1 - x ∧ v = .int .i64 x ∧ RV w wx B N ∧ fillM M a.toNat (b.toNat + 1 - a.toNat) = fillM N x (b.toNat + 1 - x))
              case atStart => exact ⟨a.toNat, M, by omega, by omega, rfl, rfl, HR.out, rfl⟩
              case round =>
                obtain ⟨x, N, hax, hxb, hm2, rfl, hV, hfl⟩ := hrel
                obtain ⟨s0, s1, s2, s3, sf⟩ := hV.out.facts4
                have J := Lib.hid (And.intro hm2 (And.intro hV hfl))
                clear hm2 hV hfl
                have hb255 := b.toNat_lt
                by_cases hx : x ≤ b.toNat
                · have hx' : (x : Int) ≤ (b.toNat : Int) := by omega
                  go_wp2_with fail
                  refine (with_any N x (by omega) _).mono ?_
                  rintro e w5 ⟨rfl, hb5⟩
                  have J5 := Lib.hid (J.out.2.1.below hb5)
                  obtain ⟨s0, s1, s2, s3, sf⟩ := J5.out.out.facts4
                  unfold setV
                  clear hb5
                  go_wp2_with fail
                  go_roundg (b.toNat + 1 - (x + 1))
                  case measure => have := J.out.1; omega
                  case rel =>
                    refine ⟨x + 1, N ||| 2 ^ x, by omega, by omega, rfl, rfl, J5.out.set (or_lt N x J5.out.lt (by omega)), ?_⟩
                    rw [J.out.2.2, show b.toNat + 1 - x = (b.toNat - x) + 1 by omega, fillM, show b.toNat + 1 - (x + 1) = b.toNat - x by omega]
                · have hx' : ¬ (x : Int) ≤ (b.toNat : Int) := by omega
                  go_wp2_with fail
                  go_roundg (s.size - (i + n + 1 + k))
                  case measure => have := A.out.1; omega
                  case rel =>
                    have hfl := J.out.2.2
                    rw [show b.toNat + 1 - x = 0 by omega, fillM] at hfl
                    refine ⟨i + n + 1 + k, N, by omega, by omega, by first | rfl | go_num, J.out.2.1, ?_⟩
                    rw [A.out.2.2, HI.out, hfl]
        · have HDH := Lib.hid (show ((s.data.toList.drop i).drop n).head? ≠ some 45 by rw [List.drop_drop]; exact hdash)
          have HI := Lib.hid (show (itemsF (s.data.toList.drop i)).bind (makeF M) = (itemsF (s.data.toList.drop (i + n))).bind (makeF (fillM M a.toNat (a.toNat + 1 - a.toNat))) by
            rw [bindF_one HN93.out a n HT.out HDH.out, List.drop_drop])
          have HR := A2
          have haa : ¬ (a.toNat : Int) < (a.toNat : Int) := by omega
          clear r0 r1 r2 r3 rf o0 o1 o2 o3 of
          by_cases hnl : i + n < s.size
          · have k1 : (i : Int) + (n : Int) < (s.size : Int) := by omega
            have k0 : (0 : Int) ≤ (i : Int) + (n : Int) := by omega
            obtain ⟨d, hdd⟩ : ∃ d, s[i + n] = d := ⟨_, rfl⟩
            have h45 : d ≠ 45 := by
              rintro rfl
              apply hdash
              rw [drop_cons s (i + n) hnl, hdd]; rfl
            have n45 : ((d.toNat : Int) == 45) = false := u8_beq d 45 h45
            clear hdash h45
            go_wp2_with fail
            go_loopg [10] (a.toNat + 1 - a.toNat) (fun m v wx => ∃ (x N : Nat), a.toNat ≤ x ∧ x ≤ a.toNat + 1 ∧ m = a.toNat + 1 - x ∧ v = .int .i64 x ∧ RV w wx B N ∧ fillM M a.toNat (a.toNat + 1 - a.toNat) = fillM N x (a.toNat + 1 - x))
            case atStart => exact ⟨a.toNat, M, by omega, by omega, rfl, rfl, HR.out, rfl⟩
            case round =>
              obtain ⟨x, N, hax, hxb, hm2, rfl, hV, hfl⟩ := hrel
              obtain ⟨s0, s1, s2, s3, sf⟩ := hV.out.facts4
              have J := Lib.hid (And.intro hm2 (And.intro hV hfl))
              clear hm2 hV hfl
              have hb255 := a.toNat_lt
              by_cases hx : x ≤ a.toNat
              · have hx' : (x : Int) ≤ (a.toNat : Int) := by omega
                go_wp2_with fail
                refine (with_any N x (by omega) _).mono ?_
                rintro e w5 ⟨rfl, hb5⟩
                have J5 := Lib.hid (J.out.2.1.below hb5)
                obtain ⟨s0, s1, s2, s3, sf⟩ := J5.out.out.facts4
                unfold setV
                clear hb5
                go_wp2_with fail
                go_roundg (a.toNat + 1 - (x + 1))
                case measure => have := J.out.1; omega
                case rel =>
                  refine ⟨x + 1, N ||| 2 ^ x, by omega, by omega, rfl, rfl, J5.out.set (or_lt N x J5.out.lt (by omega)), ?_⟩
                  rw [J.out.2.2, show a.toNat + 1 - x = (a.toNat - x) + 1 by omega, fillM, show a.toNat + 1 - (x + 1) = a.toNat - x by omega]
              · have hx' : ¬ (x : Int) ≤ (a.toNat : Int) := by omega
                go_wp2_with fail
                go_roundg (s.size - (i + n))
                case measure => have := A.out.1; omega
                case rel =>
                  have hfl := J.out.2.2
                  rw [show a.toNat + 1 - x = 0 by omega, fillM] at hfl
                  refine ⟨i + n, N, by omega, by omega, by first | rfl | go_num, J.out.2.1, ?_⟩
                  rw [A.out.2.2, HI.out, hfl]
          · have k1 : ¬ (i : Int) + (n : Int) < (s.size : Int) := by omega
            clear hdash
            go_wp2_with fail
            go_loopg [10] (a.toNat + 1 - a.toNat) (fun m v wx => ∃ (x N : Nat), a.toNat ≤ x ∧ x ≤ a.toNat + 1 ∧ m = a.toNat + 1 - x ∧ v = .int .i64 x ∧ RV w wx B N ∧ fillM M a.toNat (a.toNat + 1 - a.toNat) = fillM N x (a.toNat + 1 - x))
            case atStart => exact ⟨a.toNat, M, by omega, by omega, rfl, rfl, HR.out, rfl⟩
            case round =>
              obtain ⟨x, N, hax, hxb, hm2, rfl, hV, hfl⟩ := hrel
              obtain ⟨s0, s1, s2, s3, sf⟩ := hV.out.facts4
              have J := Lib.hid (And.intro hm2 (And.intro hV hfl))
              clear hm2 hV hfl
              have hb255 := a.toNat_lt
              by_cases hx : x ≤ a.toNat
              · have hx' : (x : Int) ≤ (a.toNat : Int) := by omega
                go_wp2_with fail
                refine (with_any N x (by omega) _).mono ?_
                rintro e w5 ⟨rfl, hb5⟩
                have J5 := Lib.hid (J.out.2.1.below hb5)
                obtain ⟨s0, s1, s2, s3, sf⟩ := J5.out.out.facts4
                unfold setV
                clear hb5
                go_wp2_with fail
                go_roundg (a.toNat + 1 - (x + 1))
                case measure => have := J.out.1; omega
                case rel =>
                  refine ⟨x + 1, N ||| 2 ^ x, by omega, by omega, rfl, rfl, J5.out.set (or_lt N x J5.out.lt (by omega)), ?_⟩
                  rw [J.out.2.2, show a.toNat + 1 - x = (a.toNat - x) + 1 by omega, fillM, show a.toNat + 1 - (x + 1) = a.toNat - x by omega]
              · have hx' : ¬ (x : Int) ≤ (a.toNat : Int) := by omega
                go_wp2_with fail
                go_roundg (s.size - (i + n))
                case measure => have := A.out.1; omega
                case rel =>
                  have hfl := J.out.2.2
                  rw [show a.toNat + 1 - x = 0 by omega, fillM] at hfl
                  refine ⟨i + n, N, by omega, by omega, by first | rfl | go_num, J.out.2.1, ?_⟩
                  rw [A.out.2.2, HI.out, hfl]
    · obtain rfl : i = s.size := by omega
      have HN := Lib.hid (show R0 = none by rw [A.out.2.2, drop_all s _ (Nat.le_refl _)]; exact bindF_bad (by simp) rfl)
      have hne : ((s.size : Int) != (s.size : Int) - 1) = true := by simp; omega
      have hbk := (((AV.out.res.set_ 0 (.int .u64 0)).set_ 1 (.int .u64 0)).set_ 2 (.int .u64 0)).set_ 3 (.int .u64 0)
      go_wp2_with fail
      refine bodyPost_ret (results_cell_tmp_row (by rfl) _ _ B 33 _ _ _ (by rfl) (by rfl) hbk Tryz.underlying33 (by rfl) (by kernel_rfl)) rfl ?_
      rw [HRF.out.1, HN.out]
      refine ⟨rfl, ?_⟩
      try rw [hB]
      refine (((AV.out.bel.setCell ?_ _).setCell ?_ _).setCell ?_ _).setCell ?_ _ <;> simp
end Go.Proofs.YtacgnbelcpmjfaaGreatDoor.Dx
set_option linter.unusedVariables false
set_option linter.unusedSimpArgs false
namespace Go.Proofs.YtacgnbelcpmjfaaGreatDoor.Dx
open Go.RowKit Go.Proofs Mx
set_option maxRecDepth 100000 in
set_option maxHeartbeats 8000000 in
theorem rread_neg (s : ByteArray) (hs : s.size ≤ 400000000) (hsz : 2 ≤ s.size) (hhd : s.data.toList.head? = some 91) (h94 : ∀ h : 1 < s.size, s[1] = 94) (w : World) :
    Calls Tryz.prog 45 #[.string s] w fun e w' => ReadOut (readF s.data.toList) e ∧ Below w.heap.size w w' := by
  obtain ⟨B, hB⟩ : ∃ B, w.heap.size = B := ⟨_, rfl⟩
  have hB0 : Blk (w.alloc (.cells #[.int .u64 0, .int .u64 0, .int .u64 0, .int .u64 0] 33)) B 33 (setC 0) := Blk.new_ hB _ _
  have l0 : 0 < s.size := by omega
  have l1 : 1 < s.size := by omega
  have h0 : s[0] = 91 := by
    have := drop_cons s 0 l0
    rw [List.drop_zero] at this
    rw [this] at hhd
    simpa using hhd
  obtain ⟨c1, hc1⟩ : ∃ c1, s[1] = c1 := ⟨_, rfl⟩
  have hl : s.data.toList = 91 :: c1 :: s.data.toList.drop 2 := by
    have e0 := drop_cons s 0 l0
    have e1 := drop_cons s 1 l1
    rw [List.drop_zero, h0] at e0
    rw [hc1] at e1
    rw [e0, e1]
    rfl
  have hd1 : s.data.toList.drop 1 = c1 :: s.data.toList.drop 2 := by
    have e1 := drop_cons s 1 l1
    rw [hc1] at e1
    exact e1
  have g0 : ¬ (s.size : Int) < 2 := by omega
  have g1 : (1 : Int) < (s.size : Int) := by omega
  have g2 : (0 : Int) < (s.size : Int) := by omega
  clear hhd
  have hW1 : RV w ((w.alloc (.cells #[.int .u64 0, .int .u64 0, .int .u64 0, .int .u64 0] 33)).alloc (.cells #[.int .u64 0, .int .u64 0, .int .u64 0, .int .u64 0] 33)) B 0 :=
    ⟨hB0.alloc _, Blk.new_ (by simp [hB]) _ _, hB ▸ (((Below.refl w.heap.size w).alloc (Nat.le_refl _) _).alloc (by simp) _), Nat.pos_of_ne_zero (by decide)⟩
  clear hB0
  obtain rfl : c1 = 94 := hc1.symm.trans (h94 (by omega))
  have hsz' : 2 ≤ s.size := hsz
  obtain ⟨R0, hR0⟩ : ∃ R0, (itemsF (s.data.toList.drop 2)).bind (makeF 0) = R0 := ⟨_, rfl⟩
  have hRF : readF s.data.toList = R0.map notM := by
    rw [hl, readF]
    rw [if_pos (by rfl), ← hR0]; rfl
  clear hl hd1
  have HRF := Lib.hid (And.intro hRF True.intro)
  clear hRF
  go_enter Tryz.func45, Tryz.ntmps45
  go_wp2_with fail
  generalize ((w.alloc (.cells #[.int .u64 0, .int .u64 0, .int .u64 0, .int .u64 0] 33)).alloc (.cells #[.int .u64 0, .int .u64 0, .int .u64 0, .int .u64 0] 33)) = W1 at hW1 ⊢
  go_loopg [4] (s.size - 2) (fun m v wr => ∃ (i M : Nat), i ≤ s.size ∧ m = s.size - i ∧ v = .int .i64 i ∧ RV w wr B M ∧ R0 = (itemsF (s.data.toList.drop i)).bind (makeF M))
  case atStart => exact ⟨2, 0, hsz', rfl, rfl, hW1, hR0.symm⟩
  case round =>
    obtain ⟨i, M, hi, hm, rfl, hV, hx⟩ := hrel
    have A := Lib.hid (And.intro hm (And.intro hV hx))
    obtain ⟨o0, o1, o2, o3, of⟩ := hV.out.facts4
    obtain ⟨r0, r1, r2, r3, rf⟩ := hV.res.facts4
    have AV := Lib.hid hV
    clear hm hx hV hW1 hR0
    by_cases hlt : i < s.size
    · obtain ⟨c, hc⟩ : ∃ c, s[i] = c := ⟨_, rfl⟩
      have HD := Lib.hid (show s.data.toList.drop i = c :: s.data.toList.drop (i + 1) by rw [drop_cons s i hlt, hc])
      have hlt' : (i : Int) < (s.size : Int) := by omega
      have hi0 : (0 : Int) ≤ (i : Int) := by omega
      by_cases h93 : c = 93
      · subst h93
        by_cases hlast : i + 1 = s.size
        · have hne : ((i : Int) != (s.size : Int) - 1) = false := by
            have : (i : Int) = (s.size : Int) - 1 := by omega
            rw [this]; simp
          have HN := Lib.hid (show R0 = some M by rw [A.out.2.2, HD.out, drop_all s (i + 1) (by omega), bindF_end])
          clear hlast
          go_wp2_with fail
          refine (rnot_any M AV.out.lt _).mono ?_
          rintro e w2 ⟨rfl, hb2⟩
          have hV2 := AV.out.below hb2
          clear o0 o1 o2 o3 of r0 r1 r2 r3 rf
          obtain ⟨o0, o1, o2, o3, of⟩ := hV2.out.facts4
          obtain ⟨r0, r1, r2, r3, rf⟩ := hV2.res.facts4
          have H2 := Lib.hid (hV2.set (N := notM M) (notM_lt M AV.out.lt))
          unfold setV
          clear hb2 hV2
          have hbk := (((H2.out.res.set_ 0 (.int .u64 (wd (notM M) 0))).set_ 1 (.int .u64 (wd (notM M) 1))).set_ 2 (.int .u64 (wd (notM M) 2))).set_ 3 (.int .u64 (wd (notM M) 3))
          go_wp2_with fail
          refine bodyPost_ret (results_cell_tmp_row (by rfl) _ _ B 33 _ _ _ (by rfl) (by rfl) hbk Tryz.underlying33 (by rfl) (by kernel_rfl)) rfl ?_
          rw [HRF.out.1, HN.out]
          refine ⟨rfl, ?_⟩
          try rw [hB]
          refine (((H2.out.bel.setCell ?_ _).setCell ?_ _).setCell ?_ _).setCell ?_ _ <;> simp
        · have hne : ((i : Int) != (s.size : Int) - 1) = true := by simp; omega
          have HN := Lib.hid (show R0 = none by
            rw [A.out.2.2]
            refine bindF_bad ?_ (by rw [HD.out]; exact take_93 _)
            intro e
            have := congrArg List.length e
            rw [List.length_drop, ← Lib.size_eq] at this
            simp at this
            omega)
          clear hlast
          have hbk := (((AV.out.res.set_ 0 (.int .u64 0)).set_ 1 (.int .u64 0)).set_ 2 (.int .u64 0)).set_ 3 (.int .u64 0)
          go_wp2_with fail
          refine bodyPost_ret (results_cell_tmp_row (by rfl) _ _ B 33 _ _ _ (by rfl) (by rfl) hbk Tryz.underlying33 (by rfl) (by kernel_rfl)) rfl ?_
          rw [HRF.out.1, HN.out]
          refine ⟨rfl, ?_⟩
          try rw [hB]
          refine (((AV.out.bel.setCell ?_ _).setCell ?_ _).setCell ?_ _).setCell ?_ _ <;> simp
      have n93 : ((c.toNat : Int) != 93) = true := by
        have h := u8_beq c 93 h93
        show (!((c.toNat : Int) == ((93 : UInt8).toNat : Int))) = true
        rw [h]; rfl
      have hN93 := ne_93 HD.out h93
      have HN93 := Lib.hid hN93
      have hbyte := rbyte_any s i (by omega) (by omega) wr
      clear h93 hN93
      cases ht : takeF (s.data.toList.drop i) with
      | none =>
        rw [byteR_none ht] at hbyte
        have HN := Lib.hid (show R0 = none by rw [A.out.2.2]; exact bindF_bad HN93.out ht)
        clear ht
        go_wp2_with fail
        refine hbyte.mono ?_
        rintro e w2 ⟨rfl, hb2⟩
        have A2 := Lib.hid (AV.out.below hb2)
        clear o0 o1 o2 o3 of r0 r1 r2 r3 rf hb2 hbyte
        obtain ⟨r0, r1, r2, r3, rf⟩ := A2.out.res.facts4
        have hbk := (((A2.out.res.set_ 0 (.int .u64 0)).set_ 1 (.int .u64 0)).set_ 2 (.int .u64 0)).set_ 3 (.int .u64 0)
        go_wp2_with fail
        refine bodyPost_ret (results_cell_tmp_row (by rfl) _ _ B 33 _ _ _ (by rfl) (by rfl) hbk Tryz.underlying33 (by rfl) (by kernel_rfl)) rfl ?_
        rw [HRF.out.1, HN.out]
        refine ⟨rfl, ?_⟩
        try rw [hB]
        refine (((A2.out.bel.setCell ?_ _).setCell ?_ _).setCell ?_ _).setCell ?_ _ <;> simp
      | some q =>
        obtain ⟨a, n⟩ := q
        have hpos := takeF_pos _ _ _ ht
        rw [List.length_drop, ← Lib.size_eq] at hpos
        rw [byteR_some ht] at hbyte
        have ha255 := a.toNat_lt
        have HT := Lib.hid ht
        clear ht
        go_wp2_with fail
        refine hbyte.mono ?_
        rintro e w2 ⟨rfl, hb2⟩
        have A2 := Lib.hid (AV.out.below hb2)
        clear o0 o1 o2 o3 of r0 r1 r2 r3 rf hb2 hbyte
        obtain ⟨r0, r1, r2, r3, rf⟩ := A2.out.res.facts4
        obtain ⟨o0, o1, o2, o3, of⟩ := A2.out.out.facts4
        have ha0 : (0 : Int) ≤ (a.toNat : Int) := by omega
        have ha0' : ¬ (a.toNat : Int) < 0 := by omega
        by_cases hdash : (s.data.toList.drop (i + n)).head? = some 45
        · have hnl : i + n < s.size := by
            rcases Nat.lt_or_ge (i + n) s.size with h | h
            · exact h
            · rw [drop_all s _ h] at hdash; cases hdash
          have hdc : s[i + n] = 45 := by
            rw [drop_cons s (i + n) hnl] at hdash
            simpa using hdash
          have HDH := Lib.hid (show ((s.data.toList.drop i).drop n).head? = some 45 by rw [List.drop_drop]; exact hdash)
          have k1 : (i : Int) + (n : Int) < (s.size : Int) := by omega
          have k0 : (0 : Int) ≤ (i : Int) + (n : Int) := by omega
          have hbyte2 := rbyte_any s (i + n + 1) (by omega) (by omega)
          clear hdash
          cases ht2 : takeF (s.data.toList.drop (i + n + 1)) with
          | none =>
            simp only [byteR_none ht2] at hbyte2
            have HN := Lib.hid (show R0 = none by rw [A.out.2.2]; exact bindF_two_no HN93.out a n HT.out HDH.out (by rw [List.drop_drop]; exact ht2))
            have hm1 : (-1 : Int) < (a.toNat : Int) := by omega
            clear ht2
            go_wp2_with fail
            refine (hbyte2 _).mono ?_
            rintro e w3 ⟨rfl, hb3⟩
            have A3 := Lib.hid (A2.out.below hb3)
            clear o0 o1 o2 o3 of r0 r1 r2 r3 rf hb3 hbyte2
            obtain ⟨r0, r1, r2, r3, rf⟩ := A3.out.res.facts4
            have hbk := (((A3.out.res.set_ 0 (.int .u64 0)).set_ 1 (.int .u64 0)).set_ 2 (.int .u64 0)).set_ 3 (.int .u64 0)
            go_wp2_with fail
            refine bodyPost_ret (results_cell_tmp_row (by rfl) _ _ B 33 _ _ _ (by rfl) (by rfl) hbk Tryz.underlying33 (by rfl) (by kernel_rfl)) rfl ?_
            rw [HRF.out.1, HN.out]
            refine ⟨rfl, ?_⟩
            try rw [hB]
            refine (((A3.out.bel.setCell ?_ _).setCell ?_ _).setCell ?_ _).setCell ?_ _ <;> simp
          | some q2 =>
            obtain ⟨b, k⟩ := q2
            have hpos2 := takeF_pos _ _ _ ht2
            rw [List.length_drop, ← Lib.size_eq] at hpos2
            simp only [byteR_some ht2] at hbyte2
            have HT2 := Lib.hid (show takeF ((s.data.toList.drop i).drop (n + 1)) = some (b, k) by rw [List.drop_drop]; exact ht2)
            have hb255 := b.toNat_lt
            clear ht2
            go_wp2_with fail
            refine (hbyte2 _).mono ?_
            rintro e w3 ⟨rfl, hb3⟩
            have A3 := Lib.hid (A2.out.below hb3)
            clear o0 o1 o2 o3 of r0 r1 r2 r3 rf hb3 hbyte2
            obtain ⟨r0, r1, r2, r3, rf⟩ := A3.out.res.facts4
            by_cases hba : b.toNat < a.toNat
            · have hba' : (b.toNat : Int) < (a.toNat : Int) := by omega
              have HN := Lib.hid (show R0 = none by rw [A.out.2.2]; exact bindF_two_less HN93.out a b n k HT.out HDH.out HT2.out hba)
              clear hba
              have hbk := (((A3.out.res.set_ 0 (.int .u64 0)).set_ 1 (.int .u64 0)).set_ 2 (.int .u64 0)).set_ 3 (.int .u64 0)
              go_wp2_with fail
              refine bodyPost_ret (results_cell_tmp_row (by rfl) _ _ B 33 _ _ _ (by rfl) (by rfl) hbk Tryz.underlying33 (by rfl) (by kernel_rfl)) rfl ?_
              rw [HRF.out.1, HN.out]
              refine ⟨rfl, ?_⟩
              try rw [hB]
              refine (((A3.out.bel.setCell ?_ _).setCell ?_ _).setCell ?_ _).setCell ?_ _ <;> simp
            · have hba' : ¬ (b.toNat : Int) < (a.toNat : Int) := by omega
              have hbd : decide ((b.toNat : Int) < (a.toNat : Int)) = false := decide_eq_false (by omega)
              have hbd2 : decide (b.toNat < a.toNat) = false := decide_eq_false (by omega)
              have had : decide ((a.toNat : Int) < 0) = false := decide_eq_false (by omega)
              have hab : a.toNat ≤ b.toNat := by omega
              have HI := Lib.hid (show (itemsF (s.data.toList.drop i)).bind (makeF M) = (itemsF (s.data.toList.drop (i + n + 1 + k))).bind (makeF (fillM M a.toNat (b.toNat + 1 - a.toNat))) by
                rw [bindF_two HN93.out a b n k HT.out HDH.out HT2.out hab, List.drop_drop, show i + (n + 1 + k) = i + n + 1 + k by omega])
              have HR := A3
              clear hba r0 r1 r2 r3 rf
              go_wp2_with fail
              go_loopg [10] (b.toNat + 1 - a.toNat) (fun m v wx => ∃ (x N : Nat), a.toNat ≤ x ∧ x ≤ b.toNat + 1 ∧ m = b.toNat + 1 - x ∧ v = .int .i64 x ∧ RV w wx B N ∧ fillM M a.toNat (b.toNat + 1 - a.toNat) = fillM N x (b.toNat + 1 - x))
              case atStart => exact ⟨a.toNat, M, by omega, by omega, rfl, rfl, HR.out, rfl⟩
              case round =>
                obtain ⟨x, N, hax, hxb, hm2, rfl, hV, hfl⟩ := hrel
                obtain ⟨s0, s1, s2, s3, sf⟩ := hV.out.facts4
                have J := Lib.hid (And.intro hm2 (And.intro hV hfl))
                clear hm2 hV hfl
                have hb255 := b.toNat_lt
                by_cases hx : x ≤ b.toNat
                · have hx' : (x : Int) ≤ (b.toNat : Int) := by omega
                  go_wp2_with fail
                  refine (with_any N x (by omega) _).mono ?_
                  rintro e w5 ⟨rfl, hb5⟩
                  have J5 := Lib.hid (J.out.2.1.below hb5)
                  obtain ⟨s0, s1, s2, s3, sf⟩ := J5.out.out.facts4
                  unfold setV
                  clear hb5
                  go_wp2_with fail
                  go_roundg (b.toNat + 1 - (x + 1))
                  case measure => have := J.out.1; omega
                  case rel =>
                    refine ⟨x + 1, N ||| 2 ^ x, by omega, by omega, rfl, rfl, J5.out.set (or_lt N x J5.out.lt (by omega)), ?_⟩
                    rw [J.out.2.2, show b.toNat + 1 - x = (b.toNat - x) + 1 by omega, fillM, show b.toNat + 1 - (x + 1) = b.toNat - x by omega]
                · have hx' : ¬ (x : Int) ≤ (b.toNat : Int) := by omega
                  go_wp2_with fail
                  go_roundg (s.size - (i + n + 1 + k))
                  case measure => have := A.out.1; omega
                  case rel =>
                    have hfl := J.out.2.2
                    rw [show b.toNat + 1 - x = 0 by omega, fillM] at hfl
                    refine ⟨i + n + 1 + k, N, by omega, by omega, by first | rfl | go_num, J.out.2.1, ?_⟩
                    rw [A.out.2.2, HI.out, hfl]
        · have HDH := Lib.hid (show ((s.data.toList.drop i).drop n).head? ≠ some 45 by rw [List.drop_drop]; exact hdash)
          have HI := Lib.hid (show (itemsF (s.data.toList.drop i)).bind (makeF M) = (itemsF (s.data.toList.drop (i + n))).bind (makeF (fillM M a.toNat (a.toNat + 1 - a.toNat))) by
            rw [bindF_one HN93.out a n HT.out HDH.out, List.drop_drop])
          have HR := A2
          have haa : ¬ (a.toNat : Int) < (a.toNat : Int) := by omega
          clear r0 r1 r2 r3 rf o0 o1 o2 o3 of
          by_cases hnl : i + n < s.size
          · have k1 : (i : Int) + (n : Int) < (s.size : Int) := by omega
            have k0 : (0 : Int) ≤ (i : Int) + (n : Int) := by omega
            obtain ⟨d, hdd⟩ : ∃ d, s[i + n] = d := ⟨_, rfl⟩
            have h45 : d ≠ 45 := by
              rintro rfl
              apply hdash
              rw [drop_cons s (i + n) hnl, hdd]; rfl
            have n45 : ((d.toNat : Int) == 45) = false := u8_beq d 45 h45
            clear hdash h45
            go_wp2_with fail
            go_loopg [10] (a.toNat + 1 - a.toNat) (fun m v wx => ∃ (x N : Nat), a.toNat ≤ x ∧ x ≤ a.toNat + 1 ∧ m = a.toNat + 1 - x ∧ v = .int .i64 x ∧ RV w wx B N ∧ fillM M a.toNat (a.toNat + 1 - a.toNat) = fillM N x (a.toNat + 1 - x))
            case atStart => exact ⟨a.toNat, M, by omega, by omega, rfl, rfl, HR.out, rfl⟩
            case round =>
              obtain ⟨x, N, hax, hxb, hm2, rfl, hV, hfl⟩ := hrel
              obtain ⟨s0, s1, s2, s3, sf⟩ := hV.out.facts4
              have J := Lib.hid (And.intro hm2 (And.intro hV hfl))
              clear hm2 hV hfl
              have hb255 := a.toNat_lt
              by_cases hx : x ≤ a.toNat
              · have hx' : (x : Int) ≤ (a.toNat : Int) := by omega
                go_wp2_with fail
                refine (with_any N x (by omega) _).mono ?_
                rintro e w5 ⟨rfl, hb5⟩
                have J5 := Lib.hid (J.out.2.1.below hb5)
                obtain ⟨s0, s1, s2, s3, sf⟩ := J5.out.out.facts4
                unfold setV
                clear hb5
                go_wp2_with fail
                go_roundg (a.toNat + 1 - (x + 1))
                case measure => have := J.out.1; omega
                case rel =>
                  refine ⟨x + 1, N ||| 2 ^ x, by omega, by omega, rfl, rfl, J5.out.set (or_lt N x J5.out.lt (by omega)), ?_⟩
                  rw [J.out.2.2, show a.toNat + 1 - x = (a.toNat - x) + 1 by omega, fillM, show a.toNat + 1 - (x + 1) = a.toNat - x by omega]
              · have hx' : ¬ (x : Int) ≤ (a.toNat : Int) := by omega
                go_wp2_with fail
                go_roundg (s.size - (i + n))
                case measure => have := A.out.1; omega
                case rel =>
                  have hfl := J.out.2.2
                  rw [show a.toNat + 1 - x = 0 by omega, fillM] at hfl
                  refine ⟨i + n, N, by omega, by omega, by first | rfl | go_num, J.out.2.1, ?_⟩
                  rw [A.out.2.2, HI.out, hfl]
          · have k1 : ¬ (i : Int) + (n : Int) < (s.size : Int) := by omega
            clear hdash
            go_wp2_with fail
            go_loopg [10] (a.toNat + 1 - a.toNat) (fun m v wx => ∃ (x N : Nat), a.toNat ≤ x ∧ x ≤ a.toNat + 1 ∧ m = a.toNat + 1 - x ∧ v = .int .i64 x ∧ RV w wx B N ∧ fillM M a.toNat (a.toNat + 1 - a.toNat) = fillM N x (a.toNat + 1 - x))
            case atStart => exact ⟨a.toNat, M, by omega, by omega, rfl, rfl, HR.out, rfl⟩
            case round =>
              obtain ⟨x, N, hax, hxb, hm2, rfl, hV, hfl⟩ := hrel
              obtain ⟨s0, s1, s2, s3, sf⟩ := hV.out.facts4
              have J := Lib.hid (And.intro hm2 (And.intro hV hfl))
              clear hm2 hV hfl
              have hb255 := a.toNat_lt
              by_cases hx : x ≤ a.toNat
              · have hx' : (x : Int) ≤ (a.toNat : Int) := by omega
                go_wp2_with fail
                refine (with_any N x (by omega) _).mono ?_
                rintro e w5 ⟨rfl, hb5⟩
                have J5 := Lib.hid (J.out.2.1.below hb5)
                obtain ⟨s0, s1, s2, s3, sf⟩ := J5.out.out.facts4
                unfold setV
                clear hb5
                go_wp2_with fail
                go_roundg (a.toNat + 1 - (x + 1))
                case measure => have := J.out.1; omega
                case rel =>
                  refine ⟨x + 1, N ||| 2 ^ x, by omega, by omega, rfl, rfl, J5.out.set (or_lt N x J5.out.lt (by omega)), ?_⟩
                  rw [J.out.2.2, show a.toNat + 1 - x = (a.toNat - x) + 1 by omega, fillM, show a.toNat + 1 - (x + 1) = a.toNat - x by omega]
              · have hx' : ¬ (x : Int) ≤ (a.toNat : Int) := by omega
                go_wp2_with fail
                go_roundg (s.size - (i + n))
                case measure => have := A.out.1; omega
                case rel =>
                  have hfl := J.out.2.2
                  rw [show a.toNat + 1 - x = 0 by omega, fillM] at hfl
                  refine ⟨i + n, N, by omega, by omega, by first | rfl | go_num, J.out.2.1, ?_⟩
                  rw [A.out.2.2, HI.out, hfl]
    · obtain rfl : i = s.size := by omega
      have HN := Lib.hid (show R0 = none by rw [A.out.2.2, drop_all s _ (Nat.le_refl _)]; exact bindF_bad (by simp) rfl)
      have hne : ((s.size : Int) != (s.size : Int) - 1) = true := by simp; omega
      have hbk := (((AV.out.res.set_ 0 (.int .u64 0)).set_ 1 (.int .u64 0)).set_ 2 (.int .u64 0)).set_ 3 (.int .u64 0)
      go_wp2_with fail
      refine bodyPost_ret (results_cell_tmp_row (by rfl) _ _ B 33 _ _ _ (by rfl) (by rfl) hbk Tryz.underlying33 (by rfl) (by kernel_rfl)) rfl ?_
      rw [HRF.out.1, HN.out]
      refine ⟨rfl, ?_⟩
      try rw [hB]
      refine (((AV.out.bel.setCell ?_ _).setCell ?_ _).setCell ?_ _).setCell ?_ _ <;> simp
end Go.Proofs.YtacgnbelcpmjfaaGreatDoor.Dx
set_option linter.unusedVariables false
namespace Go.Proofs.YtacgnbelcpmjfaaGreatDoor.Dx
open Go.RowKit Go.Proofs Mx
theorem rread_any (s : ByteArray) (hs : s.size ≤ 400000000) (w : World) :
    Calls Tryz.prog 45 #[.string s] w fun e w' => ReadOut (readF s.data.toList) e ∧ Below w.heap.size w w' := by
  rcases Classical.em (s.size < 2 ∨ s.data.toList.head? ≠ some 91) with h | h
  · exact rread_short s hs h w
  · have h2 : 2 ≤ s.size := by
      rcases Nat.lt_or_ge s.size 2 with h3 | h3
      · exact absurd (Or.inl h3) h
      · exact h3
    have h91 : s.data.toList.head? = some 91 := by
      rcases Classical.em (s.data.toList.head? = some 91) with h3 | h3
      · exact h3
      · exact absurd (Or.inr h3) h
    by_cases h94 : s[1]'(by omega) = 94
    · exact rread_neg s hs h2 h91 (fun _ => h94) w
    · exact rread_pos s hs h2 h91 (fun _ => h94) w
end Go.Proofs.YtacgnbelcpmjfaaGreatDoor.Dx
