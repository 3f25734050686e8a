/-
  WALKS of the reader: step.
-/
import Derived.Test.YtmkidbenndhhjaaDoorGive
set_option linter.unusedVariables false
set_option linter.unusedSimpArgs false
namespace Go.Proofs.YtmkidbenndhhjaaDoor.Dx
open Go.RowKit Go.Proofs Mx

/-- What is known behind a reading: the words, in the variable c. -/
structure LE (w0 wb wr : World) (g c : Nat) (ws : List (Nat × Wd)) (v : Value) : Prop where
  own : wr.ownsRow (g + 1) 51 8 v ws.length (wcells ws)
  cell : Blk wr c 36 #[v]
  bel : Below w0.heap.size w0 wr
  low : w0.heap.size ≤ c
  keep : ∀ k, k < g → k ≠ c → wr.heap[k]? = wb.heap[k]?
theorem LS.le {w0 wb wr : World} {g c : Nat} {s : ByteArray} {i : Nat} {ws : List (Nat × Wd)} {v : Value} (h : LS w0 wb wr g c s i ws v) : LE w0 wb wr g c ws v :=
  ⟨h.own, h.cell, h.bel, h.low, h.keep⟩
theorem LE.drewN {w0 wb wr : World} {g c : Nat} {ws : List (Nat × Wd)} {v : Value} (h : LE w0 wb wr g c ws v) (n : Nat) : LE w0 wb (wr.drewN n) g c ws v :=
  ⟨h.own.kept (row := none) ⟨rfl, rfl, rfl, Nat.le_refl _, fun _ _ _ => rfl⟩ (by cases hv : v.ownBlock <;> simp), h.cell, Mx.below_drewN h.bel n, h.low, h.keep⟩
theorem LS.gone {w0 wb wr w2 : World} {g c : Nat} {s : ByteArray} {i : Nat} {ws : List (Nat × Wd)} {v : Value} (h : LS w0 wb wr g c s i ws v) (hb : wr.grownBy w2 (some g)) : LE w0 wb w2 g c ws v :=
  ⟨h.own.kept hb (.inr fun e => by have := (h.own.lt g e).1; omega), h.cell.grown hb (by have := h.lt; intro e; injection e with e; omega),
   h.bel.trans ((below_of_grown hb (by have := h.low; have := h.lt; have := h.rd.lt; omega) (Nat.le_trans h.low (Nat.le_of_lt h.lt)))), h.low, fun k hk hc => (hb.block k (Nat.lt_trans hk h.rd.lt) (by intro e; injection e with e; omega)).trans (h.keep k hk hc)⟩
def refusedAt (p : Nat) : List PanicEntry := [{ v := .iface 97 (.agg #[.int .i64 (p : Int)]), recovered := false }]
def StepOut (w0 wb : World) (g c : Nat) (r : List (Nat × Wd) × Option Nat) (e : Ending) (w' : World) : Prop :=
  (∃ v, LE w0 wb w' g c r.1 v) ∧ (match r.2 with | none => e = .returned (.tuple #[]) | some p => e = .panicked (refusedAt p))
theorem skM_again (b : Bool) (l : List UInt8) : skM false (l.drop (skM b l)) = 0 := by
  induction l generalizing b with
  | nil => cases b <;> rfl
  | cons c t ih =>
    cases b with
    | true =>
      rw [skM]
      split
      · rw [List.drop_succ_cons]; exact ih false
      · rw [List.drop_succ_cons]; exact ih true
    | false =>
      rw [skM]
      split
      · rw [List.drop_succ_cons]; exact ih false
      · split
        · rw [List.drop_succ_cons]; exact ih true
        · rename_i h1 h2
          rw [List.drop_zero, skM, if_neg h1, if_neg h2]
theorem lexF_skip (p : Nat) (l : List UInt8) : lexF p l = lexF (p + skM false l) (l.drop (skM false l)) := by
  have h0 := skM_again false l
  cases hd : l.drop (skM false l) with
  | nil => rw [lexF_end p l hd, lexF_end _ [] rfl]
  | cons c t =>
    rw [hd] at h0
    cases hw : wordF (c :: t) with
    | none => rw [lexF_bad p l _ hd (by simp) hw, lexF_bad _ (c :: t) (c :: t) (by rw [h0]; rfl) (by simp) hw, h0]; rfl
    | some q =>
      obtain ⟨w, n⟩ := q
      rw [lexF_word p l _ w n hd hw, lexF_word _ (c :: t) (c :: t) w n (by rw [h0]; rfl) hw, h0]; rfl

set_option maxRecDepth 100000 in
set_option maxHeartbeats 2000000 in
theorem step_lex (w0 : World) (g c : Nat) (s : ByteArray) (v0 : Value) (w : World) (hs : s.size ≤ 400000000) (hS : LS w0 w w g c s 0 [] v0) (E : Env w0) :
    Calls Tryd.prog 59 #[.pointer (some ⟨g, 0, none⟩), .func (.func 39) #[] #[.pointer (some ⟨c, 0, none⟩)]] w (StepOut w0 w g c (lexF 0 s.data.toList)) := by
  have hE : ∀ w', Below w0.heap.size w0 w' → Env w' := fun w' hb => E.below hb (by have := E.big; omega)
  have hg6 : LB ≤ g := by have := E.big; have := hS.low; have := hS.lt; omega
  obtain ⟨R, hR⟩ : ∃ R, lexF 0 s.data.toList = R := ⟨_, rfl⟩
  have hgap := gap_any g s 0 w (by omega) (Nat.zero_le _) hS.rd
  rw [hR]
  have HS := Lib.hid (And.intro hS (And.intro hR hE))
  clear hS hR hE E
  go_enter Tryd.func59, Tryd.ntmps59
  go_wp2_with fail
  refine hgap.mono ?_
  rintro e w1 ⟨rfl, hR1, hg1⟩
  have hS1 := HS.out.1.grown hg1 hR1
  have H1 := Lib.hid hS1
  clear hS1 hR1 hg1
  go_wp2_with fail
  go_loopg [] (s.size + 1 - (0 + sk s 0)) (fun m wr => ∃ (i : Nat) (ws : List (Nat × Wd)) (v : Value), m = s.size + 1 - i ∧ i ≤ s.size ∧ LS w0 w wr g c s i ws v ∧ R = (ws ++ (lexF i (s.data.toList.drop i)).1, (lexF i (s.data.toList.drop i)).2) ∧ skM false (s.data.toList.drop i) = 0 ∧ ws.length ≤ i)
  case atStart =>
    have hsk : sk s 0 = skM false s.data.toList := by rw [sk, List.drop_zero]
    have hle := skM_le false s.data.toList
    rw [← Lib.size_eq] at hle
    refine ⟨0 + sk s 0, [], v0, rfl, by omega, H1.out, ?_, ?_, by simp⟩
    · have := lexF_skip 0 s.data.toList
      rw [Nat.zero_add] at this
      rw [hsk, Nat.zero_add, ← this, HS.out.2.1]
      simp
    · rw [hsk, Nat.zero_add]; exact skM_again false _
  case round =>
    obtain ⟨i, ws, v, hm, hi, hSi, hRi, hsk, hwl⟩ := hrel
    have A := Lib.hid (And.intro hm (And.intro hSi (And.intro hRi hsk)))
    clear hm hRi hsk hgap H1
    obtain ⟨c0, c1, cf⟩ := hSi.rd.facts2
    clear hSi
    by_cases hlt : i < s.size
    · have hd := drop_cons s i hlt
      have hx1 : (i : Int) < (s.size : Int) := by omega
      have hword := fun n => word_any g s i (wr.drewN n) hs hlt (A.out.2.1.drewN n).rd (HS.out.2.2 _ (A.out.2.1.drewN n).bel) hg6
      cases hw : wordF (s.data.toList.drop i) with
      | none =>
        rw [hw] at hword
        have hR2 : R = (ws, some i) := by
          rw [A.out.2.2.1, lexF_bad i _ _ (by rw [A.out.2.2.2]; rfl) (by rw [hd]; simp) hw, A.out.2.2.2]
          simp
        have HR := Lib.hid hR2
        have HW := Lib.hid hword
        clear hword hw hd hR2
        go_wp2_with fail
        go_quiet (fail)
        go_wp2_with fail
        refine (HW.out _).mono ?_
        rintro e w2 ⟨rfl, hg2⟩
        rw [HR.out]
        exact ⟨rfl, ⟨v, (A.out.2.1.drewN _).gone hg2⟩, rfl⟩
      | some q =>
        obtain ⟨x, n⟩ := q
        rw [hw] at hword
        have hpos := wordF_pos _ _ _ hw
        have hlen : (s.data.toList.drop i).length = s.size - i := by rw [List.length_drop, ← Lib.size_eq]
        have hin : i + n ≤ s.size := by omega
        have hsk2 : sk s (i + n) = skM false (s.data.toList.drop (i + n)) := rfl
        have hle := skM_le false (s.data.toList.drop (i + n))
        rw [List.length_drop, ← Lib.size_eq] at hle
        obtain ⟨d, hdd⟩ : ∃ d, sk s (i + n) = d := ⟨_, rfl⟩
        have hR2 : R = (ws ++ [(i, x)] ++ (lexF (i + n + d) (s.data.toList.drop (i + n + d))).1, (lexF (i + n + d) (s.data.toList.drop (i + n + d))).2) := by
          rw [A.out.2.2.1, lexF_word i _ _ x n (by rw [A.out.2.2.2]; rfl) hw, A.out.2.2.2]
          simp only [Nat.add_zero, List.drop_drop]
          rw [lexF_skip (i + n) (s.data.toList.drop (i + n)), ← hsk2, hdd, List.drop_drop]
          simp
        have hsk3 : skM false (s.data.toList.drop (i + n + d)) = 0 := by
          rw [← hdd, hsk2, ← List.drop_drop]
          exact skM_again false _
        have hid : i + n + d ≤ s.size := by omega
        have HR := Lib.hid (And.intro hR2 (And.intro hsk3 hpos.1))
        have HW := Lib.hid hword
        have hgap := fun w => gap_any g s (i + n) w (by omega) hin
        rw [hdd] at hgap
        have HG := Lib.hid hgap
        clear hword hw hd hR2 hsk3 hpos hlen hgap hle hsk2 hdd
        go_wp2_with fail
        go_quiet (fail)
        go_wp2_with fail
        refine (HW.out _).mono ?_
        rintro e w2 ⟨rfl, hR2, hg2⟩
        have hS2 := (A.out.2.1.drewN _).grown hg2 hR2
        go_wp2_with fail
        refine (give_lex w0 w g c s (i + n) ws v i x _ hS2 (by omega)).mono ?_
        rintro e w3 ⟨rfl, v3, hS3⟩
        clear hS2 hR2 hg2
        go_wp2_with fail
        refine (HG.out _ hS3.rd).mono ?_
        rintro e w4 ⟨rfl, hR4, hg4⟩
        have hS4 := hS3.grown hg4 hR4
        go_wp2_with fail
        go_roundg (s.size + 1 - (i + n + d))
        case measure => have := A.out.1; have := HR.out.2.2; omega
        case rel =>
          have := HR.out.2.2
          exact ⟨i + n + d, ws ++ [(i, x)], v3, rfl, hid, hS4, HR.out.1, HR.out.2.1, by simp; omega⟩
    · have hd : decide ((i : Int) < (s.size : Int)) = false := by simp; omega
      have hR2 : R = (ws, none) := by
        rw [A.out.2.2.1, drop_all s i (by omega), lexF_end _ [] rfl]
        simp
      have HR := Lib.hid hR2
      clear hR2
      go_wp2_with fail
      go_quiet (fail)
      go_wp2_with fail
      refine bodyPost_end (results_none rfl _ _ _) rfl ?_
      rw [HR.out]
      exact ⟨⟨v, (A.out.2.1.drewN _).le⟩, rfl⟩
set_option maxRecDepth 100000 in
set_option maxHeartbeats 2000000 in
theorem step_all (w0 : World) (g c : Nat) (s : ByteArray) (v0 : Value) (w : World) (hs : s.size ≤ 400000000) (hS : LS w0 w w g c s 0 [] v0) (E : Env w0) :
    Calls Tryd.prog 59 #[.pointer (some ⟨g, 0, none⟩), .func (.func 50) #[] #[.pointer (some ⟨c, 0, none⟩)]] w (StepOut w0 w g c (lexF 0 s.data.toList)) := by
  have hE : ∀ w', Below w0.heap.size w0 w' → Env w' := fun w' hb => E.below hb (by have := E.big; omega)
  have hg6 : LB ≤ g := by have := E.big; have := hS.low; have := hS.lt; omega
  obtain ⟨R, hR⟩ : ∃ R, lexF 0 s.data.toList = R := ⟨_, rfl⟩
  have hgap := gap_any g s 0 w (by omega) (Nat.zero_le _) hS.rd
  rw [hR]
  have HS := Lib.hid (And.intro hS (And.intro hR hE))
  clear hS hR hE E
  go_enter Tryd.func59, Tryd.ntmps59
  go_wp2_with fail
  refine hgap.mono ?_
  rintro e w1 ⟨rfl, hR1, hg1⟩
  have hS1 := HS.out.1.grown hg1 hR1
  have H1 := Lib.hid hS1
  clear hS1 hR1 hg1
  go_wp2_with fail
  go_loopg [] (s.size + 1 - (0 + sk s 0)) (fun m wr => ∃ (i : Nat) (ws : List (Nat × Wd)) (v : Value), m = s.size + 1 - i ∧ i ≤ s.size ∧ LS w0 w wr g c s i ws v ∧ R = (ws ++ (lexF i (s.data.toList.drop i)).1, (lexF i (s.data.toList.drop i)).2) ∧ skM false (s.data.toList.drop i) = 0 ∧ ws.length ≤ i)
  case atStart =>
    have hsk : sk s 0 = skM false s.data.toList := by rw [sk, List.drop_zero]
    have hle := skM_le false s.data.toList
    rw [← Lib.size_eq] at hle
    refine ⟨0 + sk s 0, [], v0, rfl, by omega, H1.out, ?_, ?_, by simp⟩
    · have := lexF_skip 0 s.data.toList
      rw [Nat.zero_add] at this
      rw [hsk, Nat.zero_add, ← this, HS.out.2.1]
      simp
    · rw [hsk, Nat.zero_add]; exact skM_again false _
  case round =>
    obtain ⟨i, ws, v, hm, hi, hSi, hRi, hsk, hwl⟩ := hrel
    have A := Lib.hid (And.intro hm (And.intro hSi (And.intro hRi hsk)))
    clear hm hRi hsk hgap H1
    obtain ⟨c0, c1, cf⟩ := hSi.rd.facts2
    clear hSi
    by_cases hlt : i < s.size
    · have hd := drop_cons s i hlt
      have hx1 : (i : Int) < (s.size : Int) := by omega
      have hword := fun n => word_any g s i (wr.drewN n) hs hlt (A.out.2.1.drewN n).rd (HS.out.2.2 _ (A.out.2.1.drewN n).bel) hg6
      cases hw : wordF (s.data.toList.drop i) with
      | none =>
        rw [hw] at hword
        have hR2 : R = (ws, some i) := by
          rw [A.out.2.2.1, lexF_bad i _ _ (by rw [A.out.2.2.2]; rfl) (by rw [hd]; simp) hw, A.out.2.2.2]
          simp
        have HR := Lib.hid hR2
        have HW := Lib.hid hword
        clear hword hw hd hR2
        go_wp2_with fail
        go_quiet (fail)
        go_wp2_with fail
        refine (HW.out _).mono ?_
        rintro e w2 ⟨rfl, hg2⟩
        rw [HR.out]
        exact ⟨rfl, ⟨v, (A.out.2.1.drewN _).gone hg2⟩, rfl⟩
      | some q =>
        obtain ⟨x, n⟩ := q
        rw [hw] at hword
        have hpos := wordF_pos _ _ _ hw
        have hlen : (s.data.toList.drop i).length = s.size - i := by rw [List.length_drop, ← Lib.size_eq]
        have hin : i + n ≤ s.size := by omega
        have hsk2 : sk s (i + n) = skM false (s.data.toList.drop (i + n)) := rfl
        have hle := skM_le false (s.data.toList.drop (i + n))
        rw [List.length_drop, ← Lib.size_eq] at hle
        obtain ⟨d, hdd⟩ : ∃ d, sk s (i + n) = d := ⟨_, rfl⟩
        have hR2 : R = (ws ++ [(i, x)] ++ (lexF (i + n + d) (s.data.toList.drop (i + n + d))).1, (lexF (i + n + d) (s.data.toList.drop (i + n + d))).2) := by
          rw [A.out.2.2.1, lexF_word i _ _ x n (by rw [A.out.2.2.2]; rfl) hw, A.out.2.2.2]
          simp only [Nat.add_zero, List.drop_drop]
          rw [lexF_skip (i + n) (s.data.toList.drop (i + n)), ← hsk2, hdd, List.drop_drop]
          simp
        have hsk3 : skM false (s.data.toList.drop (i + n + d)) = 0 := by
          rw [← hdd, hsk2, ← List.drop_drop]
          exact skM_again false _
        have hid : i + n + d ≤ s.size := by omega
        have HR := Lib.hid (And.intro hR2 (And.intro hsk3 hpos.1))
        have HW := Lib.hid hword
        have hgap := fun w => gap_any g s (i + n) w (by omega) hin
        rw [hdd] at hgap
        have HG := Lib.hid hgap
        clear hword hw hd hR2 hsk3 hpos hlen hgap hle hsk2 hdd
        go_wp2_with fail
        go_quiet (fail)
        go_wp2_with fail
        refine (HW.out _).mono ?_
        rintro e w2 ⟨rfl, hR2, hg2⟩
        have hS2 := (A.out.2.1.drewN _).grown hg2 hR2
        go_wp2_with fail
        refine (give_all w0 w g c s (i + n) ws v i x _ hS2 (by omega)).mono ?_
        rintro e w3 ⟨rfl, v3, hS3⟩
        clear hS2 hR2 hg2
        go_wp2_with fail
        refine (HG.out _ hS3.rd).mono ?_
        rintro e w4 ⟨rfl, hR4, hg4⟩
        have hS4 := hS3.grown hg4 hR4
        go_wp2_with fail
        go_roundg (s.size + 1 - (i + n + d))
        case measure => have := A.out.1; have := HR.out.2.2; omega
        case rel =>
          have := HR.out.2.2
          exact ⟨i + n + d, ws ++ [(i, x)], v3, rfl, hid, hS4, HR.out.1, HR.out.2.1, by simp; omega⟩
    · have hd : decide ((i : Int) < (s.size : Int)) = false := by simp; omega
      have hR2 : R = (ws, none) := by
        rw [A.out.2.2.1, drop_all s i (by omega), lexF_end _ [] rfl]
        simp
      have HR := Lib.hid hR2
      clear hR2
      go_wp2_with fail
      go_quiet (fail)
      go_wp2_with fail
      refine bodyPost_end (results_none rfl _ _ _) rfl ?_
      rw [HR.out]
      exact ⟨⟨v, (A.out.2.1.drewN _).le⟩, rfl⟩
end Go.Proofs.YtmkidbenndhhjaaDoor.Dx
