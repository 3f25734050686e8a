/-
  WALKS: the closures of Lex and All that put a word behind the others.
  WALKS of the reader: step.
  WALKS: read, and what it defers.
  WALKS: Lex, All, Name.
  WALKS: Name.
-/
import Derived.Test.YtacgnbelcpmjfaaGreatDoorWord3
import Derived.Defers
import Derived.Recover
set_option linter.unusedVariables false
set_option linter.unusedSimpArgs false
namespace Go.Proofs.YtacgnbelcpmjfaaGreatDoor.Dx
open Go.RowKit Go.Proofs Mx

theorem infoWord : (Tryz.prog.info? 35).map (fun i => (i.zero, i.size, i.bytes)) = some (some (.agg zeroC), 8, 72) := by kernel_rfl
def wcells : List (Nat × Wd) → List Value
  | [] => []
  | (p, v) :: t => (wdC (p : Int) v).toList ++ wcells t
theorem wcells_length (l : List (Nat × Wd)) : (wcells l).length = l.length * 8 := by
  induction l with
  | nil => rfl
  | cons p t ih => obtain ⟨a, b⟩ := p; simp only [wcells, List.length_append, List.length_cons, ih]; simp [wdC]; omega
theorem wcells_append (l : List (Nat × Wd)) (p : Nat) (v : Wd) : wcells l ++ (wdC (p : Int) v).toList = wcells (l ++ [(p, v)]) := by
  induction l with
  | nil => simp [wcells]
  | cons q t ih => obtain ⟨c, d⟩ := q; simp only [wcells, List.cons_append, List.append_assoc, ih]
theorem own_slice {w : World} {base : Nat} {e : TypeId} {size : Nat} {v : Value} {n : Nat} {xs : List Value} (h : w.ownsRow base e size v n xs) : ∃ a k c, v = .slice a k c := by
  rcases h.2 with ⟨rfl, _⟩ | ⟨g, cap, cur, rfl, _⟩
  · exact ⟨_, _, _, rfl⟩
  · exact ⟨_, _, _, rfl⟩
/-- The state of a reading: the words so far (at v, told in the variable c), the reader's text and place. -/
structure LS (w0 wb wr : World) (g c : Nat) (s : ByteArray) (i : Nat) (ws : List (Nat × Wd)) (v : Value) : Prop where
  own : wr.ownsRow (g + 1) 35 8 v ws.length (wcells ws)
  cell : Blk wr c 23 #[v]
  rd : Rd wr g s i
  bel : Below w0.heap.size w0 wr
  low : w0.heap.size ≤ c
  lt : c < g
  keep : ∀ k, k < g → k ≠ c → wr.heap[k]? = wb.heap[k]?
theorem LS.drewN {w0 wb wr : World} {g c : Nat} {s : ByteArray} {i : Nat} {ws : List (Nat × Wd)} {v : Value} (h : LS w0 wb wr g c s i ws v) (n : Nat) : LS w0 wb (wr.drewN n) g c s i ws v :=
  ⟨h.own.kept (row := none) ⟨rfl, rfl, rfl, Nat.le_refl _, fun _ _ _ => rfl⟩ (by cases hv : v.ownBlock <;> simp), h.cell, h.rd, Mx.below_drewN h.bel n, h.low, h.lt, h.keep⟩
theorem LS.grown {w0 wb wr w2 : World} {g c : Nat} {s : ByteArray} {i j : Nat} {ws : List (Nat × Wd)} {v : Value} (h : LS w0 wb wr g c s i ws v) (hb : wr.grownBy w2 (some g)) (hR : Rd w2 g s j) : LS w0 wb w2 g c s j ws v :=
  ⟨h.own.kept hb (.inr fun e => by have := (h.own.lt g e).1; omega), h.cell.grown hb (by have := h.lt; intro e; injection e with e; omega), hR,
   h.bel.trans ((below_of_grown hb (by have := h.low; have := h.lt; have := h.rd.lt; omega) (Nat.le_trans h.low (Nat.le_of_lt h.lt)))), h.low, h.lt, fun k hk hc => (hb.block k (Nat.lt_trans hk h.rd.lt) (by intro e; injection e with e; omega)).trans (h.keep k hk hc)⟩
theorem LS.append {w0 wb wr w2 : World} {g c : Nat} {s : ByteArray} {i : Nat} {ws : List (Nat × Wd)} {v v' : Value} {p : Nat} {x : Wd} {o1 o2 : Obj} (h : LS w0 wb wr g c s i ws v)
    (hown : w2.ownsRow (g + 1) 35 8 v' (ws.length + 1) (wcells ws ++ (wdC (p : Int) x).toList)) (hgrow : ((wr.alloc o1).alloc o2).grownBy w2 v.ownBlock) :
    LS w0 wb (w2.setCell ⟨c, 0, none⟩ v') g c s i (ws ++ [(p, x)]) v' := by
  have hne : ∀ b, v.ownBlock = some b → g + 1 ≤ b := fun b hb => (h.own.lt b hb).1
  have hlt := h.lt
  have hlow := h.low
  have hcw := h.cell.lt
  have hc2 : Blk w2 c 23 #[v] := ((h.cell.alloc o1).alloc o2).grown hgrow (by intro e; have := hne c e.symm; omega)
  have hr2 : Rd w2 g s i := ((h.rd.alloc o1).alloc o2).grown hgrow (by intro e; have := hne g e.symm; omega)
  have hb2 : Below w0.heap.size w0 w2 := ((h.bel.alloc h.bel.size o1).alloc (by have := h.bel.size; simp; omega) o2).grown hgrow (by have := h.bel.size; simp; omega) (fun k hk => by have := hne k hk; omega)
  have hgw := h.rd.lt
  have hkeep : ∀ k, k < g → k ≠ c → (w2.setCell ⟨c, 0, none⟩ v').heap[k]? = wb.heap[k]? := fun k hk hc => by
    rw [Below.heap_setCell w2 ⟨c, 0, none⟩ v' k hc, hgrow.block k (by simp; omega) (by intro e; have := hne k e.symm; omega), Below.heap_alloc _ _ k (by simp; omega), Below.heap_alloc _ _ k (by omega)]
    exact h.keep k hk hc
  refine ⟨?_, hc2.set_ 0 v', hr2.far (p := ⟨c, 0, none⟩) (by simp; omega) _, hb2.setCell (p := ⟨c, 0, none⟩) hlow _, hlow, hlt, hkeep⟩
  rw [wcells_append] at hown
  have hown' : w2.ownsRow (g + 1) 35 8 v' (ws ++ [(p, x)]).length (wcells (ws ++ [(p, x)])) := by simpa using hown
  exact ownsRow_setCell_below hown' (show c < g + 1 by omega) _

set_option maxRecDepth 100000 in
set_option maxHeartbeats 2000000 in
theorem give_lex (w0 wb : World) (g c : Nat) (s : ByteArray) (i : Nat) (ws : List (Nat × Wd)) (v : Value) (p : Nat) (x : Wd) (wr : World) (hS : LS w0 wb wr g c s i ws v) (hl : ws.length ≤ 400000000) :
    Calls Tryz.prog 18 #[wdV (p : Int) x, .pointer (some ⟨c, 0, none⟩)] wr fun e w' => e = .returned (.bool true) ∧ ∃ v', LS w0 wb w' g c s i (ws ++ [(p, x)]) v' := by
  obtain ⟨i0, hi, hz0, hz1, hz2⟩ := info_parts infoWord
  have c0 : wr.cell? ⟨c, 0, none⟩ = some v := hS.cell.cell 0
  have cf := hS.cell.frozen
  have hcw := hS.cell.lt
  have hgw := hS.rd.lt
  have HS := Lib.hid hS
  clear hS
  unfold wdV wdC
  go_enter Tryz.func18, Tryz.ntmps18
  go_wp2_with (at_builtin; refine wpList_append_own _ rfl _ _ 23 rfl (g + 1) 35 i0 (.agg zeroC) 8 72 Tryz.underlying23 hi hz0 hz1 hz2 rfl (by decide) _ _ _ rfl ((HS.out.own.alloc _).alloc _) ⟨wr.heap.size + 1, 0, none⟩ 1 1 [.int .i64 x.kind, .int .i64 (p : Int), .string ⟨x.text.toArray⟩, .int .u64 (wd x.set 0), .int .u64 (wd x.set 1), .int .u64 (wd x.set 2), .int .u64 (wd x.set 3), .int .i64 x.num] rfl rfl ?c1 ?c2 ?c3 ?c4 ?c5 ?_)
  case c1 =>
    intro j u hj
    match j, hj with
    | 0, hj => simp at hj; subst hj; exact (Blk.new_ (by simp) _ _).cell 0
    | 1, hj => simp at hj; subst hj; exact (Blk.new_ (by simp) _ _).cell 1
    | 2, hj => simp at hj; subst hj; exact (Blk.new_ (by simp) _ _).cell 2
    | 3, hj => simp at hj; subst hj; exact (Blk.new_ (by simp) _ _).cell 3
    | 4, hj => simp at hj; subst hj; exact (Blk.new_ (by simp) _ _).cell 4
    | 5, hj => simp at hj; subst hj; exact (Blk.new_ (by simp) _ _).cell 5
    | 6, hj => simp at hj; subst hj; exact (Blk.new_ (by simp) _ _).cell 6
    | 7, hj => simp at hj; subst hj; exact (Blk.new_ (by simp) _ _).cell 7
  case c2 => intro u hu; simp at hu; rcases hu with rfl | rfl | rfl | rfl | rfl | rfl | rfl | rfl <;> rfl
  case c3 => unfold maxLen; omega
  case c4 => omega
  case c5 => simp; omega
  intro v' w3 hown' hgrow _
  obtain ⟨sa, sn, sc, rfl⟩ := own_slice hown'
  have hS3 := HS.out.append (p := p) (x := x) hown' hgrow
  have d0 : w3.cell? ⟨c, 0, none⟩ = some v := (((HS.out.cell.alloc _).alloc _).grown hgrow (by intro e; have := (HS.out.own.lt c e.symm).1; have := HS.out.lt; omega)).cell 0
  have df : ∀ i, w3.frozen? ⟨c, i, none⟩ = false := (((HS.out.cell.alloc _).alloc _).grown hgrow (by intro e; have := (HS.out.own.lt c e.symm).1; have := HS.out.lt; omega)).frozen
  have H3 := Lib.hid hS3
  clear hown' hgrow hS3
  go_wp2
  go_ret
  exact ⟨rfl, _, H3.out⟩
set_option maxRecDepth 100000 in
set_option maxHeartbeats 2000000 in
theorem give_all (w0 wb : World) (g c : Nat) (s : ByteArray) (i : Nat) (ws : List (Nat × Wd)) (v : Value) (p : Nat) (x : Wd) (wr : World) (hS : LS w0 wb wr g c s i ws v) (hl : ws.length ≤ 400000000) :
    Calls Tryz.prog 22 #[wdV (p : Int) x, .pointer (some ⟨c, 0, none⟩)] wr fun e w' => e = .returned (.bool true) ∧ ∃ v', LS w0 wb w' g c s i (ws ++ [(p, x)]) v' := by
  obtain ⟨i0, hi, hz0, hz1, hz2⟩ := info_parts infoWord
  have c0 : wr.cell? ⟨c, 0, none⟩ = some v := hS.cell.cell 0
  have cf := hS.cell.frozen
  have hcw := hS.cell.lt
  have hgw := hS.rd.lt
  have HS := Lib.hid hS
  clear hS
  unfold wdV wdC
  go_enter Tryz.func22, Tryz.ntmps22
  go_wp2_with (at_builtin; refine wpList_append_own _ rfl _ _ 23 rfl (g + 1) 35 i0 (.agg zeroC) 8 72 Tryz.underlying23 hi hz0 hz1 hz2 rfl (by decide) _ _ _ rfl ((HS.out.own.alloc _).alloc _) ⟨wr.heap.size + 1, 0, none⟩ 1 1 [.int .i64 x.kind, .int .i64 (p : Int), .string ⟨x.text.toArray⟩, .int .u64 (wd x.set 0), .int .u64 (wd x.set 1), .int .u64 (wd x.set 2), .int .u64 (wd x.set 3), .int .i64 x.num] rfl rfl ?c1 ?c2 ?c3 ?c4 ?c5 ?_)
  case c1 =>
    intro j u hj
    match j, hj with
    | 0, hj => simp at hj; subst hj; exact (Blk.new_ (by simp) _ _).cell 0
    | 1, hj => simp at hj; subst hj; exact (Blk.new_ (by simp) _ _).cell 1
    | 2, hj => simp at hj; subst hj; exact (Blk.new_ (by simp) _ _).cell 2
    | 3, hj => simp at hj; subst hj; exact (Blk.new_ (by simp) _ _).cell 3
    | 4, hj => simp at hj; subst hj; exact (Blk.new_ (by simp) _ _).cell 4
    | 5, hj => simp at hj; subst hj; exact (Blk.new_ (by simp) _ _).cell 5
    | 6, hj => simp at hj; subst hj; exact (Blk.new_ (by simp) _ _).cell 6
    | 7, hj => simp at hj; subst hj; exact (Blk.new_ (by simp) _ _).cell 7
  case c2 => intro u hu; simp at hu; rcases hu with rfl | rfl | rfl | rfl | rfl | rfl | rfl | rfl <;> rfl
  case c3 => unfold maxLen; omega
  case c4 => omega
  case c5 => simp; omega
  intro v' w3 hown' hgrow _
  obtain ⟨sa, sn, sc, rfl⟩ := own_slice hown'
  have hS3 := HS.out.append (p := p) (x := x) hown' hgrow
  have d0 : w3.cell? ⟨c, 0, none⟩ = some v := (((HS.out.cell.alloc _).alloc _).grown hgrow (by intro e; have := (HS.out.own.lt c e.symm).1; have := HS.out.lt; omega)).cell 0
  have df : ∀ i, w3.frozen? ⟨c, i, none⟩ = false := (((HS.out.cell.alloc _).alloc _).grown hgrow (by intro e; have := (HS.out.own.lt c e.symm).1; have := HS.out.lt; omega)).frozen
  have H3 := Lib.hid hS3
  clear hown' hgrow hS3
  go_wp2
  go_ret
  exact ⟨rfl, _, H3.out⟩
end Go.Proofs.YtacgnbelcpmjfaaGreatDoor.Dx
set_option linter.unusedVariables false
set_option linter.unusedSimpArgs false
namespace Go.Proofs.YtacgnbelcpmjfaaGreatDoor.Dx
open Go.RowKit Go.Proofs Mx

/-- What is known behind a reading: the words, in the variable c. -/
structure LE (w0 wb wr : World) (g c : Nat) (ws : List (Nat × Wd)) (v : Value) : Prop where
  own : wr.ownsRow (g + 1) 35 8 v ws.length (wcells ws)
  cell : Blk wr c 23 #[v]
  bel : Below w0.heap.size w0 wr
  low : w0.heap.size ≤ c
  keep : ∀ k, k < g → k ≠ c → wr.heap[k]? = wb.heap[k]?
theorem LS.le {w0 wb wr : World} {g c : Nat} {s : ByteArray} {i : Nat} {ws : List (Nat × Wd)} {v : Value} (h : LS w0 wb wr g c s i ws v) : LE w0 wb wr g c ws v :=
  ⟨h.own, h.cell, h.bel, h.low, h.keep⟩
theorem LE.drewN {w0 wb wr : World} {g c : Nat} {ws : List (Nat × Wd)} {v : Value} (h : LE w0 wb wr g c ws v) (n : Nat) : LE w0 wb (wr.drewN n) g c ws v :=
  ⟨h.own.kept (row := none) ⟨rfl, rfl, rfl, Nat.le_refl _, fun _ _ _ => rfl⟩ (by cases hv : v.ownBlock <;> simp), h.cell, Mx.below_drewN h.bel n, h.low, h.keep⟩
theorem LS.gone {w0 wb wr w2 : World} {g c : Nat} {s : ByteArray} {i : Nat} {ws : List (Nat × Wd)} {v : Value} (h : LS w0 wb wr g c s i ws v) (hb : wr.grownBy w2 (some g)) : LE w0 wb w2 g c ws v :=
  ⟨h.own.kept hb (.inr fun e => by have := (h.own.lt g e).1; omega), h.cell.grown hb (by have := h.lt; intro e; injection e with e; omega),
   h.bel.trans ((below_of_grown hb (by have := h.low; have := h.lt; have := h.rd.lt; omega) (Nat.le_trans h.low (Nat.le_of_lt h.lt)))), h.low, fun k hk hc => (hb.block k (Nat.lt_trans hk h.rd.lt) (by intro e; injection e with e; omega)).trans (h.keep k hk hc)⟩
def refusedAt (p : Nat) : List PanicEntry := [{ v := .iface 78 (.agg #[.int .i64 (p : Int)]), recovered := false }]
def StepOut (w0 wb : World) (g c : Nat) (r : List (Nat × Wd) × Option Nat) (e : Ending) (w' : World) : Prop :=
  (∃ v, LE w0 wb w' g c r.1 v) ∧ (match r.2 with | none => e = .returned (.tuple #[]) | some p => e = .panicked (refusedAt p))
theorem skM_again (b : Bool) (l : List UInt8) : skM false (l.drop (skM b l)) = 0 := by
  induction l generalizing b with
  | nil => cases b <;> rfl
  | cons c t ih =>
    cases b with
    | true =>
      rw [skM]
      split
      · rw [List.drop_succ_cons]; exact ih false
      · rw [List.drop_succ_cons]; exact ih true
    | false =>
      rw [skM]
      split
      · rw [List.drop_succ_cons]; exact ih false
      · split
        · rw [List.drop_succ_cons]; exact ih true
        · rename_i h1 h2
          rw [List.drop_zero, skM, if_neg h1, if_neg h2]
theorem lexF_skip (p : Nat) (l : List UInt8) : lexF p l = lexF (p + skM false l) (l.drop (skM false l)) := by
  have h0 := skM_again false l
  cases hd : l.drop (skM false l) with
  | nil => rw [lexF_end p l hd, lexF_end _ [] rfl]
  | cons c t =>
    rw [hd] at h0
    cases hw : wordF (c :: t) with
    | none => rw [lexF_bad p l _ hd (by simp) hw, lexF_bad _ (c :: t) (c :: t) (by rw [h0]; rfl) (by simp) hw, h0]; rfl
    | some q =>
      obtain ⟨w, n⟩ := q
      rw [lexF_word p l _ w n hd hw, lexF_word _ (c :: t) (c :: t) w n (by rw [h0]; rfl) hw, h0]; rfl

set_option maxRecDepth 100000 in
set_option maxHeartbeats 2000000 in
theorem step_lex (w0 : World) (g c : Nat) (s : ByteArray) (v0 : Value) (w : World) (hs : s.size ≤ 400000000) (hS : LS w0 w w g c s 0 [] v0) (E : Env w0) :
    Calls Tryz.prog 40 #[.pointer (some ⟨g, 0, none⟩), .func (.func 18) #[] #[.pointer (some ⟨c, 0, none⟩)]] w (StepOut w0 w g c (lexF 0 s.data.toList)) := by
  have hE : ∀ w', Below w0.heap.size w0 w' → Env w' := fun w' hb => E.below hb (by have := E.big; omega)
  have hg6 : LB ≤ g := by have := E.big; have := hS.low; have := hS.lt; omega
  obtain ⟨R, hR⟩ : ∃ R, lexF 0 s.data.toList = R := ⟨_, rfl⟩
  have hgap := gap_any g s 0 w (by omega) (Nat.zero_le _) hS.rd
  rw [hR]
  have HS := Lib.hid (And.intro hS (And.intro hR hE))
  clear hS hR hE E
  go_enter Tryz.func40, Tryz.ntmps40
  go_wp2_with fail
  refine hgap.mono ?_
  rintro e w1 ⟨rfl, hR1, hg1⟩
  have hS1 := HS.out.1.grown hg1 hR1
  have H1 := Lib.hid hS1
  clear hS1 hR1 hg1
  go_wp2_with fail
  go_loopg [] (s.size + 1 - (0 + sk s 0)) (fun m wr => ∃ (i : Nat) (ws : List (Nat × Wd)) (v : Value), m = s.size + 1 - i ∧ i ≤ s.size ∧ LS w0 w wr g c s i ws v ∧ R = (ws ++ (lexF i (s.data.toList.drop i)).1, (lexF i (s.data.toList.drop i)).2) ∧ skM false (s.data.toList.drop i) = 0 ∧ ws.length ≤ i)
  case atStart =>
    have hsk : sk s 0 = skM false s.data.toList := by rw [sk, List.drop_zero]
    have hle := skM_le false s.data.toList
    rw [← Lib.size_eq] at hle
    refine ⟨0 + sk s 0, [], v0, rfl, by omega, H1.out, ?_, ?_, by simp⟩
    · have := lexF_skip 0 s.data.toList
      rw [Nat.zero_add] at this
      rw [hsk, Nat.zero_add, ← this, HS.out.2.1]
      simp
    · rw [hsk, Nat.zero_add]; exact skM_again false _
  case round =>
    obtain ⟨i, ws, v, hm, hi, hSi, hRi, hsk, hwl⟩ := hrel
    have A := Lib.hid (And.intro hm (And.intro hSi (And.intro hRi hsk)))
    clear hm hRi hsk hgap H1
    obtain ⟨c0, c1, cf⟩ := hSi.rd.facts2
    clear hSi
    by_cases hlt : i < s.size
    · have hd := drop_cons s i hlt
      have hx1 : (i : Int) < (s.size : Int) := by omega
      have hword := fun n => word_any g s i (wr.drewN n) hs hlt (A.out.2.1.drewN n).rd (HS.out.2.2 _ (A.out.2.1.drewN n).bel) hg6
      cases hw : wordF (s.data.toList.drop i) with
      | none =>
        rw [hw] at hword
        have hR2 : R = (ws, some i) := by
          rw [A.out.2.2.1, lexF_bad i _ _ (by rw [A.out.2.2.2]; rfl) (by rw [hd]; simp) hw, A.out.2.2.2]
          simp
        have HR := Lib.hid hR2
        have HW := Lib.hid hword
        clear hword hw hd hR2
        go_wp2_with fail
        go_quiet (fail)
        go_wp2_with fail
        refine (HW.out _).mono ?_
        rintro e w2 ⟨rfl, hg2⟩
        rw [HR.out]
        exact ⟨rfl, ⟨v, (A.out.2.1.drewN _).gone hg2⟩, rfl⟩
      | some q =>
        obtain ⟨x, n⟩ := q
        rw [hw] at hword
        have hpos := wordF_pos _ _ _ hw
        have hlen : (s.data.toList.drop i).length = s.size - i := by rw [List.length_drop, ← Lib.size_eq]
        have hin : i + n ≤ s.size := by omega
        have hsk2 : sk s (i + n) = skM false (s.data.toList.drop (i + n)) := rfl
        have hle := skM_le false (s.data.toList.drop (i + n))
        rw [List.length_drop, ← Lib.size_eq] at hle
        obtain ⟨d, hdd⟩ : ∃ d, sk s (i + n) = d := ⟨_, rfl⟩
        have hR2 : R = (ws ++ [(i, x)] ++ (lexF (i + n + d) (s.data.toList.drop (i + n + d))).1, (lexF (i + n + d) (s.data.toList.drop (i + n + d))).2) := by
          rw [A.out.2.2.1, lexF_word i _ _ x n (by rw [A.out.2.2.2]; rfl) hw, A.out.2.2.2]
          simp only [Nat.add_zero, List.drop_drop]
          rw [lexF_skip (i + n) (s.data.toList.drop (i + n)), ← hsk2, hdd, List.drop_drop]
          simp
        have hsk3 : skM false (s.data.toList.drop (i + n + d)) = 0 := by
          rw [← hdd, hsk2, ← List.drop_drop]
          exact skM_again false _
        have hid : i + n + d ≤ s.size := by omega
        have HR := Lib.hid (And.intro hR2 (And.intro hsk3 hpos.1))
        have HW := Lib.hid hword
        have hgap := fun w => gap_any g s (i + n) w (by omega) hin
        rw [hdd] at hgap
        have HG := Lib.hid hgap
        clear hword hw hd hR2 hsk3 hpos hlen hgap hle hsk2 hdd
        go_wp2_with fail
        go_quiet (fail)
        go_wp2_with fail
        refine (HW.out _).mono ?_
        rintro e w2 ⟨rfl, hR2, hg2⟩
        have hS2 := (A.out.2.1.drewN _).grown hg2 hR2
        go_wp2_with fail
        refine (give_lex w0 w g c s (i + n) ws v i x _ hS2 (by omega)).mono ?_
        rintro e w3 ⟨rfl, v3, hS3⟩
        clear hS2 hR2 hg2
        go_wp2_with fail
        refine (HG.out _ hS3.rd).mono ?_
        rintro e w4 ⟨rfl, hR4, hg4⟩
        have hS4 := hS3.grown hg4 hR4
        go_wp2_with fail
        go_roundg (s.size + 1 - (i + n + d))
        case measure => have := A.out.1; have := HR.out.2.2; omega
        case rel =>
          have := HR.out.2.2
          exact ⟨i + n + d, ws ++ [(i, x)], v3, rfl, hid, hS4, HR.out.1, HR.out.2.1, by simp; omega⟩
    · have hd : decide ((i : Int) < (s.size : Int)) = false := by simp; omega
      have hR2 : R = (ws, none) := by
        rw [A.out.2.2.1, drop_all s i (by omega), lexF_end _ [] rfl]
        simp
      have HR := Lib.hid hR2
      clear hR2
      go_wp2_with fail
      go_quiet (fail)
      go_wp2_with fail
      refine bodyPost_end (results_none rfl _ _ _) rfl ?_
      rw [HR.out]
      exact ⟨⟨v, (A.out.2.1.drewN _).le⟩, rfl⟩
set_option maxRecDepth 100000 in
set_option maxHeartbeats 2000000 in
theorem step_all (w0 : World) (g c : Nat) (s : ByteArray) (v0 : Value) (w : World) (hs : s.size ≤ 400000000) (hS : LS w0 w w g c s 0 [] v0) (E : Env w0) :
    Calls Tryz.prog 40 #[.pointer (some ⟨g, 0, none⟩), .func (.func 22) #[] #[.pointer (some ⟨c, 0, none⟩)]] w (StepOut w0 w g c (lexF 0 s.data.toList)) := by
  have hE : ∀ w', Below w0.heap.size w0 w' → Env w' := fun w' hb => E.below hb (by have := E.big; omega)
  have hg6 : LB ≤ g := by have := E.big; have := hS.low; have := hS.lt; omega
  obtain ⟨R, hR⟩ : ∃ R, lexF 0 s.data.toList = R := ⟨_, rfl⟩
  have hgap := gap_any g s 0 w (by omega) (Nat.zero_le _) hS.rd
  rw [hR]
  have HS := Lib.hid (And.intro hS (And.intro hR hE))
  clear hS hR hE E
  go_enter Tryz.func40, Tryz.ntmps40
  go_wp2_with fail
  refine hgap.mono ?_
  rintro e w1 ⟨rfl, hR1, hg1⟩
  have hS1 := HS.out.1.grown hg1 hR1
  have H1 := Lib.hid hS1
  clear hS1 hR1 hg1
  go_wp2_with fail
  go_loopg [] (s.size + 1 - (0 + sk s 0)) (fun m wr => ∃ (i : Nat) (ws : List (Nat × Wd)) (v : Value), m = s.size + 1 - i ∧ i ≤ s.size ∧ LS w0 w wr g c s i ws v ∧ R = (ws ++ (lexF i (s.data.toList.drop i)).1, (lexF i (s.data.toList.drop i)).2) ∧ skM false (s.data.toList.drop i) = 0 ∧ ws.length ≤ i)
  case atStart =>
    have hsk : sk s 0 = skM false s.data.toList := by rw [sk, List.drop_zero]
    have hle := skM_le false s.data.toList
    rw [← Lib.size_eq] at hle
    refine ⟨0 + sk s 0, [], v0, rfl, by omega, H1.out, ?_, ?_, by simp⟩
    · have := lexF_skip 0 s.data.toList
      rw [Nat.zero_add] at this
      rw [hsk, Nat.zero_add, ← this, HS.out.2.1]
      simp
    · rw [hsk, Nat.zero_add]; exact skM_again false _
  case round =>
    obtain ⟨i, ws, v, hm, hi, hSi, hRi, hsk, hwl⟩ := hrel
    have A := Lib.hid (And.intro hm (And.intro hSi (And.intro hRi hsk)))
    clear hm hRi hsk hgap H1
    obtain ⟨c0, c1, cf⟩ := hSi.rd.facts2
    clear hSi
    by_cases hlt : i < s.size
    · have hd := drop_cons s i hlt
      have hx1 : (i : Int) < (s.size : Int) := by omega
      have hword := fun n => word_any g s i (wr.drewN n) hs hlt (A.out.2.1.drewN n).rd (HS.out.2.2 _ (A.out.2.1.drewN n).bel) hg6
      cases hw : wordF (s.data.toList.drop i) with
      | none =>
        rw [hw] at hword
        have hR2 : R = (ws, some i) := by
          rw [A.out.2.2.1, lexF_bad i _ _ (by rw [A.out.2.2.2]; rfl) (by rw [hd]; simp) hw, A.out.2.2.2]
          simp
        have HR := Lib.hid hR2
        have HW := Lib.hid hword
        clear hword hw hd hR2
        go_wp2_with fail
        go_quiet (fail)
        go_wp2_with fail
        refine (HW.out _).mono ?_
        rintro e w2 ⟨rfl, hg2⟩
        rw [HR.out]
        exact ⟨rfl, ⟨v, (A.out.2.1.drewN _).gone hg2⟩, rfl⟩
      | some q =>
        obtain ⟨x, n⟩ := q
        rw [hw] at hword
        have hpos := wordF_pos _ _ _ hw
        have hlen : (s.data.toList.drop i).length = s.size - i := by rw [List.length_drop, ← Lib.size_eq]
        have hin : i + n ≤ s.size := by omega
        have hsk2 : sk s (i + n) = skM false (s.data.toList.drop (i + n)) := rfl
        have hle := skM_le false (s.data.toList.drop (i + n))
        rw [List.length_drop, ← Lib.size_eq] at hle
        obtain ⟨d, hdd⟩ : ∃ d, sk s (i + n) = d := ⟨_, rfl⟩
        have hR2 : R = (ws ++ [(i, x)] ++ (lexF (i + n + d) (s.data.toList.drop (i + n + d))).1, (lexF (i + n + d) (s.data.toList.drop (i + n + d))).2) := by
          rw [A.out.2.2.1, lexF_word i _ _ x n (by rw [A.out.2.2.2]; rfl) hw, A.out.2.2.2]
          simp only [Nat.add_zero, List.drop_drop]
          rw [lexF_skip (i + n) (s.data.toList.drop (i + n)), ← hsk2, hdd, List.drop_drop]
          simp
        have hsk3 : skM false (s.data.toList.drop (i + n + d)) = 0 := by
          rw [← hdd, hsk2, ← List.drop_drop]
          exact skM_again false _
        have hid : i + n + d ≤ s.size := by omega
        have HR := Lib.hid (And.intro hR2 (And.intro hsk3 hpos.1))
        have HW := Lib.hid hword
        have hgap := fun w => gap_any g s (i + n) w (by omega) hin
        rw [hdd] at hgap
        have HG := Lib.hid hgap
        clear hword hw hd hR2 hsk3 hpos hlen hgap hle hsk2 hdd
        go_wp2_with fail
        go_quiet (fail)
        go_wp2_with fail
        refine (HW.out _).mono ?_
        rintro e w2 ⟨rfl, hR2, hg2⟩
        have hS2 := (A.out.2.1.drewN _).grown hg2 hR2
        go_wp2_with fail
        refine (give_all w0 w g c s (i + n) ws v i x _ hS2 (by omega)).mono ?_
        rintro e w3 ⟨rfl, v3, hS3⟩
        clear hS2 hR2 hg2
        go_wp2_with fail
        refine (HG.out _ hS3.rd).mono ?_
        rintro e w4 ⟨rfl, hR4, hg4⟩
        have hS4 := hS3.grown hg4 hR4
        go_wp2_with fail
        go_roundg (s.size + 1 - (i + n + d))
        case measure => have := A.out.1; have := HR.out.2.2; omega
        case rel =>
          have := HR.out.2.2
          exact ⟨i + n + d, ws ++ [(i, x)], v3, rfl, hid, hS4, HR.out.1, HR.out.2.1, by simp; omega⟩
    · have hd : decide ((i : Int) < (s.size : Int)) = false := by simp; omega
      have hR2 : R = (ws, none) := by
        rw [A.out.2.2.1, drop_all s i (by omega), lexF_end _ [] rfl]
        simp
      have HR := Lib.hid hR2
      clear hR2
      go_wp2_with fail
      go_quiet (fail)
      go_wp2_with fail
      refine bodyPost_end (results_none rfl _ _ _) rfl ?_
      rw [HR.out]
      exact ⟨⟨v, (A.out.2.1.drewN _).le⟩, rfl⟩
end Go.Proofs.YtacgnbelcpmjfaaGreatDoor.Dx
set_option linter.unusedVariables false
set_option linter.unusedSimpArgs false
namespace Go.Proofs.YtacgnbelcpmjfaaGreatDoor.Dx
open Go.RowKit Go.Proofs Mx

theorem catch_idle (p q : Addr) (w : World) :
    CallsD Tryz.prog 39 #[.pointer (some p), .pointer (some q)] .returning w fun e u' w' => e = .returned (.tuple #[]) ∧ u' = .returning ∧ w' = w := by
  refine callsD_of_wpS Tryz.func39 rfl fun c₀ cs hu => ?_
  apply wpS_seq
  apply wpS_region
  simp [wpOpsS, go_sem, recoverD, hu, Tryz.ntmps39, Exit.thenS]
  refine wpS_of_wp ?_
  go_wp2
  cases c₀
  simp_all [bodyPostS, results, Tryz.results39]

set_option maxRecDepth 100000 in
set_option maxHeartbeats 1000000 in
theorem catch_refused (a b : Nat) (k : Nat) (older : List PanicEntry) (w : World) (ha : Blk w a 3 #[.int .i64 0]) (hb : Blk w b 24 #[.int .i64 0]) (hab : a ≠ b) :
    CallsD Tryz.prog 39 #[.pointer (some ⟨a, 0, none⟩), .pointer (some ⟨b, 0, none⟩)] (.panicking ({ v := .iface 78 (.agg #[.int .i64 (k : Int)]), recovered := false } :: older)) w fun e u' w' =>
      e = .returned (.tuple #[]) ∧ u' = .panicking ({ v := .iface 78 (.agg #[.int .i64 (k : Int)]), recovered := true } :: older) ∧
      w' = ((w.setCell ⟨a, 0, none⟩ (.int .i64 (k : Int))).setCell ⟨b, 0, none⟩ (.int .i64 130)).alloc (.cells #[.int .i64 (k : Int)] 78) := by
  obtain ⟨a0, af⟩ := ha.facts1
  obtain ⟨b0, bf⟩ := hb.facts1
  have haw := ha.lt
  have hbw := hb.lt
  refine callsD_of_wpS Tryz.func39 rfl fun c₀ cs hu => ?_
  apply wpS_seq
  apply wpS_region
  simp [wpOpsS, go_sem, recoverD, hu, Tryz.ntmps39, Exit.thenS]
  refine wpS_of_wp ?_
  have hta : ∀ (v : Value) (w : World), (Instr.typeAssert (.iface 78 v) 20 78 true).run Tryz.prog w = .ok (.tuple #[v, .bool true]) w := fun _ _ => by kernel_rfl
  rw [show (#[Value.pointer (some ⟨a, 0, none⟩), Value.pointer (some ⟨b, 0, none⟩)] ++ (Array.replicate 11 undef).setIfInBounds 3 (Value.iface 78 (Value.agg #[Value.int .i64 (k : Int)])) : Array Value) = #[Value.pointer (some ⟨a, 0, none⟩), Value.pointer (some ⟨b, 0, none⟩), undef, undef, undef, Value.iface 78 (Value.agg #[Value.int .i64 (k : Int)]), undef, undef, undef, undef, undef, undef, undef] from rfl]
  go_wp2
  simp [bodyPostS, results, Tryz.results39]

theorem res2 (tmps : Array Value) (w : World) (a b : Nat) (x y : Int) (hp : tmps.getD 4 undef = .pointer (some ⟨a, 0, none⟩)) (hq : tmps.getD 5 undef = .pointer (some ⟨b, 0, none⟩)) (ha : Blk w a 3 #[.int .i64 x]) (hb : Blk w b 24 #[.int .i64 y]) :
    (results Tryz.f17 tmps).run Tryz.prog w = .ok (.tuple #[.int .i64 x, .int .i64 y]) w := by
  have a0 := ha.cell 0
  have b0 := hb.cell 0
  simp at a0 b0 hp hq
  simp [results, Tryz.results17, go_sem, hp, hq, a0, b0]
/-- What is known behind a call of read: the words, in the variable c. -/
structure LX (w0 wr : World) (c : Nat) (ws : List (Nat × Wd)) (v : Value) : Prop where
  own : ∃ B, c < B ∧ wr.ownsRow B 35 8 v ws.length (wcells ws)
  cell : Blk wr c 23 #[v]
  bel : Below w0.heap.size w0 wr
  low : w0.heap.size ≤ c
/-- A text's words up to the first that can't be read; where that is, which error. -/
def readR (l : List UInt8) : List (Nat × Wd) × Int × Int :=
  if 1048576 < l.length then ([], 0, 3) else ((lexF 0 l).1, match (lexF 0 l).2 with | none => (0, 0) | some p => ((p : Int), 130))
def ReadsOut (w0 : World) (c : Nat) (r : List (Nat × Wd) × Int × Int) (e : Ending) (w' : World) : Prop :=
  e = .returned (.tuple #[.int .i64 r.2.1, .int .i64 r.2.2]) ∧ ∃ v, LX w0 w' c r.1 v
theorem LE.lx {w0 wb wr : World} {g c a b : Nat} {ws : List (Nat × Wd)} {v x y : Value} (h : LE w0 wb wr g c ws v) (ha : c < a ∧ a < g) (hb : c < b ∧ b < g) :
    LX w0 ((wr.setCell ⟨a, 0, none⟩ x).setCell ⟨b, 0, none⟩ y) c ws v :=
  ⟨⟨g + 1, by omega, ownsRow_setCell_below (ownsRow_setCell_below h.own (show a < g + 1 by omega) _) (show b < g + 1 by omega) _⟩,
   (h.cell.far (p := ⟨a, 0, none⟩) (by simp; omega) _).far (p := ⟨b, 0, none⟩) (by simp; omega) _,
   (h.bel.setCell (p := ⟨a, 0, none⟩) (by have := h.low; simp; omega) _).setCell (p := ⟨b, 0, none⟩) (by have := h.low; simp; omega) _, h.low⟩
theorem LX.alloc {w0 wr : World} {c : Nat} {ws : List (Nat × Wd)} {v : Value} (h : LX w0 wr c ws v) (o : Obj) : LX w0 (wr.alloc o) c ws v := by
  obtain ⟨B, hB, ho⟩ := h.own
  exact ⟨⟨B, hB, ho.alloc o⟩, h.cell.alloc o, h.bel.alloc h.bel.size o, h.low⟩

set_option maxRecDepth 100000 in
set_option maxHeartbeats 2000000 in
theorem read_lex (w0 : World) (c : Nat) (s : ByteArray) (w : World) (hc : Blk w c 23 #[.slice none 0 0]) (hb0 : Below w0.heap.size w0 w) (hlow : w0.heap.size ≤ c) (E : Env w0) :
    Calls Tryz.prog 17 #[.string s, .func (.func 18) #[] #[.pointer (some ⟨c, 0, none⟩)]] w (ReadsOut w0 c (readR s.data.toList)) := by
  have hcw := hc.lt
  have hmf : ∀ (fn : Fn) (first cap : Array Value) (w : World), (Instr.makeFunc fn first cap).run Tryz.prog w = .ok (.func fn first cap) w := fun _ _ _ _ => rfl
  by_cases hbig : 1048576 < s.size
  · have hz : (1048576 : Int) < (s.size : Int) := by omega
    have H := Lib.hid (And.intro hc (And.intro hb0 hlow))
    have HR := Lib.hid (show readR s.data.toList = ([], 0, 3) by rw [readR, if_pos (by rw [← Lib.size_eq]; exact hbig)])
    clear hc hb0 hlow hbig
    go_enter_defers Tryz.func17, Tryz.ntmps17
    go_wp2_with fail
    have bb : Blk ((w.alloc (.cells #[.int .i64 0] 3)).alloc (.cells #[.int .i64 3] 24)) (w.heap.size + 1) 24 #[.int .i64 3] := Blk.new_ (by simp) _ _
    have ba : Blk ((w.alloc (.cells #[.int .i64 0] 3)).alloc (.cells #[.int .i64 3] 24)) w.heap.size 3 #[.int .i64 0] := (Blk.new_ rfl _ _).alloc _
    refine ⟨.tuple #[.int .i64 0, .int .i64 3], res2 _ _ _ _ _ _ (by rfl) (by rfl) ba bb, ?_⟩
    rw [HR.out]
    exact ⟨rfl, .slice none 0 0, ⟨c + 1, by omega, rfl, .inl ⟨rfl, rfl⟩⟩, (H.out.1.alloc _).alloc _, (H.out.2.1.alloc H.out.2.1.size _).alloc (by have := H.out.2.1.size; simp; omega) _, H.out.2.2⟩
  · have hz : ¬ (1048576 : Int) < (s.size : Int) := by omega
    obtain ⟨W0, hW0⟩ : ∃ W0, (((w.alloc (.cells #[.int .i64 0] 3)).alloc (.cells #[.int .i64 0] 24)).alloc (.cells #[.string s, .int .i64 0] 74)) = W0 := ⟨_, rfl⟩
    have ba : Blk W0 w.heap.size 3 #[.int .i64 0] := by rw [← hW0]; exact ((Blk.new_ rfl _ _).alloc _).alloc _
    have bb : Blk W0 (w.heap.size + 1) 24 #[.int .i64 0] := by rw [← hW0]; exact (Blk.new_ (by simp) _ _).alloc _
    have br : Rd W0 (w.heap.size + 2) s 0 := by rw [← hW0]; exact Blk.new_ (by simp) _ _
    have bc : Blk W0 c 23 #[.slice none 0 0] := by rw [← hW0]; exact ((hc.alloc _).alloc _).alloc _
    have bB : Below w0.heap.size w0 W0 := by rw [← hW0]; exact ((hb0.alloc hb0.size _).alloc (by have := hb0.size; simp; omega) _).alloc (by have := hb0.size; simp; omega) _
    have hS : LS w0 W0 W0 (w.heap.size + 2) c s 0 [] (.slice none 0 0) := ⟨⟨rfl, .inl ⟨rfl, rfl⟩⟩, bc, br, bB, hlow, by omega, fun _ _ _ => rfl⟩
    have hstep := step_lex w0 (w.heap.size + 2) c s _ W0 (by omega) hS E
    have hlen : ¬ 1048576 < s.data.toList.length := by rw [← Lib.size_eq]; exact hbig
    have HL := Lib.hid hlen
    obtain ⟨R, hr⟩ : ∃ R, lexF 0 s.data.toList = R := ⟨_, rfl⟩
    obtain ⟨ws, o⟩ := R
    rw [hr] at hstep
    have H := Lib.hid (And.intro hstep (And.intro ba bb))
    have HW := Lib.hid hW0
    clear hstep ba bb br bc bB hS hW0 hlen hc hb0 hbig
    have HR := Lib.hid hr
    clear hr
    go_enter_defers Tryz.func17, Tryz.ntmps17
    go_wp2_with fail
    rw [HW.out]
    refine H.out.1.mono ?_
    rintro e w2 ⟨⟨v, hE⟩, he⟩
    have ba2 : Blk w2 w.heap.size 3 #[.int .i64 0] := (hE.keep _ (by omega) (by omega)).trans H.out.2.1
    have bb2 : Blk w2 (w.heap.size + 1) 24 #[.int .i64 0] := (hE.keep _ (by omega) (by omega)).trans H.out.2.2
    have HE := Lib.hid (And.intro hE (And.intro ba2 bb2))
    cases o with
    | none =>
      obtain rfl : e = .returned (.tuple #[]) := he
      obtain ⟨a0, af⟩ := ba2.facts1
      obtain ⟨b0, bf⟩ := bb2.facts1
      clear ba2 bb2 hE
      go_wp2_with fail
      refine leaves_cons (f := 39) (args := #[.pointer (some ⟨w.heap.size, 0, none⟩), .pointer (some ⟨w.heap.size + 1, 0, none⟩)]) (by simp) (by simp [go_sem]) ?_
      refine (catch_idle ⟨w.heap.size, 0, none⟩ ⟨w.heap.size + 1, 0, none⟩ _).mono ?_
      rintro e u' w'' ⟨rfl, rfl, rfl⟩
      refine ⟨.tuple #[.int .i64 0, .int .i64 0], res2 _ _ _ _ _ _ (by rfl) (by rfl) ((HE.out.2.1.set_ 0 _).far (p := ⟨w.heap.size + 1, 0, none⟩) (by simp) _) ((HE.out.2.2.far (p := ⟨w.heap.size, 0, none⟩) (by simp) _).set_ 0 _), ?_⟩
      rw [readR, if_neg HL.out, HR.out]
      exact ⟨rfl, v, HE.out.1.lx (by omega) (by omega)⟩
    | some p =>
      obtain rfl : e = .panicked (refusedAt p) := he
      clear hE
      refine leaves_cons (f := 39) (args := #[.pointer (some ⟨w.heap.size, 0, none⟩), .pointer (some ⟨w.heap.size + 1, 0, none⟩)]) (by simp) (by simp [go_sem]) ?_
      refine (catch_refused w.heap.size (w.heap.size + 1) p [] w2 ba2 bb2 (by omega)).mono ?_
      rintro e u' w'' ⟨rfl, rfl, rfl⟩
      refine ⟨.tuple #[.int .i64 (p : Int), .int .i64 130], res2 _ _ _ _ _ _ (by rfl) (by rfl) (((HE.out.2.1.set_ 0 _).far (p := ⟨w.heap.size + 1, 0, none⟩) (by simp) _).alloc _) (((HE.out.2.2.far (p := ⟨w.heap.size, 0, none⟩) (by simp) _).set_ 0 _).alloc _), ?_⟩
      rw [readR, if_neg HL.out, HR.out]
      exact ⟨rfl, v, (HE.out.1.lx (by omega) (by omega)).alloc _⟩
set_option maxRecDepth 100000 in
set_option maxHeartbeats 2000000 in
theorem read_all (w0 : World) (c : Nat) (s : ByteArray) (w : World) (hc : Blk w c 23 #[.slice none 0 0]) (hb0 : Below w0.heap.size w0 w) (hlow : w0.heap.size ≤ c) (E : Env w0) :
    Calls Tryz.prog 17 #[.string s, .func (.func 22) #[] #[.pointer (some ⟨c, 0, none⟩)]] w (ReadsOut w0 c (readR s.data.toList)) := by
  have hcw := hc.lt
  have hmf : ∀ (fn : Fn) (first cap : Array Value) (w : World), (Instr.makeFunc fn first cap).run Tryz.prog w = .ok (.func fn first cap) w := fun _ _ _ _ => rfl
  by_cases hbig : 1048576 < s.size
  · have hz : (1048576 : Int) < (s.size : Int) := by omega
    have H := Lib.hid (And.intro hc (And.intro hb0 hlow))
    have HR := Lib.hid (show readR s.data.toList = ([], 0, 3) by rw [readR, if_pos (by rw [← Lib.size_eq]; exact hbig)])
    clear hc hb0 hlow hbig
    go_enter_defers Tryz.func17, Tryz.ntmps17
    go_wp2_with fail
    have bb : Blk ((w.alloc (.cells #[.int .i64 0] 3)).alloc (.cells #[.int .i64 3] 24)) (w.heap.size + 1) 24 #[.int .i64 3] := Blk.new_ (by simp) _ _
    have ba : Blk ((w.alloc (.cells #[.int .i64 0] 3)).alloc (.cells #[.int .i64 3] 24)) w.heap.size 3 #[.int .i64 0] := (Blk.new_ rfl _ _).alloc _
    refine ⟨.tuple #[.int .i64 0, .int .i64 3], res2 _ _ _ _ _ _ (by rfl) (by rfl) ba bb, ?_⟩
    rw [HR.out]
    exact ⟨rfl, .slice none 0 0, ⟨c + 1, by omega, rfl, .inl ⟨rfl, rfl⟩⟩, (H.out.1.alloc _).alloc _, (H.out.2.1.alloc H.out.2.1.size _).alloc (by have := H.out.2.1.size; simp; omega) _, H.out.2.2⟩
  · have hz : ¬ (1048576 : Int) < (s.size : Int) := by omega
    obtain ⟨W0, hW0⟩ : ∃ W0, (((w.alloc (.cells #[.int .i64 0] 3)).alloc (.cells #[.int .i64 0] 24)).alloc (.cells #[.string s, .int .i64 0] 74)) = W0 := ⟨_, rfl⟩
    have ba : Blk W0 w.heap.size 3 #[.int .i64 0] := by rw [← hW0]; exact ((Blk.new_ rfl _ _).alloc _).alloc _
    have bb : Blk W0 (w.heap.size + 1) 24 #[.int .i64 0] := by rw [← hW0]; exact (Blk.new_ (by simp) _ _).alloc _
    have br : Rd W0 (w.heap.size + 2) s 0 := by rw [← hW0]; exact Blk.new_ (by simp) _ _
    have bc : Blk W0 c 23 #[.slice none 0 0] := by rw [← hW0]; exact ((hc.alloc _).alloc _).alloc _
    have bB : Below w0.heap.size w0 W0 := by rw [← hW0]; exact ((hb0.alloc hb0.size _).alloc (by have := hb0.size; simp; omega) _).alloc (by have := hb0.size; simp; omega) _
    have hS : LS w0 W0 W0 (w.heap.size + 2) c s 0 [] (.slice none 0 0) := ⟨⟨rfl, .inl ⟨rfl, rfl⟩⟩, bc, br, bB, hlow, by omega, fun _ _ _ => rfl⟩
    have hstep := step_all w0 (w.heap.size + 2) c s _ W0 (by omega) hS E
    have hlen : ¬ 1048576 < s.data.toList.length := by rw [← Lib.size_eq]; exact hbig
    have HL := Lib.hid hlen
    obtain ⟨R, hr⟩ : ∃ R, lexF 0 s.data.toList = R := ⟨_, rfl⟩
    obtain ⟨ws, o⟩ := R
    rw [hr] at hstep
    have H := Lib.hid (And.intro hstep (And.intro ba bb))
    have HW := Lib.hid hW0
    clear hstep ba bb br bc bB hS hW0 hlen hc hb0 hbig
    have HR := Lib.hid hr
    clear hr
    go_enter_defers Tryz.func17, Tryz.ntmps17
    go_wp2_with fail
    rw [HW.out]
    refine H.out.1.mono ?_
    rintro e w2 ⟨⟨v, hE⟩, he⟩
    have ba2 : Blk w2 w.heap.size 3 #[.int .i64 0] := (hE.keep _ (by omega) (by omega)).trans H.out.2.1
    have bb2 : Blk w2 (w.heap.size + 1) 24 #[.int .i64 0] := (hE.keep _ (by omega) (by omega)).trans H.out.2.2
    have HE := Lib.hid (And.intro hE (And.intro ba2 bb2))
    cases o with
    | none =>
      obtain rfl : e = .returned (.tuple #[]) := he
      obtain ⟨a0, af⟩ := ba2.facts1
      obtain ⟨b0, bf⟩ := bb2.facts1
      clear ba2 bb2 hE
      go_wp2_with fail
      refine leaves_cons (f := 39) (args := #[.pointer (some ⟨w.heap.size, 0, none⟩), .pointer (some ⟨w.heap.size + 1, 0, none⟩)]) (by simp) (by simp [go_sem]) ?_
      refine (catch_idle ⟨w.heap.size, 0, none⟩ ⟨w.heap.size + 1, 0, none⟩ _).mono ?_
      rintro e u' w'' ⟨rfl, rfl, rfl⟩
      refine ⟨.tuple #[.int .i64 0, .int .i64 0], res2 _ _ _ _ _ _ (by rfl) (by rfl) ((HE.out.2.1.set_ 0 _).far (p := ⟨w.heap.size + 1, 0, none⟩) (by simp) _) ((HE.out.2.2.far (p := ⟨w.heap.size, 0, none⟩) (by simp) _).set_ 0 _), ?_⟩
      rw [readR, if_neg HL.out, HR.out]
      exact ⟨rfl, v, HE.out.1.lx (by omega) (by omega)⟩
    | some p =>
      obtain rfl : e = .panicked (refusedAt p) := he
      clear hE
      refine leaves_cons (f := 39) (args := #[.pointer (some ⟨w.heap.size, 0, none⟩), .pointer (some ⟨w.heap.size + 1, 0, none⟩)]) (by simp) (by simp [go_sem]) ?_
      refine (catch_refused w.heap.size (w.heap.size + 1) p [] w2 ba2 bb2 (by omega)).mono ?_
      rintro e u' w'' ⟨rfl, rfl, rfl⟩
      refine ⟨.tuple #[.int .i64 (p : Int), .int .i64 130], res2 _ _ _ _ _ _ (by rfl) (by rfl) (((HE.out.2.1.set_ 0 _).far (p := ⟨w.heap.size + 1, 0, none⟩) (by simp) _).alloc _) (((HE.out.2.2.far (p := ⟨w.heap.size, 0, none⟩) (by simp) _).set_ 0 _).alloc _), ?_⟩
      rw [readR, if_neg HL.out, HR.out]
      exact ⟨rfl, v, (HE.out.1.lx (by omega) (by omega)).alloc _⟩
end Go.Proofs.YtacgnbelcpmjfaaGreatDoor.Dx
set_option linter.unusedVariables false
set_option linter.unusedSimpArgs false
namespace Go.Proofs.YtacgnbelcpmjfaaGreatDoor.Dx
open Go.RowKit Go.Proofs Mx

/-- What Lex answers: the words, a place, an error's number. -/
def lexR (l : List UInt8) : List (Nat × Wd) × Int × Int := if (readR l).2.2 = 0 then ((readR l).1, 0, 0) else ([], (readR l).2.1, (readR l).2.2)
def LexOut (w : World) (r : List (Nat × Wd) × Int × Int) (e : Ending) (w' : World) : Prop :=
  ∃ a n c, e = .returned (.tuple #[.slice a n c, .int .i64 r.2.1, .int .i64 r.2.2]) ∧ w'.ownsRow w.heap.size 35 8 (.slice a n c) r.1.length (wcells r.1) ∧ Below w.heap.size w w'
theorem own_low {w : World} {B B' : Nat} {e : TypeId} {size : Nat} {v : Value} {n : Nat} {xs : List Value} (h : w.ownsRow B e size v n xs) (hB : B' ≤ B) : w.ownsRow B' e size v n xs := by
  refine ⟨h.1, ?_⟩
  rcases h.2 with h | ⟨g, cap, cur, hv, hg, hh, r⟩
  · exact .inl h
  · exact .inr ⟨g, cap, cur, hv, Nat.le_trans hB hg, hh, r⟩

set_option maxRecDepth 100000 in
set_option maxHeartbeats 1000000 in
theorem lex_any (s : ByteArray) (w : World) (E : Env w) :
    Calls Tryz.prog 6 #[.string s] w (LexOut w (lexR s.data.toList)) := by
  have hmf : ∀ (fn : Fn) (first cap : Array Value) (w : World), (Instr.makeFunc fn first cap).run Tryz.prog w = .ok (.func fn first cap) w := fun _ _ _ _ => rfl
  have hread := read_lex w w.heap.size s (w.alloc (.cells #[.slice none 0 0] 23)) (Blk.new_ rfl _ _) ((Below.refl _ w).alloc (Nat.le_refl _) _) (Nat.le_refl _) E
  obtain ⟨R, hR⟩ : ∃ R, readR s.data.toList = R := ⟨_, rfl⟩
  rw [hR] at hread
  obtain ⟨ws, at_, en⟩ := R
  have H := Lib.hid (And.intro hread hR)
  clear hread hR E
  go_enter Tryz.func6, Tryz.ntmps6
  go_wp2_with fail
  refine H.out.1.mono ?_
  rintro e w2 ⟨rfl, v, hX⟩
  obtain ⟨B, hB, ho⟩ := hX.own
  obtain ⟨sa, sn, sc, rfl⟩ := own_slice ho
  have c0 := hX.cell.cell 0
  by_cases h0 : en = 0
  · subst h0
    have HX := Lib.hid (And.intro hX (own_low ho (Nat.le_of_lt hB)))
    clear hX ho
    simp at c0
    go_wp2_with fail
    go_ret3
    refine ⟨sa, sn, sc, ?_, ?_, HX.out.1.bel⟩
    · rw [lexR, H.out.2]; rfl
    · rw [lexR, H.out.2]; exact HX.out.2
  · have hne : (en != 0) = true := by simpa using h0
    have HX := Lib.hid (And.intro hX h0)
    clear hX ho h0
    go_wp2_with fail
    go_ret3
    refine ⟨none, 0, 0, ?_, ?_, HX.out.1.bel⟩
    · rw [lexR, H.out.2, if_neg HX.out.2]; rfl
    · rw [lexR, H.out.2, if_neg HX.out.2]
      exact ⟨rfl, .inl ⟨rfl, rfl⟩⟩
theorem all_any (s : ByteArray) (w : World) :
    Calls Tryz.prog 10 #[.string s] w fun e w' => e = .returned (.func (.func 21) #[] #[.pointer (some ⟨w.heap.size, 0, none⟩)]) ∧ w' = w.alloc (.cells #[.string s] 9) := by
  have hmf : ∀ (fn : Fn) (first cap : Array Value) (w : World), (Instr.makeFunc fn first cap).run Tryz.prog w = .ok (.func fn first cap) w := fun _ _ _ _ => rfl
  go_enter Tryz.func10, Tryz.ntmps10
  go_wp2
  go_ret
  exact ⟨rfl, rfl⟩
end Go.Proofs.YtacgnbelcpmjfaaGreatDoor.Dx
set_option linter.unusedVariables false
set_option linter.unusedSimpArgs false
namespace Go.Proofs.YtacgnbelcpmjfaaGreatDoor.Dx
open Go.RowKit Go.Proofs Mx

theorem takeWhile_len (l : List UInt8) : (l.takeWhile wordB).length = l.length ↔ l.all wordB = true := by
  induction l with
  | nil => simp
  | cons c t ih =>
    rw [List.takeWhile_cons, List.all_cons]
    cases hc : wordB c with
    | true => simpa using ih
    | false => simp
theorem letter_cls (b : UInt8) : letterB (b.toNat : Int) = true ↔ classI (b.toNat : Int) = 1 := by
  have := classI_cases (b.toNat : Int) _ (sign_index b) sign_range
  rw [letterB_true]; omega
theorem empty_bytes (s : ByteArray) (h : s.size = 0) : s = ⟨#[]⟩ := by
  cases s with
  | mk d => cases d with
    | mk l => cases l with
      | nil => rfl
      | cons c t => exact absurd h (by show (c :: t).length ≠ 0; simp)
theorem first_byte (s : ByteArray) (h : 0 < s.size) : ∃ t, s.data.toList = s[0] :: t := by
  have := drop_cons s 0 h
  exact ⟨_, this⟩
set_option maxRecDepth 100000 in
set_option maxHeartbeats 1000000 in
theorem name_any (s : ByteArray) (hs : s.size ≤ 400000000) (w : World) :
    Calls Tryz.prog 16 #[.string s] w fun e w' => e = .returned (.bool (nameB s.data.toList)) ∧ Below w.heap.size w w' := by
  by_cases h0 : s.size = 0
  · obtain rfl := empty_bytes s h0
    have hq : ((⟨#[]⟩ : ByteArray).toList != []) = false := by rw [ByteArray.toList_eq]; rfl
    go_enter Tryz.func16, Tryz.ntmps16
    go_wp2_with fail
    go_ret
    exact ⟨rfl, (Below.refl _ _).alloc (Nat.le_refl _) _⟩
  · obtain ⟨t, ht⟩ := first_byte s (by omega)
    obtain ⟨b, hb⟩ : ∃ b, s[0] = b := ⟨_, rfl⟩
    rw [hb] at ht
    have hx0 : (0 : Int) < (s.size : Int) := by omega
    have hne : s.toList ≠ [] := by rw [ByteArray.toList_eq, ht]; simp
    have hq : (s.toList != []) = true := by simpa using hne
    have hq2 : s.toList.isEmpty = false := by rw [ByteArray.toList_eq, ht]; rfl
    have hcl := letter_cls b
    have hR : Rd (w.alloc (.cells #[.string s, .int .i64 0] 74)) w.heap.size s 0 := Blk.new_ rfl _ _
    have hrun := run_any w.heap.size s 0 (w.alloc (.cells #[.string s, .int .i64 0] 74)) (by omega) (Nat.zero_le _) hR
    have htl := takeWhile_len s.data.toList
    have hrs := run_size s 0
    rw [Nat.zero_add] at hrun hrs
    obtain ⟨r, hr⟩ : ∃ r, s.extract 0 (tw s 0) = r := ⟨_, rfl⟩
    rw [hr] at hrun hrs
    have htw : tw s 0 = (s.data.toList.takeWhile wordB).length := by rw [tw, List.drop_zero]
    have hsz : s.size = s.data.toList.length := Lib.size_eq s
    have hbl : Below w.heap.size w (w.alloc (.cells #[.string s, .int .i64 0] 74)) := (Below.refl _ w).alloc (Nat.le_refl _) _
    have H := Lib.hid (And.intro hrun hbl)
    have HT := Lib.hid ht
    clear hrun hr hR hbl hne ht
    by_cases h1 : classI (b.toNat : Int) = 1
    · have hc1 : (classI (b.toNat : Int) == 1) = true := by rw [h1]; rfl
      have HL := Lib.hid (hcl.2 h1)
      clear h1 hcl
      by_cases h2 : tw s 0 = s.size
      · have hr1 : ((r.size : Int) == (s.size : Int)) = true := by simp; omega
        have HA := Lib.hid (htl.1 (by omega))
        by_cases h3 : s.size ≤ 64
        · have hl : decide ((s.size : Int) ≤ 64) = true := by simp; omega
          have HR := Lib.hid (show nameB s.data.toList = true by
            have ha := HA.out
            rw [HT.out] at ha hsz ⊢
            simp only [nameB, HL.out, ha, Bool.and_self, Bool.true_and, decide_eq_true_eq]
            omega)
          clear h2 h3 htl hrs htw hsz
          go_enter Tryz.func16, Tryz.ntmps16
          go_wp2_with fail
          refine (class_q b _).mono ?_
          rintro e w1 ⟨rfl, rfl⟩
          go_wp2_with fail
          refine H.out.1.mono ?_
          rintro e w2 ⟨rfl, _, hg2⟩
          go_wp2_with fail
          go_ret
          rw [HR.out]
          exact ⟨rfl, H.out.2.trans (below_of_grown hg2 (by simp) (Nat.le_refl _))⟩
        · have hl : decide ((s.size : Int) ≤ 64) = false := by simp; omega
          have HR := Lib.hid (show nameB s.data.toList = false by
            rw [HT.out] at hsz ⊢
            have : decide ((b :: t).length ≤ 64) = false := by simp only [decide_eq_false_iff_not]; omega
            simp only [nameB, this, Bool.and_false])
          clear h2 h3 htl hrs htw hsz
          go_enter Tryz.func16, Tryz.ntmps16
          go_wp2_with fail
          refine (class_q b _).mono ?_
          rintro e w1 ⟨rfl, rfl⟩
          go_wp2_with fail
          refine H.out.1.mono ?_
          rintro e w2 ⟨rfl, _, hg2⟩
          go_wp2_with fail
          go_ret
          rw [HR.out]
          exact ⟨rfl, H.out.2.trans (below_of_grown hg2 (by simp) (Nat.le_refl _))⟩
      · have hr1 : ((r.size : Int) == (s.size : Int)) = false := by simp; omega
        have HR := Lib.hid (show nameB s.data.toList = false by
          have : s.data.toList.all wordB = false := by
            cases ha : s.data.toList.all wordB with
            | false => rfl
            | true => exact absurd (htl.2 ha) (by omega)
          simp only [nameB, this, Bool.and_false, Bool.false_and])
        clear h2 htl hrs htw hsz
        go_enter Tryz.func16, Tryz.ntmps16
        go_wp2_with fail
        refine (class_q b _).mono ?_
        rintro e w1 ⟨rfl, rfl⟩
        go_wp2_with fail
        refine H.out.1.mono ?_
        rintro e w2 ⟨rfl, _, hg2⟩
        go_wp2_with fail
        go_ret
        rw [HR.out]
        exact ⟨rfl, H.out.2.trans (below_of_grown hg2 (by simp) (Nat.le_refl _))⟩
    · have hc1 : (classI (b.toNat : Int) == 1) = false := by simpa using h1
      have HR := Lib.hid (show nameB s.data.toList = false by
        have : letterB (b.toNat : Int) = false := by
          cases ha : letterB (b.toNat : Int) with
          | false => rfl
          | true => exact absurd (hcl.1 ha) h1
        rw [HT.out]
        simp only [nameB, this, Bool.false_and])
      clear h1 hcl htl hrs htw hsz
      go_enter Tryz.func16, Tryz.ntmps16
      go_wp2_with fail
      refine (class_q b _).mono ?_
      rintro e w1 ⟨rfl, rfl⟩
      go_wp2_with fail
      go_ret
      rw [HR.out]
      exact ⟨rfl, H.out.2⟩
end Go.Proofs.YtacgnbelcpmjfaaGreatDoor.Dx
