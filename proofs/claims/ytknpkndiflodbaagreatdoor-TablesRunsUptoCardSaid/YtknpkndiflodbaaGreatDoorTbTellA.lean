/-
  WALKS: what tables tell: at, States, Start, Items, Reduces, Leads, All, to, Shift, Goto, Next.
  WALKS: what tables tell: States, Start, Leads, to, Shift, Goto, Reduces, Items, Next, All.
  WALKS: slices.Clone at int; Reduces, Items, All.
-/
import Derived.Test.YtknpkndiflodbaaGreatDoorTbMaker
import Derived.Test.YtknpkndiflodbaaGreatDoorTbRefA
import Derived.Test.YtknpkndiflodbaaGreatDoorTbLead1A
import Derived.Test.YtknpkndiflodbaaGreatDoorTbLead
import Derived.OwnWalk
set_option linter.unusedVariables false
set_option linter.unusedSimpArgs false
namespace Go.Proofs.YtknpkndiflodbaaGreatDoor.Tb
open Go Go.RowKit Go.Proofs Go.Maps Mx
/-- Tables in memory. -/
structure TabW (g : Gr) (B : Nat) (tb : Nat) (sm : List SM) (w : World) : Prop where
  blk : ∃ va, Blk w tb 99 #[va] ∧ w.ownsRow B 104 7 va sm.length (flatK encSM sm)
  each : ∀ s ∈ sm, SMok g B w s
  many : sm.length ≤ 16384
/-- Tables, or none. -/
def TabP (g : Gr) (B : Nat) (tv : Value) (sm : List SM) (w : World) : Prop := (tv = .pointer none ∧ sm = []) ∨ ∃ tb, tv = .pointer (some ⟨tb, 0, none⟩) ∧ TabW g B tb sm w
theorem SMok.below {g : Gr} {B : Nat} {w w' : World} {s : SM} (h : SMok g B w s) (hb : Below w.heap.size w w') : SMok g B w' s :=
  ⟨h.items.tyBelow hb, h.edges.tyBelow hb, h.done.tyBelow hb, h.ok, h.len⟩
theorem TabW.below {g : Gr} {B tb : Nat} {sm : List SM} {w w' : World} (h : TabW g B tb sm w) (hb : Below w.heap.size w w') : TabW g B tb sm w' := by
  obtain ⟨va, h1, h2⟩ := h.blk
  exact ⟨⟨va, h1.below hb h1.lt, row_below h2 hb⟩, fun s hs => (h.each s hs).below hb, h.many⟩
theorem TabP.below {g : Gr} {B : Nat} {tv : Value} {sm : List SM} {w w' : World} (h : TabP g B tv sm w) (hb : Below w.heap.size w w') : TabP g B tv sm w' := by
  rcases h with ⟨h1, h2⟩ | ⟨tb, h1, h2⟩
  · exact .inl ⟨h1, h2⟩
  · exact .inr ⟨tb, h1, h2.below hb⟩
theorem TabP.many {g : Gr} {B : Nat} {tv : Value} {sm : List SM} {w : World} (h : TabP g B tv sm w) : sm.length ≤ 16384 := by
  rcases h with ⟨_, rfl⟩ | ⟨tb, _, h⟩
  · decide
  · exact h.many
/-- State n; nothing, where there is none. -/
def noSM : SM := freshSM (.slice none 0 0) []
def stAt (sm : List SM) (n : Int) : SM := if 0 ≤ n then (sm[n.toNat]?).getD noSM else noSM
theorem stAt_in {sm : List SM} {n : Nat} {s : SM} (h : sm[n]? = some s) : stAt sm (n : Int) = s := by
  unfold stAt
  rw [if_pos (by omega), Int.toNat_natCast, h]; rfl
theorem stAt_out {sm : List SM} {n : Int} (h : n < 0 ∨ (sm.length : Int) ≤ n) : stAt sm n = noSM := by
  unfold stAt
  split
  · rw [List.getElem?_eq_none (by omega)]; rfl
  · rfl
theorem smok_none (g : Gr) (B : Nat) (w : World) : SMok g B w noSM := ⟨SliceK.nil, SliceK.nil, SliceK.nil, (fun x hx => by cases hx), by decide⟩
theorem TabP.at_ {g : Gr} {B : Nat} {tv : Value} {sm : List SM} {w : World} (h : TabP g B tv sm w) (n : Int) : SMok g B w (stAt sm n) := by
  rcases h with ⟨_, rfl⟩ | ⟨tb, _, h⟩
  · unfold stAt
    split <;> exact smok_none g B w
  · by_cases hn : 0 ≤ n ∧ n.toNat < sm.length
    · have : sm[n.toNat]? = some sm[n.toNat] := List.getElem?_eq_getElem hn.2
      unfold stAt
      rw [if_pos hn.1, this]
      exact h.each _ (List.getElem_mem hn.2)
    · rw [stAt_out (by omega)]; exact smok_none g B w
def smV (s : SM) : Value := .agg #[s.vi, s.ve, .int .u64 (wd s.next 0), .int .u64 (wd s.next 1), .int .u64 (wd s.next 2), .int .u64 (wd s.next 3), s.vd]
theorem smV_none : smV noSM = .agg #[.slice none 0 0, .slice none 0 0, .int .u64 0, .int .u64 0, .int .u64 0, .int .u64 0, .slice none 0 0] := by simp [smV, noSM, freshSM, wd]
set_option maxRecDepth 100000 in
set_option maxHeartbeats 4000000 in
theorem at_any (g : Gr) (B : Nat) (tv : Value) (sm : List SM) (n : Int) (w : World) (h : TabP g B tv sm w) :
    Calls Tryz.prog 42 #[tv, .int .i64 n] w fun e w' => e = .returned (smV (stAt sm n)) ∧ Below w.heap.size w w' := by
  have hmany := h.many
  rcases h with ⟨rfl, rfl⟩ | ⟨tb, rfl, h⟩
  · rw [stAt_out (by simp; omega), smV_none]
    go_enter Tryz.func42, Tryz.ntmps42
    go_wp2_with fail
    exact bodyPost_ret (v := .agg #[.slice none 0 0, .slice none 0 0, .int .u64 0, .int .u64 0, .int .u64 0, .int .u64 0, .slice none 0 0]) (by simp [results, Tryz.results42, go_sem]) rfl ⟨rfl, (Below.refl _ _).alloc (Nat.le_refl _) _⟩
  · obtain ⟨va, h1, h2⟩ := h.blk
    obtain ⟨a, c, rfl⟩ := own_shape h2
    have c0 := h1.cell 0
    have htb := h1.lt
    simp at c0
    by_cases hn0 : n < 0
    · rw [stAt_out (.inl hn0), smV_none]
      have HX := Lib.hid (And.intro h1 (And.intro h2 h.each))
      clear h1 h2 h
      go_enter Tryz.func42, Tryz.ntmps42
      go_wp2_with fail
      exact bodyPost_ret (v := .agg #[.slice none 0 0, .slice none 0 0, .int .u64 0, .int .u64 0, .int .u64 0, .int .u64 0, .slice none 0 0]) (by simp [results, Tryz.results42, go_sem]) rfl ⟨rfl, (Below.refl _ _).alloc (Nat.le_refl _) _⟩
    · by_cases hn1 : (sm.length : Int) ≤ n
      · rw [stAt_out (.inr hn1), smV_none]
        have HX := Lib.hid (And.intro h1 (And.intro h2 h.each))
        clear h1 h2 h
        go_enter Tryz.func42, Tryz.ntmps42
        go_wp2_with fail
        exact bodyPost_ret (v := .agg #[.slice none 0 0, .slice none 0 0, .int .u64 0, .int .u64 0, .int .u64 0, .int .u64 0, .slice none 0 0]) (by simp [results, Tryz.results42, go_sem]) rfl ⟨rfl, (Below.refl _ _).alloc (Nat.le_refl _) _⟩
      · obtain ⟨k, rfl⟩ : ∃ k : Nat, n = (k : Int) := ⟨n.toNat, by omega⟩
        have hk : k < sm.length := by omega
        obtain ⟨s, hs⟩ : ∃ s, sm[k]? = some s := ⟨_, List.getElem?_eq_getElem hk⟩
        rw [stAt_in hs]
        obtain ⟨ag, rfl⟩ : ∃ ag, a = some ⟨ag, 0, none⟩ := by
          rcases h2.2 with ⟨e, e2⟩ | ⟨ag, cap, cur, e, _⟩
          · omega
          · injection e with e; exact ⟨ag, e⟩
        have hc : ∀ j u, (encSM s)[j]? = some u → w.cell? ⟨ag, k * 7 + j, none⟩ = some u := fun j u hu => by
          have := h2.cells (g := ag) rfl (k * 7 + j) u (flatK_get encSM_len sm k s j u hs hu)
          rw [addr_add, Nat.zero_add] at this
          exact this
        have f0 := hc 0 _ rfl
        have f1 := hc 1 _ rfl
        have f2 := hc 2 _ rfl
        have f3 := hc 3 _ rfl
        have f4 := hc 4 _ rfl
        have f5 := hc 5 _ rfl
        have f6 := hc 6 _ rfl
        simp only [Nat.add_zero] at f0
        have hag := (h2.lt ag rfl).2
        have hk1 : (k : Int) < (sm.length : Int) := by omega
        have hk0 : (0 : Int) ≤ (k : Int) := by omega
        have hok := h.each s (List.mem_of_getElem? hs)
        obtain ⟨ia, ic, e1, _⟩ := hok.items
        obtain ⟨ea, ec, e2, _⟩ := hok.edges
        obtain ⟨da, dc, e3, _⟩ := hok.done
        rw [e1] at f0
        rw [e2] at f1
        rw [e3] at f6
        unfold smV
        rw [e1, e2, e3]
        clear hok e1 e2 e3
        have HX := Lib.hid (And.intro h1 (And.intro h2 (And.intro h.each hs)))
        clear h1 h2 h hs hc
        go_enter Tryz.func42, Tryz.ntmps42
        go_wp2_with fail
        exact bodyPost_ret (v := .agg #[.slice ia s.items.length ic, .slice ea s.edges.length ec, .int .u64 (wd s.next 0), .int .u64 (wd s.next 1), .int .u64 (wd s.next 2), .int .u64 (wd s.next 3), .slice da s.done.length dc]) (by simp [results, Tryz.results42, go_sem]) rfl ⟨rfl, (Below.refl _ _).alloc (Nat.le_refl _) _⟩
end Go.Proofs.YtknpkndiflodbaaGreatDoor.Tb
set_option linter.unusedVariables false
set_option linter.unusedSimpArgs false
namespace Go.Proofs.YtknpkndiflodbaaGreatDoor.Tb
open Go Go.RowKit Go.Proofs Go.Maps Mx
theorem field0 (v0 v1 v2 v3 v4 v5 v6 : Value) (w : World) : (Instr.field 104 (.agg #[v0, v1, v2, v3, v4, v5, v6]) 0).run Tryz.prog w = .ok v0 w := by kernel_rfl
theorem field1 (v0 v1 v2 v3 v4 v5 v6 : Value) (w : World) : (Instr.field 104 (.agg #[v0, v1, v2, v3, v4, v5, v6]) 1).run Tryz.prog w = .ok v1 w := by kernel_rfl
theorem field2 (v0 v1 v2 v3 v4 v5 v6 : Value) (w : World) : (Instr.field 104 (.agg #[v0, v1, v2, v3, v4, v5, v6]) 2).run Tryz.prog w = .ok (.agg #[v2, v3, v4, v5]) w := by kernel_rfl
theorem field3 (v0 v1 v2 v3 v4 v5 v6 : Value) (w : World) : (Instr.field 104 (.agg #[v0, v1, v2, v3, v4, v5, v6]) 3).run Tryz.prog w = .ok v6 w := by kernel_rfl
theorem states_any (g : Gr) (B : Nat) (tv : Value) (sm : List SM) (w : World) (h : TabP g B tv sm w) :
    Calls Tryz.prog 12 #[tv] w fun e w' => e = .returned (.int .i64 (sm.length : Int)) ∧ w' = w := by
  rcases h with ⟨rfl, rfl⟩ | ⟨tb, rfl, h⟩
  · go_enter Tryz.func12, Tryz.ntmps12
    go_wp2_with fail
    go_ret
    exact ⟨rfl, rfl⟩
  · obtain ⟨va, h1, h2⟩ := h.blk
    obtain ⟨a, c, rfl⟩ := own_shape h2
    have c0 := h1.cell 0
    simp at c0
    clear h1 h2 h
    go_enter Tryz.func12, Tryz.ntmps12
    go_wp2_with fail
    go_ret
    exact ⟨rfl, rfl⟩
theorem start_any (tv : Value) (w : World) :
    Calls Tryz.prog 18 #[tv] w fun e w' => e = .returned (.int .i64 0) ∧ w' = w := by
  go_enter Tryz.func18, Tryz.ntmps18
  go_wp2_with fail
  go_ret
  exact ⟨rfl, rfl⟩
theorem smV_shape {g : Gr} {B : Nat} {w : World} {s : SM} (h : SMok g B w s) : ∃ ia ic ea ec da dc, s.vi = .slice ia s.items.length ic ∧ s.ve = .slice ea s.edges.length ec ∧ s.vd = .slice da s.done.length dc := by
  obtain ⟨ia, ic, e1, _⟩ := h.items
  obtain ⟨ea, ec, e2, _⟩ := h.edges
  obtain ⟨da, dc, e3, _⟩ := h.done
  exact ⟨ia, ic, ea, ec, da, dc, e1, e2, e3⟩
set_option maxRecDepth 100000 in
set_option maxHeartbeats 4000000 in
theorem leads_any (g : Gr) (B : Nat) (tv : Value) (sm : List SM) (n : Int) (w : World) (h : TabP g B tv sm w) :
    Calls Tryz.prog 31 #[tv, .int .i64 n] w fun e w' => e = .returned (.int .i64 ((stAt sm n).edges.length : Int)) ∧ Below w.heap.size w w' := by
  have hfl := field1
  have hat := at_any g B tv sm n w h
  obtain ⟨ia, ic, ea, ec, da, dc, e1, e2, e3⟩ := smV_shape (h.at_ n)
  unfold smV at hat
  rw [e1, e2, e3] at hat
  clear e1 e2 e3 h
  go_enter Tryz.func31, Tryz.ntmps31
  go_wp2_with fail
  refine hat.mono ?_
  rintro e w1 ⟨rfl, hb⟩
  have H := Lib.hid hb
  clear hb hat
  go_wp2_with fail
  go_ret
  exact ⟨rfl, H.out⟩
set_option maxRecDepth 100000 in
set_option maxHeartbeats 4000000 in
theorem next_any (g : Gr) (B : Nat) (tv : Value) (sm : List SM) (n : Int) (w : World) (h : TabP g B tv sm w) :
    Calls Tryz.prog 25 #[tv, .int .i64 n] w fun e w' => e = .returned (setV (stAt sm n).next) ∧ Below w.heap.size w w' := by
  have hat := fun W (hW : Below w.heap.size w W) => at_any g B tv sm n W (h.below hW)
  have hfl := field2
  obtain ⟨ia, ic, ea, ec, da, dc, e1, e2, e3⟩ := smV_shape (h.at_ n)
  unfold smV at hat
  rw [e1, e2, e3] at hat
  clear e1 e2 e3 h
  obtain ⟨M, hM⟩ : ∃ M, (stAt sm n).next = M := ⟨_, rfl⟩
  rw [hM] at hat ⊢
  clear hM
  have HA := Lib.hid hat
  clear hat
  go_enter Tryz.func25, Tryz.ntmps25
  go_wp2_with fail
  have hB0 : Blk (w.alloc (.cells #[.int .u64 0, .int .u64 0, .int .u64 0, .int .u64 0] 26)) w.heap.size 26 (setC 0) := Blk.new_ rfl _ _
  have hb0 : Below w.heap.size w (w.alloc (.cells #[.int .u64 0, .int .u64 0, .int .u64 0, .int .u64 0] 26)) := (Below.refl _ _).alloc (Nat.le_refl _) _
  generalize (w.alloc (.cells #[.int .u64 0, .int .u64 0, .int .u64 0, .int .u64 0] 26)) = W1 at hB0 hb0 ⊢
  refine (HA.out W1 hb0).mono ?_
  rintro e w2 ⟨rfl, hb⟩
  have h1 := hB0.below hb hB0.lt
  have A := Lib.hid (And.intro h1 (hb0.trans (hb.mono hb0.size)))
  obtain ⟨f0, f1, f2, f3, ff⟩ := h1.facts4
  clear hb h1 hB0 hb0
  go_wp2_with fail
  have hbk := (((A.out.1.set_ 0 (.int .u64 (wd M 0))).set_ 1 (.int .u64 (wd M 1))).set_ 2 (.int .u64 (wd M 2))).set_ 3 (.int .u64 (wd M 3))
  refine bodyPost_ret (results_cell_row (by rfl) _ _ w.heap.size 26 _ (0, 0) _ (by rfl) hbk Tryz.underlying26 (by rfl) (by kernel_rfl)) rfl ?_
  refine ⟨rfl, (((A.out.2.setCell ?_ _).setCell ?_ _).setCell ?_ _).setCell ?_ _⟩ <;> simp
/-- Where a state leads by what p tells. -/
def toF (p : Sy → Bool) (l : List (Sy × Nat)) : Int × Bool := match l.find? (fun e => p e.1) with | some e => ((e.2 : Int), true) | none => (0, false)
theorem toF_hit (p : Sy → Bool) (l : List (Sy × Nat)) (i : Nat) (e : Sy × Nat) (h : l[i]? = some e) (hp : p e.1 = true) (hn : ∀ x ∈ l.take i, p x.1 = false) : toF p l = ((e.2 : Int), true) := by
  unfold toF
  have hi := (List.getElem?_eq_some_iff.1 h).1
  have e1 : l = l.take i ++ e :: l.drop (i + 1) := by
    have : l[i] = e := (List.getElem?_eq_some_iff.1 h).2
    rw [← this]
    simp
  have e2 : List.find? (fun e => p e.1) (e :: l.drop (i + 1)) = some e := by rw [List.find?_cons]; simp [hp]
  rw [e1, List.find?_append, List.find?_eq_none.2 (fun x hx => by rw [hn x hx]; decide), e2]
  rfl
theorem toF_miss (p : Sy → Bool) (l : List (Sy × Nat)) (hn : ∀ x ∈ l, p x.1 = false) : toF p l = (0, false) := by
  unfold toF
  rw [List.find?_eq_none.2 (fun x hx => by rw [hn x hx]; decide)]
set_option maxRecDepth 100000 in
set_option maxHeartbeats 4000000 in
theorem to_any (g : Gr) (B : Nat) (tv : Value) (sm : List SM) (n : Int) (K : FuncId) (cap : Value) (p : Sy → Bool) (hen : ∀ (args : Array Value) (W : World), (callFunc K args).run Tryz.prog W = .ok (.enter K args) W) (w : World) (h : TabP g B tv sm w) (hlen : (stAt sm n).edges.length ≤ 1000000)
    (hby : ∀ s ∈ (stAt sm n).edges, ∀ W, Below w.heap.size w W → Calls Tryz.prog K #[symV s.1, cap] W fun e W' => e = .returned (.bool (p s.1)) ∧ Below W.heap.size W W') :
    Calls Tryz.prog 54 #[tv, .int .i64 n, .func (.func K) #[] #[cap]] w fun e w' => e = .returned (.tuple #[.int .i64 (toF p (stAt sm n).edges).1, .bool (toF p (stAt sm n).edges).2]) ∧ Below w.heap.size w w' := by
  have hfl := field1
  have hat := at_any g B tv sm n w h
  have hok := h.at_ n
  obtain ⟨ia, ic, ea, ec, da, dc, e1, e2, e3⟩ := smV_shape hok
  have hed := hok.edges
  unfold smV at hat
  rw [e1, e2, e3] at hat
  rw [e2] at hed
  clear e1 e2 e3 h hok
  obtain ⟨E, hE⟩ : ∃ E, (stAt sm n).edges = E := ⟨_, rfl⟩
  rw [hE] at hat hed hlen hby ⊢
  clear hE
  obtain ⟨ea', ec', e4, hc1, hc2, hk⟩ := hed
  injection e4 with e5 e6 e7
  subst e5
  subst e7
  have HB := Lib.hid (And.intro hby hk)
  clear hby hk e6
  go_enter Tryz.func54, Tryz.ntmps54
  go_wp2_with fail
  refine hat.mono ?_
  rintro e w1 ⟨rfl, hb1⟩
  have H1 := Lib.hid hb1
  clear hb1 hat
  go_wp2_with fail
  go_loopg [15] E.length (fun m v wr => ∃ i : Nat, i ≤ E.length ∧ m = E.length - i ∧ v = .int .i64 i ∧ (∀ x ∈ E.take i, p x.1 = false) ∧ Below w.heap.size w wr)
  case atStart => exact ⟨0, by omega, rfl, rfl, (fun x hx => by simp at hx), H1.out⟩
  case round =>
    obtain ⟨i, hi, hm, rfl, hno, hb⟩ := hrel
    by_cases hlt : i < E.length
    · obtain ⟨⟨sy, q⟩, hx⟩ : ∃ x, E[i]? = some x := ⟨_, List.getElem?_eq_getElem hlt⟩
      obtain ⟨kg, ko, rfl, hkD, hkr⟩ := HB.out.2 (by rintro rfl; simp at hlt)
      have up : ∀ {i : Nat} {u : Value}, w.cell? ⟨kg, i, none⟩ = some u → wr.cell? ⟨kg, i, none⟩ = some u := fun h => (World.cell?_of_block (hb.block kg hkr.lt)).trans h
      have c0 := up (hkr.cells i _ hx 0 _ rfl)
      have c1 := up (hkr.cells i _ hx 1 _ rfl)
      have c2 := up (hkr.cells i _ hx 2 _ rfl)
      have c3 := up (hkr.cells i _ hx 3 _ rfl)
      have c4 := up (hkr.cells i _ hx 4 _ rfl)
      have c5 := up (hkr.cells i _ hx 5 _ rfl)
      have c6 := up (hkr.cells i _ hx 6 _ rfl)
      simp only [Nat.add_zero] at c0
      have hi0 : (0 : Int) ≤ (i : Int) := by omega
      have hi1 : (i : Int) < (E.length : Int) := by omega
      have HR := Lib.hid (And.intro hm (And.intro hno (And.intro hb hx)))
      clear hm hno hb hx up hkr
      go_wp2_with fail
      have hP : Blk (wr.alloc (.cells #[.int .i64 sy.kind, .int .u64 (wd sy.set 0), .int .u64 (wd sy.set 1), .int .u64 (wd sy.set 2), .int .u64 (wd sy.set 3), .int .i64 sy.sort, .int .i64 (q : Int)] 125)) wr.heap.size 125 #[.int .i64 sy.kind, .int .u64 (wd sy.set 0), .int .u64 (wd sy.set 1), .int .u64 (wd sy.set 2), .int .u64 (wd sy.set 3), .int .i64 sy.sort, .int .i64 (q : Int)] := Blk.new _ _ _
      have hb3 : Below wr.heap.size wr (wr.alloc (.cells #[.int .i64 sy.kind, .int .u64 (wd sy.set 0), .int .u64 (wd sy.set 1), .int .u64 (wd sy.set 2), .int .u64 (wd sy.set 3), .int .i64 sy.sort, .int .i64 (q : Int)] 125)) := (Below.refl _ wr).alloc (Nat.le_refl _) _
      generalize (wr.alloc (.cells #[.int .i64 sy.kind, .int .u64 (wd sy.set 0), .int .u64 (wd sy.set 1), .int .u64 (wd sy.set 2), .int .u64 (wd sy.set 3), .int .i64 sy.sort, .int .i64 (q : Int)] 125)) = W3 at hP hb3 ⊢
      have hbb := HR.out.2.2.1.trans (hb3.mono HR.out.2.2.1.size)
      refine (HB.out.1 (sy, q) (List.mem_of_getElem? HR.out.2.2.2) W3 hbb).mono ?_
      rintro e w4 ⟨rfl, hb4⟩
      have hP4 := hP.below hb4 hP.lt
      have p6 := hP4.cell 6
      simp at p6
      have H4 := Lib.hid (hbb.trans (hb4.mono hbb.size))
      clear hP hb3 hbb hb4 hP4 c0 c1 c2 c3 c4 c5 c6
      cases hp : p sy with
      | true =>
        have HP := Lib.hid hp
        clear hp
        go_wp2_with fail
        go_ret2
        rw [toF_hit p E i (sy, q) HR.out.2.2.2 HP.out HR.out.2.1]
        exact ⟨rfl, H4.out⟩
      | false =>
        have HP := Lib.hid hp
        clear hp
        go_wp2_with fail
        go_roundg (E.length - (i + 1))
        case measure => have := HR.out.1; omega
        case rel =>
          refine ⟨i + 1, by omega, rfl, rfl, ?_, H4.out⟩
          intro x hx
          rw [List.take_add_one, HR.out.2.2.2] at hx
          rcases List.mem_append.1 hx with hx | hx
          · exact HR.out.2.1 x hx
          · simp at hx; subst hx; exact HP.out
    · obtain rfl : i = E.length := by omega
      rw [List.take_length] at hno
      have HR := Lib.hid (And.intro hno hb)
      clear hno hb hm
      go_wp2_with fail
      go_ret2
      rw [toF_miss p E HR.out.1]
      exact ⟨rfl, HR.out.2⟩
def isSort (s : Int) (x : Sy) : Bool := x.kind == 1 && x.sort == s
def hasByte (b : Nat) (x : Sy) : Bool := x.kind == 0 && x.set.testBit b
theorem goto_by (s : Int) (x : Sy) (b : Nat) (w : World) (h : w.cell? ⟨b, 0, none⟩ = some (.int .i64 s)) :
    Calls Tryz.prog 55 #[symV x, .pointer (some ⟨b, 0, none⟩)] w fun e w' => e = .returned (.bool (isSort s x)) ∧ Below w.heap.size w w' := by
  have hbl := World.block_lt_of_cell? _ _ h
  simp at hbl
  unfold symV isSort
  by_cases hk : x.kind = 1
  · have hk2 : (x.kind == 1) = true := by simpa using hk
    have HK := Lib.hid hk2
    rw [hk]
    clear hk hk2
    go_enter Tryz.func55, Tryz.ntmps55
    go_wp2_with fail
    go_ret
    exact ⟨by simp, (Below.refl _ _).alloc (Nat.le_refl _) _⟩
  · have hk2 : (x.kind == 1) = false := by simpa using hk
    clear hk
    go_enter Tryz.func55, Tryz.ntmps55
    go_wp2_with fail
    go_ret
    exact ⟨by simp [hk2], (Below.refl _ _).alloc (Nat.le_refl _) _⟩
theorem shift_by (c : Nat) (hc : c < 256) (x : Sy) (b : Nat) (w : World) (h : w.cell? ⟨b, 0, none⟩ = some (.int .u8 (c : Int))) :
    Calls Tryz.prog 57 #[symV x, .pointer (some ⟨b, 0, none⟩)] w fun e w' => e = .returned (.bool (hasByte c x)) ∧ Below w.heap.size w w' := by
  have hbl := World.block_lt_of_cell? _ _ h
  simp at hbl
  have hhas := fun W => has_any x.set c hc W
  unfold setV at hhas
  unfold symV hasByte
  by_cases hk : x.kind = 0
  · have hk2 : (x.kind == 0) = true := by simpa using hk
    have HK := Lib.hid hk2
    rw [hk]
    clear hk hk2
    go_enter Tryz.func57, Tryz.ntmps57
    go_wp2_with fail
    refine (hhas _).mono ?_
    rintro e w2 ⟨rfl, hb2⟩
    have H2 := Lib.hid (((Below.refl w.heap.size w).alloc (Nat.le_refl _) (.cells #[.int .i64 0, .int .u64 (wd x.set 0), .int .u64 (wd x.set 1), .int .u64 (wd x.set 2), .int .u64 (wd x.set 3), .int .i64 x.sort] 28)).trans (hb2.mono (by simp)))
    clear hb2
    go_wp2_with fail
    go_ret
    exact ⟨by simp, H2.out⟩
  · have hk2 : (x.kind == 0) = false := by simpa using hk
    clear hk
    go_enter Tryz.func57, Tryz.ntmps57
    go_wp2_with fail
    go_ret
    exact ⟨by simp [hk2], (Below.refl _ _).alloc (Nat.le_refl _) _⟩
set_option maxRecDepth 100000 in
set_option maxHeartbeats 4000000 in
theorem goto_any (g : Gr) (B : Nat) (tv : Value) (sm : List SM) (n s : Int) (w : World) (h : TabP g B tv sm w) (hlen : (stAt sm n).edges.length ≤ 1000000) :
    Calls Tryz.prog 21 #[tv, .int .i64 n, .int .i64 s] w fun e w' => e = .returned (.tuple #[.int .i64 (toF (isSort s) (stAt sm n).edges).1, .bool (toF (isSort s) (stAt sm n).edges).2]) ∧ Below w.heap.size w w' := by
  have hmf : ∀ (fn : Fn) (first cap : Array Value) (w : World), (Instr.makeFunc fn first cap).run Tryz.prog w = .ok (.func fn first cap) w := fun _ _ _ _ => rfl
  have hb0 : Below w.heap.size w (w.alloc (.cells #[.int .i64 s] 3)) := (Below.refl _ _).alloc (Nat.le_refl _) _
  have hB0 : Blk (w.alloc (.cells #[.int .i64 s] 3)) w.heap.size 3 #[.int .i64 s] := Blk.new _ _ _
  have hto := to_any g B tv sm n 55 (.pointer (some ⟨w.heap.size, 0, none⟩)) (isSort s) (fun _ _ => by kernel_rfl) _ (h.below hb0) hlen (fun x _ W hW => goto_by s x.1 w.heap.size W ((hB0.below hW hB0.lt).cell 0))
  have H0 := Lib.hid hb0
  clear hb0 hB0 h
  go_enter Tryz.func21, Tryz.ntmps21
  go_wp2_with fail
  refine hto.mono ?_
  rintro e w2 ⟨rfl, hb2⟩
  have H2 := Lib.hid (H0.out.trans (hb2.mono H0.out.size))
  clear hb2 hto
  go_wp2_with fail
  go_ret2
  exact ⟨rfl, H2.out⟩
set_option maxRecDepth 100000 in
set_option maxHeartbeats 4000000 in
theorem shift_any (g : Gr) (B : Nat) (tv : Value) (sm : List SM) (n : Int) (c : Nat) (hc : c < 256) (w : World) (h : TabP g B tv sm w) (hlen : (stAt sm n).edges.length ≤ 1000000) :
    Calls Tryz.prog 24 #[tv, .int .i64 n, .int .u8 (c : Int)] w fun e w' => e = .returned (.tuple #[.int .i64 (toF (hasByte c) (stAt sm n).edges).1, .bool (toF (hasByte c) (stAt sm n).edges).2]) ∧ Below w.heap.size w w' := by
  have hmf : ∀ (fn : Fn) (first cap : Array Value) (w : World), (Instr.makeFunc fn first cap).run Tryz.prog w = .ok (.func fn first cap) w := fun _ _ _ _ => rfl
  have hb0 : Below w.heap.size w (w.alloc (.cells #[.int .u8 (c : Int)] 5)) := (Below.refl _ _).alloc (Nat.le_refl _) _
  have hB0 : Blk (w.alloc (.cells #[.int .u8 (c : Int)] 5)) w.heap.size 5 #[.int .u8 (c : Int)] := Blk.new _ _ _
  have hto := to_any g B tv sm n 57 (.pointer (some ⟨w.heap.size, 0, none⟩)) (hasByte c) (fun _ _ => by kernel_rfl) _ (h.below hb0) hlen (fun x _ W hW => shift_by c hc x.1 w.heap.size W ((hB0.below hW hB0.lt).cell 0))
  have H0 := Lib.hid hb0
  clear hb0 hB0 h
  go_enter Tryz.func24, Tryz.ntmps24
  go_wp2_with fail
  refine hto.mono ?_
  rintro e w2 ⟨rfl, hb2⟩
  have H2 := Lib.hid (H0.out.trans (hb2.mono H0.out.size))
  clear hb2 hto
  go_wp2_with fail
  go_ret2
  exact ⟨rfl, H2.out⟩
end Go.Proofs.YtknpkndiflodbaaGreatDoor.Tb
set_option linter.unusedVariables false
set_option linter.unusedSimpArgs false
namespace Go.Proofs.YtknpkndiflodbaaGreatDoor.Tb
open Go Go.RowKit Go.Proofs Mx
theorem own_lower {w : World} {B B' : Nat} {e : TypeId} {z n : Nat} {v : Value} {xs : List Value} (h : w.ownsRow B e z v n xs) (hB : B' ≤ B) : w.ownsRow B' e z v n xs := by
  refine ⟨h.1, ?_⟩
  rcases h.2 with h2 | ⟨g, cap, cur, e1, hg, h3⟩
  · exact .inl h2
  · exact .inr ⟨g, cap, cur, e1, Nat.le_trans hB hg, h3⟩
theorem flat_oneN : ∀ (l : List Nat), ∀ u ∈ flatK encN l, u.oneCell' = true
  | [], u, hu => by simp [flatK] at hu
  | x :: l, u, hu => by
    rw [flatK_cons] at hu
    rcases List.mem_append.1 hu with h | h
    · simp [encN] at h; subst h; rfl
    · exact flat_oneN l u h
theorem clone_int (D : Nat → Prop) (l : List Nat) (v : Value) (w : World) (h : SliceK D encN 1 w v l) (hn : l.length ≤ 1000000000000) :
    Calls Tryz.prog 56 #[v] w fun e w' => ∃ v', e = .returned v' ∧ w'.ownsRow w.heap.size 3 1 v' l.length (flatK encN l) ∧ Below w.heap.size w w' := by
  obtain ⟨a, cap, rfl, hc1, hc2, hK⟩ := h
  obtain ⟨i0, hi, hz0, hz1, hz2⟩ := info_parts infoInt
  have q50 : ∀ (w : World) (a : Option Addr) (n c n' c' : Nat), (binOp .eql 68 (.slice a n c) (.slice none n' c')).run Tryz.prog w = .ok (.bool a.isNone) w := fun w a n c n' c' => Lib.run_eql_slice_nil w _ _ a n c n' c' Tryz.underlying68
  cases a with
  | none =>
    have hl : l = [] := by
      apply Classical.byContradiction
      intro hl
      obtain ⟨g, o, e, _⟩ := hK hl
      cases e
    subst hl
    clear hK
    go_enter Tryz.func56, Tryz.ntmps56
    go_wp2
    go_ret
    exact ⟨_, rfl, World.ownsRow_nil _ _ _ _, Below.refl _ _⟩
  | some ad =>
    have hcell : ∀ j u, (flatK encN l)[j]? = some u → w.cell? (ad.add j) = some u := by
      intro j u hu
      have hl : l ≠ [] := by rintro rfl; simp [flatK] at hu
      obtain ⟨g, o, e, _, hr⟩ := hK hl
      have e := Option.some.inj e
      subst e
      obtain ⟨x, hx, hxu⟩ := flatK_cell encN_len (by decide) l j u hu
      have := hr.cells _ x hx _ u hxu
      rw [show o + j / 1 * 1 + j % 1 = o + j by omega] at this
      rw [addr_add]
      exact this
    have A := Lib.hid hcell
    clear hK hcell
    go_enter Tryz.func56, Tryz.ntmps56
    go_wp2_with (at_builtin; refine wpList_append_own _ rfl _ _ 68 rfl w.heap.size 3 i0 (.int .i64 0) 1 8 Tryz.underlying68 hi hz0 hz1 hz2 rfl (by decide) _ _ _ rfl (World.ownsRow_made w #[] 0 (Nat.le_refl _) (Nat.zero_le _) (by simp)) ad l.length cap (flatK encN l) rfl ?c0 ?c1 ?c2 ?c3 ?c4 ?c5 ?_)
    case c0 => exact flatK_len encN_len l
    case c1 =>
      intro j u hj
      exact cell_alloc_ (A.out j u hj) _
    case c2 => exact flat_oneN l
    case c3 => have := hc1; have := hc2; omega
    case c4 => omega
    case c5 => simp
    intro v' w1 hown hg _
    have H := Lib.hid (And.intro hown hg)
    clear hown hg
    go_wp2_with fail
    go_ret
    have h1 := H.out.1
    first | rw [Nat.zero_add, List.nil_append] at h1 | skip
    refine ⟨_, rfl, h1, ?_⟩
    exact ((Below.refl _ w).alloc (Nat.le_refl _) _).grown H.out.2 (by simp) (fun b hb => by simp [Value.ownBlock] at hb; omega)
set_option maxRecDepth 100000 in
set_option maxHeartbeats 4000000 in
theorem reduces_any (g : Gr) (B : Nat) (tv : Value) (sm : List SM) (n : Int) (w : World) (h : TabP g B tv sm w) (hlen : (stAt sm n).done.length ≤ 1000000) :
    Calls Tryz.prog 22 #[tv, .int .i64 n] w fun e w' => ∃ v', e = .returned v' ∧ w'.ownsRow w.heap.size 3 1 v' (stAt sm n).done.length (flatK encN (stAt sm n).done) ∧ Below w.heap.size w w' := by
  have hfl := field3
  have hat := at_any g B tv sm n w h
  have hok := h.at_ n
  obtain ⟨ia, ic, ea, ec, da, dc, e1, e2, e3⟩ := smV_shape hok
  have hed := hok.done
  unfold smV at hat
  rw [e1, e2, e3] at hat
  rw [e3] at hed
  clear e1 e2 e3 h hok
  obtain ⟨E, hE⟩ : ∃ E, (stAt sm n).done = E := ⟨_, rfl⟩
  rw [hE] at hat hed hlen ⊢
  clear hE
  have HE := Lib.hid hed
  clear hed
  go_enter Tryz.func22, Tryz.ntmps22
  go_wp2_with fail
  refine hat.mono ?_
  rintro e w1 ⟨rfl, hb1⟩
  have H1 := Lib.hid hb1
  clear hb1 hat
  go_wp2_with fail
  refine (clone_int _ E _ w1 (HE.out.tyBelow H1.out) (by omega)).mono ?_
  rintro e w2 ⟨v', rfl, hown, hb2⟩
  have H2 := Lib.hid (And.intro (own_lower hown H1.out.size) (H1.out.trans (hb2.mono H1.out.size)))
  clear hown hb2
  go_wp2_with fail
  go_ret
  exact ⟨_, rfl, H2.out.1, H2.out.2⟩
set_option maxRecDepth 100000 in
set_option maxHeartbeats 4000000 in
theorem items_any (g : Gr) (B : Nat) (tv : Value) (sm : List SM) (n : Int) (w : World) (h : TabP g B tv sm w) :
    Calls Tryz.prog 15 #[tv, .int .i64 n] w fun e w' => ∃ v', e = .returned v' ∧ w'.ownsRow w.heap.size 53 2 v' (stAt sm n).items.length (flatK encIt (stAt sm n).items) ∧ Below w.heap.size w w' := by
  have hfl := field0
  have hat := at_any g B tv sm n w h
  have hok := h.at_ n
  have hlen := hok.len
  obtain ⟨ia, ic, ea, ec, da, dc, e1, e2, e3⟩ := smV_shape hok
  have hed := hok.items
  unfold smV at hat
  rw [e1, e2, e3] at hat
  rw [e1] at hed
  clear e1 e2 e3 h hok
  obtain ⟨E, hE⟩ : ∃ E, (stAt sm n).items = E := ⟨_, rfl⟩
  rw [hE] at hat hed hlen ⊢
  clear hE
  have HE := Lib.hid hed
  clear hed
  go_enter Tryz.func15, Tryz.ntmps15
  go_wp2_with fail
  refine hat.mono ?_
  rintro e w1 ⟨rfl, hb1⟩
  have H1 := Lib.hid hb1
  clear hb1 hat
  go_wp2_with fail
  refine (clone_any _ E _ w1 (HE.out.tyBelow H1.out) (by omega)).mono ?_
  rintro e w2 ⟨v', rfl, hown, hb2⟩
  have H2 := Lib.hid (And.intro (own_lower hown H1.out.size) (H1.out.trans (hb2.mono H1.out.size)))
  clear hown hb2
  go_wp2_with fail
  go_ret
  exact ⟨_, rfl, H2.out.1, H2.out.2⟩
set_option maxRecDepth 100000 in
set_option maxHeartbeats 4000000 in
theorem tall_any (g : Gr) (B : Nat) (tv : Value) (sm : List SM) (n : Int) (w : World) (h : TabP g B tv sm w) :
    Calls Tryz.prog 32 #[tv, .int .i64 n] w fun e w' => ∃ b, e = .returned (.func (.func 61) #[] #[.pointer (some ⟨b, 0, none⟩)]) ∧ Blk w' b 102 #[(stAt sm n).ve] ∧ w.heap.size ≤ b ∧ Below w.heap.size w w' := by
  have hmf : ∀ (fn : Fn) (first cap : Array Value) (w : World), (Instr.makeFunc fn first cap).run Tryz.prog w = .ok (.func fn first cap) w := fun _ _ _ _ => rfl
  have hfl := field1
  have hat := at_any g B tv sm n w h
  have hok := h.at_ n
  obtain ⟨ia, ic, ea, ec, da, dc, e1, e2, e3⟩ := smV_shape hok
  unfold smV at hat
  rw [e1, e2, e3] at hat
  rw [e2]
  clear e1 e2 e3 h hok
  go_enter Tryz.func32, Tryz.ntmps32
  go_wp2_with fail
  refine hat.mono ?_
  rintro e w1 ⟨rfl, hb1⟩
  have H1 := Lib.hid hb1
  clear hb1 hat
  go_wp2_with fail
  go_ret
  exact ⟨_, rfl, Blk.new _ _ _, H1.out.size, H1.out.alloc H1.out.size _⟩
end Go.Proofs.YtknpkndiflodbaaGreatDoor.Tb
