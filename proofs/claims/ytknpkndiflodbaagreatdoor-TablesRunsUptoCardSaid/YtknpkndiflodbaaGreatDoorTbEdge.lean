/-
  WALK of the law TablesItems: leads, where all that a state leads on by is as it should be.
-/
import Derived.Test.YtknpkndiflodbaaGreatDoorTbAllI
import Derived.Test.YtknpkndiflodbaaGreatDoorTbLead
set_option linter.unusedVariables false
set_option linter.unusedSimpArgs false
namespace Go.Proofs.YtknpkndiflodbaaGreatDoor.Tb
open Go Go.RowKit Go.Proofs Go.Maps Mx
/-- Which states are marked. -/
def ledC (L : Nat) (led : Nat → Bool) : Array Value := ((List.range L).map fun j => Value.bool (led j)).toArray
def ledK (led : Nat → Bool) (es : List (Sy × Nat)) (j : Nat) : Bool := led j || es.any (fun e => e.2 == j)
/-- All but two blocks of what was stands. -/
structure FarW (w : World) (lb cb : Nat) (W : World) : Prop where
  os : W.os = w.os
  tape : W.tape = w.tape
  output : W.output = w.output
  size : w.heap.size ≤ W.heap.size
  block : ∀ q < w.heap.size, q ≠ lb → q ≠ cb → W.heap[q]? = w.heap[q]?
structure EdI (w1 : World) (L : Nat) (led : Nat → Bool) (lb cb : Nat) (es : List (Sy × Nat)) (k : Nat) (W : World) : Prop where
  far : FarW w1 lb cb W
  led : Blk W lb 4 (ledC L (ledK led (es.take k)))
  cnt : Blk W cb 3 #[.int .i64 k]
theorem FarW.grown {w W W' : World} {lb cb : Nat} {row : Option Nat} (h : FarW w lb cb W) (hg : W.grownBy W' row) (hr : ∀ r, row = some r → w.heap.size ≤ r) : FarW w lb cb W' :=
  ⟨hg.os.trans h.os, hg.tape.trans h.tape, hg.output.trans h.output, Nat.le_trans h.size hg.size, fun q hq h1 h2 => (hg.block q (Nat.lt_of_lt_of_le hq h.size) (fun e => by have := hr q e.symm; omega)).trans (h.block q hq h1 h2)⟩
theorem ed_own (w1 : World) (L : Nat) (led : Nat → Bool) (lb cb : Nat) (es : List (Sy × Nat)) : OwnFrom w1.heap.size (fun k W => EdI w1 L led lb cb es k W) := by
  rintro k W W' row h hg hr
  have hcells : ∀ {g : Nat} {t : TypeId} {cs : Array Value}, Blk W g t cs → some g ≠ row := fun {g t cs} hB e => by
    obtain ⟨_, o, ho, hc⟩ := hr g e.symm
    unfold Blk at hB
    rw [hB] at ho
    injection ho with ho
    subst ho
    cases hc
  exact ⟨h.far.grown hg (fun r e => (hr r e).1), h.led.grown hg (hcells h.led), h.cnt.grown hg (hcells h.cnt)⟩
def RoundE (w1 : World) (L : Nat) (led : Nat → Bool) (lb cb : Nat) (es : List (Sy × Nat)) (tm : Array Value) (k : Nat) (a' : Act) (W : World) : Prop :=
  ∃ x : Nat, a' = { tmps := ((((tm.setIfInBounds 23 (.agg #[.int .i64 (eK es k).1.kind, .int .u64 (wd (eK es k).1.set 0), .int .u64 (wd (eK es k).1.set 1), .int .u64 (wd (eK es k).1.set 2), .int .u64 (wd (eK es k).1.set 3), .int .i64 (eK es k).1.sort])).setIfInBounds 24 (.int .i64 ((eK es k).2 : Int))).setIfInBounds 12 (.pointer (some ⟨x, 0, none⟩))).setIfInBounds 13 (.int .i64 ((eK es k).2 : Int))), defers := [] } ∧
    Blk W x 28 #[.int .i64 (eK es k).1.kind, .int .u64 (wd (eK es k).1.set 0), .int .u64 (wd (eK es k).1.set 1), .int .u64 (wd (eK es k).1.set 2), .int .u64 (wd (eK es k).1.set 3), .int .i64 (eK es k).1.sort] ∧ w1.heap.size ≤ x ∧ EdI w1 L led lb cb es k W
theorem roundE_own (w1 : World) (L : Nat) (led : Nat → Bool) (lb cb : Nat) (es : List (Sy × Nat)) (tm : Array Value) (a' : Act) : OwnFrom w1.heap.size (fun k W => RoundE w1 L led lb cb es tm k a' W) := by
  rintro k W W' row ⟨x, e, h8, hc, h⟩ hg hr
  have hcells : ∀ {g : Nat} {t : TypeId} {cs : Array Value}, Blk W g t cs → some g ≠ row := fun {g t cs} hB e => by
    obtain ⟨_, o, ho, hc⟩ := hr g e.symm
    unfold Blk at hB
    rw [hB] at ho
    injection ho with ho
    subst ho
    cases hc
  exact ⟨x, e, h8.grown hg (hcells h8), hc, ed_own w1 L led lb cb es k W W' row h hg hr⟩
theorem edge_eql (b : Nat) (w : World) : (binOp .eql 84 (.func (.func 61) #[] #[.pointer (some ⟨b, 0, none⟩)]) .nilFunc).run Tryz.prog w = .ok (.bool false) w := by kernel_rfl
theorem TyD.ne_blk {B lb : Nat} {t t' : TypeId} {w : World} {cs : Array Value} (hb : Blk w lb t' cs) (ht : t ≠ t') {q : Nat} (h : TyD B t w q) : q ≠ lb := by
  rintro rfl
  obtain ⟨_, c, fz, e⟩ := h
  unfold Blk at hb
  rw [hb] at e
  injection e with e
  injection e with _ e
  exact ht e.symm
theorem ledC_len (L : Nat) (f : Nat → Bool) : (ledC L f).size = L := by simp [ledC]
theorem ledC_get (L : Nat) (f : Nat → Bool) (j : Nat) (hj : j < L) : (ledC L f)[j]? = some (.bool (f j)) := by simp [ledC, hj]
theorem ledC_set (L : Nat) (f : Nat → Bool) (t : Nat) : (ledC L f).setIfInBounds t (.bool true) = ledC L (fun j => f j || t == j) := by
  apply Array.ext
  · simp [ledC]
  · intro i h1 h2
    rw [Array.getElem_setIfInBounds (by simpa using h1)]
    by_cases e : t = i
    · rw [if_pos e]; simp [ledC, e]
    · rw [if_neg e]; simp [ledC, e]
theorem ledK_step (led : Nat → Bool) (es : List (Sy × Nat)) (k : Nat) (e : Sy × Nat) (h : es[k]? = some e) : ledK led (es.take (k + 1)) = fun j => ledK led (es.take k) j || e.2 == j := by
  funext j
  unfold ledK
  rw [List.take_add_one, h]
  simp [Bool.or_assoc]
theorem SMok.grown {g : Gr} {B lb : Nat} {w W : World} {s : SM} {cs : Array Value} (h : SMok g B w s) (hb : Blk w lb 4 cs) (hg : w.grownBy W (some lb)) : SMok g B W s := by
  have k : ∀ {t : TypeId} {q : Nat}, t ≠ 4 → TyD B t w q → q < w.heap.size → W.heap[q]? = w.heap[q]? := fun ht hq hl => hg.block _ hl (fun e => TyD.ne_blk hb ht hq (Option.some.inj e))
  exact ⟨h.items.keep fun q hq hl => ⟨hq.same (k (by decide) hq hl), k (by decide) hq hl⟩, h.edges.keep fun q hq hl => ⟨hq.same (k (by decide) hq hl), k (by decide) hq hl⟩, h.done.keep fun q hq hl => ⟨hq.same (k (by decide) hq hl), k (by decide) hq hl⟩, h.ok, h.len⟩
theorem TabP.grown {g : Gr} {B lb : Nat} {tv : Value} {sm : List SM} {w W : World} {cs : Array Value} (h : TabP g B tv sm w) (hb : Blk w lb 4 cs) (hg : w.grownBy W (some lb)) : TabP g B tv sm W := by
  rcases h with ⟨h1, h2⟩ | ⟨tb, h1, h2⟩
  · exact .inl ⟨h1, h2⟩
  · obtain ⟨va, b1, b2⟩ := h2.blk
    refine .inr ⟨tb, h1, ⟨⟨va, b1.grown hg (fun e => ?_), b2.kept hg ?_⟩, fun s hs => (h2.each s hs).grown hb hg, h2.many⟩⟩
    · injection e with e
      subst e
      unfold Blk at hb b1
      rw [hb] at b1
      injection b1 with b1
      injection b1 with _ b1
      exact absurd b1 (by decide)
    · cases hv : va.ownBlock with
      | none => exact .inl rfl
      | some x =>
        refine .inr (fun e2 => ?_)
        obtain ⟨_, c', fz, e3⟩ := own_ty b2 x hv
        injection e2 with e2
        subst e2
        unfold Blk at hb
        rw [hb] at e3
        injection e3 with e3
        injection e3 with _ e3
        exact absurd e3 (by decide)
attribute [local go_sem] Oper.semAt_some
set_option maxRecDepth 100000 in
set_option maxHeartbeats 16000000 in
theorem leads_ok (D : Nat → Prop) (g : Gr) (hN : g.prods.length ≤ 2000000) (hR : ∀ p ∈ g.prods, p.right.length ≤ 2000000) (B : Nat) (tv : Value) (sm : List SM) (n : Nat) (L : Nat) (led : Nat → Bool) (hL : L ≤ 2000000)
    (hl : ∀ e ∈ (stAt sm n).edges, e.2 < L ∧ metF g e.1 (stAt sm n).items = true) (w : World) (sv pv fv lv : Value) (hP : ProdsAt D w pv g.prods) (hT : TabP g B tv sm w) (lb lc : Nat) (hD : ∀ q, D q → q ≠ lb) (hlb : Blk w lb 4 (ledC L led)) :
    Calls Tryz.prog 16 #[tv, .agg #[sv, pv, .int .i64 g.start, fv, lv], .int .i64 n, .slice (some ⟨lb, 0, none⟩) L lc] w fun e w' => e = .returned (.bool true) ∧ FarW w lb lb w' ∧ Blk w' lb 4 (ledC L (ledK led (stAt sm n).edges)) := by
  have hit := fun W h => items_any g B tv sm n W h
  have hal := fun W h => tall_any g B tv sm n W h
  have H := Lib.hid (And.intro hP (And.intro hT (And.intro hlb (And.intro hl (And.intro hD hR)))))
  clear hP hT hlb hl hD hR
  refine calls_of_wp_post Tryz.func16 rfl ?_
  simp only [Tryz.ntmps16, List.size_toArray, List.length_cons, List.length_nil, Nat.reduceAdd, Nat.reduceSub, Array.replicate_succ, Array.replicate_zero, List.push_toArray, List.append_toArray, List.nil_append, List.cons_append]
  go_wp2_with fail
  have g5 : Blk (((w.alloc (.cells #[sv, pv, .int .i64 g.start, fv, lv] 39)).alloc (.cells #[.slice (some ⟨lb, 0, none⟩) L lc] 49)).alloc (.cells #[.bool false] 4)) w.heap.size 39 #[sv, pv, .int .i64 g.start, fv, lv] := ((Blk.new _ _ _).alloc _).alloc _
  have g7 : Blk (((w.alloc (.cells #[sv, pv, .int .i64 g.start, fv, lv] 39)).alloc (.cells #[.slice (some ⟨lb, 0, none⟩) L lc] 49)).alloc (.cells #[.bool false] 4)) (w.heap.size + 1) 49 #[.slice (some ⟨lb, 0, none⟩) L lc] := (Blk.new_ (by simp) _ _).alloc _
  have g8 : Blk (((w.alloc (.cells #[sv, pv, .int .i64 g.start, fv, lv] 39)).alloc (.cells #[.slice (some ⟨lb, 0, none⟩) L lc] 49)).alloc (.cells #[.bool false] 4)) (w.heap.size + 1 + 1) 4 #[.bool false] := Blk.new_ (by simp) _ _
  have hb3 : Below w.heap.size w (((w.alloc (.cells #[sv, pv, .int .i64 g.start, fv, lv] 39)).alloc (.cells #[.slice (some ⟨lb, 0, none⟩) L lc] 49)).alloc (.cells #[.bool false] 4)) := (((Below.refl _ w).alloc (Nat.le_refl _) _).alloc (by simp) _).alloc (by simp; omega) _
  have hz3 : w.heap.size + 3 ≤ (((w.alloc (.cells #[sv, pv, .int .i64 g.start, fv, lv] 39)).alloc (.cells #[.slice (some ⟨lb, 0, none⟩) L lc] 49)).alloc (.cells #[.bool false] 4)).heap.size := by simp
  generalize ((w.alloc (.cells #[sv, pv, .int .i64 g.start, fv, lv] 39)).alloc (.cells #[.slice (some ⟨lb, 0, none⟩) L lc] 49)).alloc (.cells #[.bool false] 4) = w3 at g5 g7 g8 hb3 hz3 ⊢
  refine (hit w3 (H.out.2.1.below hb3)).mono ?_
  rintro e w4 ⟨v', rfl, hv', hb4⟩
  obtain ⟨ia, ic, rfl⟩ := own_shape hv'
  have A4 := Lib.hid (And.intro g5 (And.intro g7 (And.intro g8 (And.intro hb3 (And.intro hz3 (And.intro hv' hb4))))))
  clear g5 g7 g8 hb3 hz3 hv' hb4 hit
  go_wp2_with fail
  have g9 : Blk (w4.alloc (.cells #[.slice ia (stAt sm n).items.length ic] 50)) w4.heap.size 50 #[.slice ia (stAt sm n).items.length ic] := Blk.new _ _ _
  have hb5 : Below w4.heap.size w4 (w4.alloc (.cells #[.slice ia (stAt sm n).items.length ic] 50)) := (Below.refl _ w4).alloc (Nat.le_refl _) _
  generalize hw5 : w4.alloc (.cells #[.slice ia (stAt sm n).items.length ic] 50) = w5 at g9 hb5 ⊢
  have hs5 : w4.heap.size < w5.heap.size := g9.lt
  have hb35 : Below w3.heap.size w3 w5 := A4.out.2.2.2.2.2.2.trans (hb5.mono A4.out.2.2.2.2.2.2.size)
  have hb05 : Below w.heap.size w w5 := A4.out.2.2.2.1.trans (hb35.mono A4.out.2.2.2.1.size)
  refine (hal w5 (H.out.2.1.below hb05)).mono ?_
  rintro e w6 ⟨eb, rfl, heb, heb0, hb6⟩
  have A5 := Lib.hid (And.intro g9 (And.intro hb5 (And.intro hb35 (And.intro hb05 (And.intro heb (And.intro heb0 (And.intro hb6 hs5)))))))
  clear g9 hb5 hb35 hb05 heb hb6 hal hw5 hs5 heb0
  have heq := edge_eql eb
  go_wp2_with fail
  have g11 : Blk (w6.alloc (.cells #[.int .i64 0] 3)) w6.heap.size 3 #[.int .i64 0] := Blk.new _ _ _
  have hb7 : Below w6.heap.size w6 (w6.alloc (.cells #[.int .i64 0] 3)) := (Below.refl _ w6).alloc (Nat.le_refl _) _
  generalize hw7 : w6.alloc (.cells #[.int .i64 0] 3) = w7 at g11 hb7 ⊢
  have hb57 := A5.out.2.2.2.2.2.2.1.trans (hb7.mono A5.out.2.2.2.2.2.2.1.size)
  have hb37 := A5.out.2.2.1.trans (hb57.mono A5.out.2.2.1.size)
  have hb07 : Below w.heap.size w w7 := A4.out.2.2.2.1.trans (hb37.mono A4.out.2.2.2.1.size)
  have hlb7 := H.out.2.2.1.below hb07 H.out.2.2.1.lt
  have g5 := A4.out.1.below hb37 A4.out.1.lt
  have g7 := A4.out.2.1.below hb37 A4.out.2.1.lt
  have g8 := A4.out.2.2.1.below hb37 A4.out.2.2.1.lt
  have g9 := A5.out.1.below hb57 A5.out.1.lt
  have heb7 := A5.out.2.2.2.2.1.below hb7 A5.out.2.2.2.2.1.lt
  have hT7 := H.out.2.1.below hb07
  have hlbw := H.out.2.2.1.lt
  have hcb : w6.heap.size < w7.heap.size := g11.lt
  have hs57 := hb57.size
  have hs37 := hb37.size
  have hs07 := hb07.size
  have hs6 := A5.out.2.2.2.2.2.2.1.size
  have hs3 := A4.out.2.2.2.2.1
  have hs46 : w4.heap.size < w6.heap.size := Nat.lt_of_lt_of_le A5.out.2.2.2.2.2.2.2 A5.out.2.2.2.2.2.2.1.size
  have hs34 : w3.heap.size ≤ w4.heap.size := A4.out.2.2.2.2.2.2.size
  have hes : SliceK (fun q => q < w7.heap.size ∧ q ≠ lb ∧ q ≠ w6.heap.size) encEd 7 w7 (stAt sm n).ve (stAt sm n).edges := by
    exact (H.out.2.1.at_ n).edges.keep fun q hq hl => ⟨⟨by omega, TyD.ne_blk H.out.2.2.1 (by decide) hq, by omega⟩, hb07.block q hl⟩
  have hitr := all_iter (fun q => q < w7.heap.size ∧ q ≠ lb ∧ q ≠ w6.heap.size) (stAt sm n).edges _ 4 (by decide) w7 hes eb heb7 ⟨heb7.lt, by have := A5.out.2.2.2.2.2.1; have := A5.out.2.2.2.2.2.2.2; omega, by have := A5.out.2.2.2.2.1.lt; omega⟩
  have hI0 : EdI w7 L led lb w6.heap.size (stAt sm n).edges 0 w7 := by
    refine ⟨⟨rfl, rfl, rfl, Nat.le_refl _, fun _ _ _ _ => rfl⟩, ?_, g11⟩
    have e : ledK led ((stAt sm n).edges.take 0) = led := by funext j; simp [ledK]
    rw [e]; exact hlb7
  have A7 := Lib.hid (And.intro g5 (And.intro g7 (And.intro g8 (And.intro g9 (And.intro hT7 (And.intro hb07 (And.intro hb37 (And.intro hb57 hcb))))))))
  have S7 := Lib.hid (And.intro hs57 (And.intro hs37 (And.intro hs07 (And.intro hs6 (And.intro hs3 (And.intro hs46 hs34))))))
  clear g5 g7 g8 g9 hT7 hb07 hb37 hb57 hcb hlb7 hb7 hw7 hes g11 heb7 heq hs57 hs37 hs07 hs6 hs3 hs46 hs34
  refine (wpIn_wide (n := 5)).1 ?_
  refine wpIn_rangeFunc_ownT rfl (by decide) (gf := 61) (lb := #[.pointer (some ⟨eb, 0, none⟩)]) rfl trivial (enters_of Tryz.func61 (by kernel_rfl) rfl)
    hitr KeepD.trans (fun W l o o' h1 h2 h3 h4 => KeepD.putObj (w := w7) (fun q hq => hq.1) l o o' h1 h2 h3 h4) (Below.refl _ _) (fun _ _ => rfl)
    (fun k W => EdI w7 L led lb w6.heap.size (stAt sm n).edges k W) (fun _ _ _ => False)
    (ed_own w7 L led lb w6.heap.size (stAt sm n).edges)
    (fun _ _ _ _ _ hs _ _ => hs)
    hI0
    (fun tm k a' W => RoundE w7 L led lb w6.heap.size (stAt sm n).edges tm k a' W) (fun a' => roundE_own _ _ _ _ _ _ _ a') ?assign ?body ?done ?stop
  case stop => rintro D c k W _ _ h _; exact h.elim
  case assign =>
    intro lp k W K hk hI hK
    have hlt6 := hI.far.size
    have HH := Lib.hid hI
    clear hI hI0 hitr
    generalize hq : eK (stAt sm n).edges k = q at *
    obtain ⟨⟨qk, qs, qo⟩, qt⟩ := q
    unfold encY
    simp only []
    gi_wp2
    refine hK _ _ ((KeepsOthers.alloc _ _).from _) (KeepD.below ((Below.refl _ W).alloc (Nat.le_refl _) _)) ?_
    unfold RoundE
    rw [hq]
    exact ⟨W.heap.size, rfl, Blk.new _ _ _, hlt6, ed_own w7 L led lb w6.heap.size (stAt sm n).edges k W _ none HH.out (World.grownBy_alloc W _ none) (fun r e => by cases e)⟩
  case body =>
    rintro lp k a' W ⟨x, rfl, hx, hxl, hI⟩ hk
    obtain ⟨q, hq⟩ : ∃ q, (stAt sm n).edges[k]? = some q := ⟨_, List.getElem?_eq_getElem hk⟩
    have hqe : eK (stAt sm n).edges k = q := by unfold eK; simp [List.getD, hq]
    obtain ⟨hqL, hqm⟩ := H.out.2.2.2.1 q (List.mem_of_getElem? hq)
    have hst := ledK_step led _ _ _ hq
    rw [hqe] at hx ⊢
    obtain ⟨qs, qt⟩ := q
    simp only at hqL hqm hst hx ⊢
    have hlbw := H.out.2.2.1.lt
    have hfb : ∀ q, q < w7.heap.size → q ≠ lb → q ≠ w6.heap.size → W.heap[q]? = w7.heap[q]? := hI.far.block
    have s1 := S7.out.2.2.1
    have s2 := S7.out.2.2.2.2.1
    have s3 := S7.out.2.2.2.2.2.1
    have s4 := S7.out.2.2.2.2.2.2
    have s5 := A7.out.2.2.2.2.2.2.2.2
    have g5 : Blk W w.heap.size 39 #[sv, pv, .int .i64 g.start, fv, lv] := (hfb _ (by omega) (by omega) (by omega)).trans A7.out.1
    have g7 : Blk W (w.heap.size + 1) 49 #[.slice (some ⟨lb, 0, none⟩) L lc] := (hfb _ (by omega) (by omega) (by omega)).trans A7.out.2.1
    have g9 : Blk W w4.heap.size 50 #[.slice ia (stAt sm n).items.length ic] := (hfb _ (by omega) (by omega) (by omega)).trans A7.out.2.2.2.1
    have hPW : ProdsAt D W pv g.prods := H.out.1.keep fun q hq hl => ⟨hq, (hfb q (by omega) (H.out.2.2.2.2.1 q hq) (by omega)).trans (A7.out.2.2.2.2.2.1.block q hl)⟩
    have hIW : SliceK (fun q => w3.heap.size ≤ q) encIt 2 W (.slice ia (stAt sm n).items.length ic) (stAt sm n).items := (own_sliceK encIt_len A4.out.2.2.2.2.2.1).keep fun q hq hl => ⟨hq, (hfb q (by omega) (by omega) (by omega)).trans ((A7.out.2.2.2.2.2.2.2.1.block q (by have := A5.out.2.1.size; omega)).trans (A5.out.2.1.block q hl))⟩
    have p0 := g5.cell 0
    have p1 := g5.cell 1
    have p2 := g5.cell 2
    have p3 := g5.cell 3
    have p4 := g5.cell 4
    have p7 := g7.cell 0
    have p9 := g9.cell 0
    have z0 := hx.cell 0
    have z1 := hx.cell 1
    have z2 := hx.cell 2
    have z3 := hx.cell 3
    have z4 := hx.cell 4
    have z5 := hx.cell 5
    simp at p0 p1 p2 p3 p4 p7 p9 z0 z1 z2 z3 z4 z5
    have hbh := behind_any D (fun q => w3.heap.size ≤ q) g hN H.out.2.2.2.2.2 (stAt sm n).items (H.out.2.1.at_ n).ok (by have := (H.out.2.1.at_ n).len; omega) qs W sv pv fv lv _ hPW hIW
    rw [hqm] at hbh
    have HB := Lib.hid (And.intro hbh (And.intro hI (And.intro g7 (And.intro hst (And.intro hxl hqL)))))
    have ht0 : (0 : Int) ≤ (qt : Int) := by omega
    have ht1 : (qt : Int) < (L : Int) := by omega
    clear hbh hI g5 g7 g9 hPW hIW hfb hst hx hxl hqL hqm hqe hq hI0 hitr s1 s2 s3 s4 s5 hlbw
    simp only [List.setIfInBounds_toArray, List.set_cons_zero, List.set_cons_succ]
    gi_wp2
    refine ⟨trivial, (callsIn_mk HB.out.1).mono ?_⟩
    rintro e w8 ⟨rfl, hb8⟩
    have hI8 : EdI w7 L led lb w6.heap.size (stAt sm n).edges k w8 := ⟨⟨hb8.os.trans HB.out.2.1.far.os, hb8.tape.trans HB.out.2.1.far.tape, hb8.output.trans HB.out.2.1.far.output, Nat.le_trans HB.out.2.1.far.size hb8.size, fun q h1 h2 h3 => (hb8.block q (Nat.lt_of_lt_of_le h1 HB.out.2.1.far.size)).trans (HB.out.2.1.far.block q h1 h2 h3)⟩,
      HB.out.2.1.led.below hb8 HB.out.2.1.led.lt, HB.out.2.1.cnt.below hb8 HB.out.2.1.cnt.lt⟩
    have p7b := (HB.out.2.2.1.below hb8 HB.out.2.2.1.lt).cell 0
    have lc8 := hI8.led.cell qt
    rw [ledC_get L _ qt HB.out.2.2.2.2.2] at lc8
    have lf8 := hI8.led.frozen qt
    have cc8 := hI8.cnt.cell 0
    have cf8 := hI8.cnt.frozen 0
    simp at p7b cc8
    have hkl : k < 9223372036854775807 := by obtain ⟨_, _, _, u1, u2, _⟩ := (H.out.2.1.at_ n).edges; unfold maxLen at u2; omega
    have hne : lb ≠ w6.heap.size := by have := S7.out; have := H.out.2.2.1.lt; omega
    have d1 : decide ((qt : Int) < 0) = false := decide_eq_false (by omega)
    have d2 : decide (L ≤ qt) = false := decide_eq_false (by omega)
    have H8 := Lib.hid (And.intro hb8 hI8)
    clear hb8 hI8 p0 p1 p2 p3 p4 p7 p9 z0 z1 z2 z3 z4 z5
    gi_wp2
    have kf8 : KeepsFrom w7.heap.size W w8 := ⟨H8.out.1.size, fun q o hB hk ho => (H8.out.1.block q (Array.getElem?_eq_some_iff.1 hk).1).trans hk⟩
    have e1 : ∀ (u v : Value) (q : Nat), q ≠ lb → q ≠ w6.heap.size → ((w8.setCell ⟨lb, qt, none⟩ u).setCell ⟨w6.heap.size, 0, none⟩ v).heap[q]? = w8.heap[q]? := fun u v q h1 h2 => (Below.heap_setCell _ ⟨w6.heap.size, 0, none⟩ v q h2).trans (Below.heap_setCell _ ⟨lb, qt, none⟩ u q h1)
    have hszW : ∀ (u v : Value), ((w8.setCell ⟨lb, qt, none⟩ u).setCell ⟨w6.heap.size, 0, none⟩ v).heap.size = w8.heap.size := fun u v => by simp
    refine ⟨kf8.trans (((KeepsOthers.setCell _ _ _).trans (KeepsOthers.setCell _ _ _)).from _), ⟨Nat.le_trans H8.out.1.size (Nat.le_of_eq (hszW _ _).symm), fun q hq hl => (e1 _ _ q hq.2.1 hq.2.2).trans (H8.out.1.block q hl)⟩, ⟨⟨?_, ?_, ?_, Nat.le_trans H8.out.2.far.size (Nat.le_of_eq (hszW _ _).symm), fun q h1 h2 h3 => (e1 _ _ q h2 h3).trans (H8.out.2.far.block q h1 h2 h3)⟩, ?_, ?_⟩⟩
    · exact H8.out.2.far.os
    · exact H8.out.2.far.tape
    · exact H8.out.2.far.output
    · have h1 := (H8.out.2.led.set_ qt (.bool true)).far (p := ⟨w6.heap.size, 0, none⟩) hne (.int .i64 ((k : Int) + 1))
      rw [ledC_set] at h1
      rw [HB.out.2.2.2.1]
      exact h1
    · have h1 := (H8.out.2.cnt.far (p := ⟨lb, qt, none⟩) (fun e => hne e.symm) (.bool true)).set_ 0 (.int .i64 ((k : Int) + 1))
      simpa using h1
  case done =>
    rintro D W hD hI hK
    have hled := hI.led
    rw [List.take_length] at hled
    have hlbw := H.out.2.2.1.lt
    have hgW : w.grownBy W (some lb) := ⟨hI.far.os.trans A7.out.2.2.2.2.2.1.os, hI.far.tape.trans A7.out.2.2.2.2.2.1.tape, hI.far.output.trans A7.out.2.2.2.2.2.1.output, Nat.le_trans S7.out.2.2.1 hI.far.size, fun q hq hne =>
      (hI.far.block q (by have := S7.out.2.2.1; omega) (fun e => hne (by rw [e])) (by have := S7.out; omega)).trans (A7.out.2.2.2.2.2.1.block q hq)⟩
    have hTW : TabP g B tv sm W.drew := (H.out.2.1.grown H.out.2.2.1 hgW).below ((Below.refl _ _).drew)
    have hldc := leads_any g B tv sm n W.drew hTW
    have g8W : Blk W.drew (w.heap.size + 1 + 1) 4 #[.bool false] := (hI.far.block _ (by have := S7.out; omega) (by omega) (by have := S7.out; omega)).trans A7.out.2.2.1
    have gcW : Blk W.drew w6.heap.size 3 #[.int .i64 ((stAt sm n).edges.length : Int)] := hI.cnt
    have c11 := gcW.cell 0
    simp at c11
    have HD := Lib.hid (And.intro hldc (And.intro g8W (And.intro gcW (And.intro hI (And.intro hK (And.intro hled (And.intro hgW hD)))))))
    clear hI0 hitr hI hK hled hgW hTW hldc g8W gcW hD
    go_step
    go_step
    go_upto_region 13 with fail
    go_region_with (go_at_call 31; refine HD.out.1.mono ?_; rintro e w9 ⟨rfl, hb9⟩; have G8 := HD.out.2.1.below hb9 HD.out.2.1.lt; have x8 := G8.cell 0; have f8 := G8.frozen 0; have GC := HD.out.2.2.1.below hb9 HD.out.2.2.1.lt; have c11b := GC.cell 0; simp at x8 c11b; have HB9 := Lib.hid (And.intro hb9 G8); clear hb9 G8 GC)
    all_goals (
      go_wp2_with fail
      obtain ⟨hldc, g8W, gcW, hI, hK, hled, hgW, hD⟩ := HD.out
      obtain ⟨hb9, G8⟩ := HB9.out
      have hlbw := H.out.2.2.1.lt
      have hDW : D < W.heap.size := (Array.getElem?_eq_some_iff.1 hK).1
      have u1 := S7.out.2.2.1
      have u2 := S7.out
      have u3 := hI.far.size
      have hst : ∀ (v : Value) (q : Nat), q ≠ w.heap.size + 1 + 1 → (w9.setCell ⟨w.heap.size + 1 + 1, 0, none⟩ v).heap[q]? = w9.heap[q]? := fun v q h => Below.heap_setCell w9 ⟨w.heap.size + 1 + 1, 0, none⟩ v q h
      refine ⟨[D], rfl, (MarksAt.nil _).cons ((hst _ D (by omega)).trans ((hb9.block D hDW).trans hK)) (by simp), fun w' hs => ?_⟩
      have hst2 : ∀ q, q ≠ D → q ≠ w.heap.size + 1 + 1 → q < W.heap.size → w'.heap[q]? = W.heap[q]? := fun q h1 h2 h3 => (hs.block q (by simpa using h1)).trans ((hst _ q h2).trans (hb9.block q h3))
      have hG8 : Blk (w9.setCell ⟨w.heap.size + 1 + 1, 0, none⟩ (.bool true)) (w.heap.size + 1 + 1) 4 #[.bool true] := by have := G8.set_ 0 (.bool true); simpa using this
      have hcl : Blk w' (w.heap.size + 1 + 1) 4 #[.bool true] := (hs.block _ (by simp; omega)).trans hG8
      have hc0 := hcl.cell 0
      simp at hc0
      refine ⟨.bool true, ?_, rfl, ⟨hs.os.trans (hb9.os.trans hgW.os), hs.tape.trans (hb9.tape.trans hgW.tape), hs.output.trans (hb9.output.trans hgW.output), ?_, fun q hq h1 _ => (hst2 q (by omega) (by omega) (by omega)).trans (hgW.block q hq (fun e => h1 (Option.some.inj e)))⟩, (hst2 lb (by omega) (by omega) (by omega)).trans hled⟩
      · simp [results, Tryz.f16, go_sem, hc0]
      · rw [hs.size]
        have := hb9.size
        simp at this ⊢
        omega)
end Go.Proofs.YtknpkndiflodbaaGreatDoor.Tb
