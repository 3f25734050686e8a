/- Walks and plain laws that the last text stands on: TbGoes, TbStatesL, TbNone, TbRef9D. -/
import Derived.Test.YtknpkndiflodbaaGreatDoorTs28
import Derived.Test.YtknpkndiflodbaaGreatDoorTs16
import Derived.Test.YtknpkndiflodbaaGreatDoorTs3
import Derived.Sort.QuietIn
import Derived.RangeFuncBox
import Derived.Test.YtknpkndiflodbaaGreatDoorTs26
import Derived.Test.YtknpkndiflodbaaGreatDoorTs27
import Derived.Test.YtknpkndiflodbaaGreatDoorTs22
import Derived.Test.YtknpkndiflodbaaGreatDoorTs23
set_option linter.unusedVariables false
set_option linter.unusedSimpArgs false
set_option maxRecDepth 100000
set_option maxHeartbeats 16000000
namespace Go.Proofs.YtknpkndiflodbaaGreatDoor.Tb
open Go Go.RowKit Go.Proofs Mx Go.Shelf
theorem infoU64g : (Tryz.prog.info? 24).map (fun i => (i.zero, i.size, i.bytes)) = some (some (.int .u64 0), 1, 8) := by kernel_rfl
theorem eq_setD (d : Nat) (a0 a1 a2 a3 b0 b1 b2 b3 : Int) (w : World) :
  (Op.equalIn (d + 2) 26 (.agg #[.int .u64 a0, .int .u64 a1, .int .u64 a2, .int .u64 a3]) (.agg #[.int .u64 b0, .int .u64 b1, .int .u64 b2, .int .u64 b3])).run Tryz.prog w = .ok (decide (a0 = b0) && decide (a1 = b1) && decide (a2 = b2) && decide (a3 = b3)) w := by
 obtain ⟨i0, hi, hz0, hz1, hz2⟩ := info_parts infoU64g
 have hc : Tryz.prog.cellsOf 24 = 1 := by kernel_rfl
 rw [run_equalIn_array w (d + 1) _ _ Tryz.underlying26 hi, hc, show List.range 4 = [0, 1, 2, 3] from rfl]
 have hp : ∀ (xs : Array Value) (k : Nat) (v : Value) (w : World), xs[k]? = some v -> (part 24 xs k).run Tryz.prog w = .ok v w := by
  intro xs k v w h
  simp [part, isAgg, run_underlying Tryz.underlying24, go_sem, h]
 have he : ∀ (a b : Int) (w : World), (Op.equalIn (d + 1) 24 (.int .u64 a) (.int .u64 b)).run Tryz.prog w = .ok (a == b) w := fun a b w => run_equalIn_int w d _ .u64 .u64 a b Tryz.underlying24
 have p0 : ∀ (a b c d : Int) (w : World), (part 24 #[.int .u64 a, .int .u64 b, .int .u64 c, .int .u64 d] 0).run Tryz.prog w = .ok (.int .u64 a) w := fun a b c d w => hp _ 0 _ w rfl
 have p1 : ∀ (a b c d : Int) (w : World), (part 24 #[.int .u64 a, .int .u64 b, .int .u64 c, .int .u64 d] 1).run Tryz.prog w = .ok (.int .u64 b) w := fun a b c d w => hp _ 1 _ w rfl
 have p2 : ∀ (a b c d : Int) (w : World), (part 24 #[.int .u64 a, .int .u64 b, .int .u64 c, .int .u64 d] 2).run Tryz.prog w = .ok (.int .u64 c) w := fun a b c d w => hp _ 2 _ w rfl
 have p3 : ∀ (a b c d : Int) (w : World), (part 24 #[.int .u64 a, .int .u64 b, .int .u64 c, .int .u64 d] 3).run Tryz.prog w = .ok (.int .u64 d) w := fun a b c d w => hp _ 3 _ w rfl
 simp only [Op.eqItems, Sem.run_bind, Nat.zero_mul, Nat.mul_one, p0, p1, p2, p3, Result.andThen_ok, he]
 by_cases h0 : a0 = b0
 ·by_cases h1 : a1 = b1
  ·by_cases h2 : a2 = b2
   ·by_cases h3 : a3 = b3 <;> simp [h0, h1, h2, h3, p0, p1, p2, p3, he]
   ·simp [h0, h1, h2, p0, p1, p2, p3, he]
  ·simp [h0, h1, p0, p1, p2, p3, he]
 ·simp [h0, p0, p1, p2, p3, he]
def eqSyB (k : Int) (a0 a1 a2 a3 : Int) (s k' : Int) (b0 b1 b2 b3 : Int) (s' : Int) : Bool := decide (k = k') && (decide (a0 = b0) && decide (a1 = b1) && decide (a2 = b2) && decide (a3 = b3)) && decide (s = s')
theorem eq_sym (d : Nat) (k a0 a1 a2 a3 s k' b0 b1 b2 b3 s' : Int) (w : World) :
  (Op.equalIn (d + 3) 28 (.agg #[.int .i64 k, .int .u64 a0, .int .u64 a1, .int .u64 a2, .int .u64 a3, .int .i64 s]) (.agg #[.int .i64 k', .int .u64 b0, .int .u64 b1, .int .u64 b2, .int .u64 b3, .int .i64 s'])).run Tryz.prog w = .ok (eqSyB k a0 a1 a2 a3 s k' b0 b1 b2 b3 s') w := by
 have hf : (Tryz.prog.fieldsOf 28).toList.map (fun f => (f.name, f.type, f.offset)) = [("Kind", 23, 0), ("Set", 26, 1), ("Sort", 3, 5)] := by kernel_rfl
 rw [run_equalIn_struct w (d + 2) _ _ _ (by kernel_rfl) (by kernel_rfl)]
 generalize (Tryz.prog.fieldsOf 28).toList = fs at hf ⊢
 match fs, hf with
 | [⟨m0, y0, o0, _, _, _, _⟩, ⟨m1, y1, o1, _, _, _, _⟩, ⟨m2, y2, o2, _, _, _, _⟩], hf =>
  simp only [List.map_cons, List.map_nil, List.cons.injEq, Prod.mk.injEq, and_true] at hf
  obtain ⟨⟨rfl, rfl, rfl⟩, ⟨rfl, rfl, rfl⟩, ⟨rfl, rfl, rfl⟩⟩ := hf
  have hp : ∀ (y : TypeId) (u : TypeDesc), Tryz.prog.underlying y = some u -> (match u with | .struct _ | .array _ _ => false | _ => true) = true -> ∀ (xs : Array Value) (k : Nat) (v : Value) (w : World), xs[k]? = some v -> (part y xs k).run Tryz.prog w = .ok v w := by
   intro y u hu hna xs k v w h
   cases u <;> simp at hna <;> simp [part, isAgg, run_underlying hu, go_sem, h]
  have q0 : ∀ (v0 v1 v2 v3 v4 v5 : Value) (w : World), (part 23 #[v0, v1, v2, v3, v4, v5] 0).run Tryz.prog w = .ok v0 w := fun _ _ _ _ _ _ w => hp _ _ Tryz.underlying23 rfl _ 0 _ w rfl
  have q2 : ∀ (v0 v1 v2 v3 v4 v5 : Value) (w : World), (part 3 #[v0, v1, v2, v3, v4, v5] 5).run Tryz.prog w = .ok v5 w := fun _ _ _ _ _ _ w => hp _ _ Tryz.underlying3 rfl _ 5 _ w rfl
  have q1 : ∀ (v0 v1 v2 v3 v4 v5 : Value) (w : World), (part 26 #[v0, v1, v2, v3, v4, v5] 1).run Tryz.prog w = .ok (.agg #[v1, v2, v3, v4]) w := by
   intro v0 v1 v2 v3 v4 v5 w
   simp [part, isAgg, run_underlying Tryz.underlying26, go_sem]
  have e0 : ∀ (a b : Int) (w : World), (Op.equalIn (d + 2) 23 (.int .i64 a) (.int .i64 b)).run Tryz.prog w = .ok (a == b) w := fun a b w => run_equalIn_int w (d + 1) _ .i64 .i64 a b Tryz.underlying23
  have e2 : ∀ (a b : Int) (w : World), (Op.equalIn (d + 2) 3 (.int .i64 a) (.int .i64 b)).run Tryz.prog w = .ok (a == b) w := fun a b w => run_equalIn_int w (d + 1) _ .i64 .i64 a b Tryz.underlying3
  have e1 := eq_setD d a0 a1 a2 a3 b0 b1 b2 b3
  unfold eqSyB
  by_cases h0 : k = k'
  ·by_cases h3 : (decide (a0 = b0) && decide (a1 = b1) && decide (a2 = b2) && decide (a3 = b3)) = true
   ·rw [h3] at e1
    by_cases h4 : s = s' <;> simp [Op.eqFields, h0, h3, h4, q0, q1, q2, e0, e1, e2]
   ·have h3' : (decide (a0 = b0) && decide (a1 = b1) && decide (a2 = b2) && decide (a3 = b3)) = false := by simpa using h3
    rw [h3'] at e1
    simp [Op.eqFields, h0, h3', q0, q1, q2, e0, e1, e2]
  ·simp [Op.eqFields, h0, q0, e0]
theorem eql_sym (k a0 a1 a2 a3 s k' b0 b1 b2 b3 s' : Int) (w : World) :
  (binOp .eql 28 (.agg #[.int .i64 k, .int .u64 a0, .int .u64 a1, .int .u64 a2, .int .u64 a3, .int .i64 s]) (.agg #[.int .i64 k', .int .u64 b0, .int .u64 b1, .int .u64 b2, .int .u64 b3, .int .i64 s'])).run Tryz.prog w = .ok (.bool (eqSyB k a0 a1 a2 a3 s k' b0 b1 b2 b3 s')) w := by
 rw [run_eql_struct, show (10000 : Nat) = 9997 + 3 from rfl, eq_sym]; rfl
theorem neq_sym (k a0 a1 a2 a3 s k' b0 b1 b2 b3 s' : Int) (w : World) :
  (binOp .neq 28 (.agg #[.int .i64 k, .int .u64 a0, .int .u64 a1, .int .u64 a2, .int .u64 a3, .int .i64 s]) (.agg #[.int .i64 k', .int .u64 b0, .int .u64 b1, .int .u64 b2, .int .u64 b3, .int .i64 s'])).run Tryz.prog w = .ok (.bool (!eqSyB k a0 a1 a2 a3 s k' b0 b1 b2 b3 s')) w := by
 rw [run_neq_struct, show (10000 : Nat) = 9997 + 3 from rfl, eq_sym]; rfl
theorem eqSyB_self (k a0 a1 a2 a3 s : Int) : eqSyB k a0 a1 a2 a3 s k a0 a1 a2 a3 s = true := by simp [eqSyB]
theorem blk_keptT {W W' : World} {row : Option Nat} {g : Nat} {t : TypeId} {cs : Array Value} (h : Blk W g t cs) (hg : W.grownBy W' row) (hrow : ∀ r, row = some r -> ∃ o : Obj, W.heap[r]? = some o /\ o.isCells = false) : Blk W' g t cs :=
 (grownBy_keeps_cells hg hrow h rfl).trans h
theorem keeps_drewNT (W : World) (n : Nat) : KeepsOthers W (W.drewN n) := ⟨Nat.le_refl _, fun _ _ h _ => h⟩
theorem keepD_drewN (D : Nat -> Prop) (W : World) (n : Nat) : KeepD D W (W.drewN n) := ⟨Nat.le_refl _, fun _ _ _ => rfl⟩
theorem keepD_set {W : World} {B : Nat} {p : Addr} (h : B <= p.block) (v : Value) : KeepD (· < B) W (W.setCell p v) := ⟨by simp, fun g hg _ => Below.heap_setCell W p v g (by have : g < B := hg; omega)⟩
attribute [local go_sem] Oper.semAt_some
def GoesI (w : World) (V : Value) (leave : Int) (k : Nat) (W : World) : Prop :=
 (Blk W w.heap.size 60 #[V] /\ Blk W (w.heap.size + 1) 3 #[.int .i64 leave] /\ Blk W (w.heap.size + 1 + 1) 4 #[.bool false] /\ Blk W (w.heap.size + 1 + 1 + 1) 3 #[.int .i64 (k : Int)]) /\ Below w.heap.size w W
def GoesX (w : World) (c : Code) (k : Nat) (W : World) : Prop := (c = .ret /\ Blk W (w.heap.size + 1 + 1) 4 #[.bool true]) /\ Below w.heap.size w W
def GoesA (w : World) (V : Value) (leave : Int) (L : List (Sy × Nat)) (tm : Array Value) (k : Nat) (a : Act) (W : World) : Prop :=
 (∃ b : Nat, a = { tmps := (((tm.setIfInBounds 13 (.agg #[.int .i64 (eK L k).1.kind, .int .u64 (wd (eK L k).1.set 0), .int .u64 (wd (eK L k).1.set 1), .int .u64 (wd (eK L k).1.set 2), .int .u64 (wd (eK L k).1.set 3), .int .i64 (eK L k).1.sort])).setIfInBounds 14 (.int .i64 ((eK L k).2 : Int))).setIfInBounds 8 (.pointer (some ⟨b, 0, none⟩))).setIfInBounds 9 (.int .i64 ((eK L k).2 : Int)), defers := [] } /\ w.heap.size + 4 <= b /\
  Blk W b 28 #[.int .i64 (eK L k).1.kind, .int .u64 (wd (eK L k).1.set 0), .int .u64 (wd (eK L k).1.set 1), .int .u64 (wd (eK L k).1.set 2), .int .u64 (wd (eK L k).1.set 3), .int .i64 (eK L k).1.sort]) /\ GoesI w V leave k W
theorem goesR_any (D E : Nat -> Prop) (L : List (Sy × Nat)) (v V : Value) (leave : Int) (bs : Nat) (w : World) (hv : SliceK D encEd 7 w v L) (hV : SliceK E encEd 7 w V L) (hLb : L.length <= 1000000) (hbs : Blk w bs 102 #[v]) :
  Calls Tryz.prog 49 #[.func (.func 61) #[] #[.pointer (some ⟨bs, 0, none⟩)], V, .int .i64 leave] w fun e w' => e = .returned (.bool true) /\ Below w.heap.size w w' := by
 obtain ⟨a0, c0, rfl, hc1, hc2, ho⟩ := id hV
 refine (callsIn_wide (n := 5)).1 ?_
 have hro : Fence.wide.round = none := rfl
 refine callsIn_of_wp_marks Tryz.func49 rfl trivial ?_ hro
 simp only [Tryz.ntmps49, List.size_toArray, List.length_cons, List.length_nil, Nat.reduceAdd, Nat.reduceSub, Array.replicate_succ, Array.replicate_zero, List.push_toArray, List.append_toArray, List.nil_append, List.cons_append]
 have hfe := fun w => edge_eql bs w
 gi_wp2
 clear hfe
 have hI0 : GoesI w (.slice a0 L.length c0) leave 0 ((((w.alloc (.cells #[.slice a0 L.length c0] 60)).alloc (.cells #[.int .i64 leave] 3)).alloc (.cells #[.bool false] 4)).alloc (.cells #[.int .i64 0] 3)) :=
  ⟨⟨(((Blk.new_ rfl _ _).alloc _).alloc _).alloc _, ((Blk.new_ (by simp) _ _).alloc _).alloc _, (Blk.new_ (by simp) _ _).alloc _, Blk.new_ (by simp) _ _⟩,
   ((((Below.refl _ w).alloc (Nat.le_refl _) _).alloc (by simp) _).alloc (by simp; omega) _).alloc (by simp; omega) _⟩
 have hsz : (((((w.alloc (.cells #[.slice a0 L.length c0] 60)).alloc (.cells #[.int .i64 leave] 3)).alloc (.cells #[.bool false] 4)).alloc (.cells #[.int .i64 0] 3))).heap.size = w.heap.size + 4 := by simp
 obtain ⟨w2, hw2⟩ : ∃ w2, ((((w.alloc (.cells #[.slice a0 L.length c0] 60)).alloc (.cells #[.int .i64 leave] 3)).alloc (.cells #[.bool false] 4)).alloc (.cells #[.int .i64 0] 3)) = w2 := ⟨_, rfl⟩
 rw [hw2] at hI0 hsz ⊢
 clear hw2
 have hs2' : w.heap.size <= w2.heap.size := by omega
 have HV := Hd (An ho hsz)
 clear ho hsz hc1 hc2
 have hes : SliceK (· < w.heap.size) encEd 7 w2 v L := hv.keep fun q _ hl => ⟨hl, hI0.2.block q hl⟩
 have hit := all_iter (· < w.heap.size) L v 4 (by decide) w2 hes bs (hbs.below hI0.2 hbs.lt) hbs.lt
 have hOwn : ∀ B0 : Nat, w.heap.size <= B0 -> OwnFrom B0 (GoesI w (.slice a0 L.length c0) leave) := fun B0 hB0 =>
  OwnFrom.and (Own.from (fun s A B row ⟨h1, h2, h3, h4⟩ hg hr => ⟨blk_keptT h1 hg hr, blk_keptT h2 hg hr, blk_keptT h3 hg hr, blk_keptT h4 hg hr⟩) _) (ownFrom_below (Nat.le_refl _) hB0)
 refine wpIn_rangeFunc_ownT hro (by decide) (gf := 61) (lb := #[.pointer (some ⟨bs, 0, none⟩)]) rfl trivial (enters_of Tryz.func61 (by kernel_rfl) rfl)
  hit KeepD.trans (fun W l o o' h1 h2 h3 h4 => KeepD.putObj (w := w2) (fun q hq => Nat.lt_of_lt_of_le hq hs2') l o o' h1 h2 h3 h4) (Below.refl _ _) (fun _ _ => rfl)
  (GoesI w (.slice a0 L.length c0) leave) (GoesX w)
  (hOwn _ hs2')
  (fun c => OwnFrom.and (Own.from (fun s A B row hs hg hr => ⟨hs.1, blk_keptT hs.2 hg hr⟩) _) (ownFrom_below (Nat.le_refl _) hs2'))
  hI0
  (fun tm k a' W => GoesA w (.slice a0 L.length c0) leave L tm k a' W)
  (fun a' => OwnFrom.and (Own.from (fun s A B row ⟨b, e, hb, h1⟩ hg hr => ⟨b, e, hb, blk_keptT h1 hg hr⟩) _) (hOwn _ hs2'))
  ?assign ?body ?done ?stop
 case assign =>
  intro l k W K hk hI hK
  have hsW : w.heap.size + 4 <= W.heap.size := by have := hI.1.2.2.2.lt; omega
  clear hI0 hit hOwn hes
  generalize hq : eK L k = q at *
  obtain ⟨⟨qk, qs, qo⟩, qt⟩ := q
  unfold encY
  simp only []
  have hI' : GoesI w (.slice a0 L.length c0) leave k (W.alloc (.cells #[.int .i64 qk, .int .u64 (wd qs 0), .int .u64 (wd qs 1), .int .u64 (wd qs 2), .int .u64 (wd qs 3), .int .i64 qo] 28)) :=
   ⟨⟨hI.1.1.alloc _, hI.1.2.1.alloc _, hI.1.2.2.1.alloc _, hI.1.2.2.2.alloc _⟩, hI.2.alloc hI.2.size _⟩
  have HI := Hd hI'
  clear hI hI'
  gi_wp2
  refine hK _ _ ((KeepsOthers.alloc _ _).from _) (KeepD.below ((Below.refl _ W).alloc (Nat.le_refl _) _)) ?_
  unfold GoesA
  rw [hq]
  exact ⟨⟨W.heap.size, rfl, hsW, Blk.new W _ _⟩, HI.out⟩
 case body =>
  rintro l k a' W ⟨⟨b, rfl, hb, hbk⟩, ⟨h1, h2, h3, h4⟩, hB⟩ hk
  obtain ⟨q, hq⟩ : ∃ q, L[k]? = some q := ⟨_, List.getElem?_eq_getElem hk⟩
  have hqe : eK L k = q := by unfold eK; simp [List.getD, hq]
  rw [hqe] at hbk ⊢
  obtain ⟨g, o, rfl, _, hr⟩ := HV.out.1 (by rintro h; rw [h] at hk; simp at hk)
  have up := hB.block g hr.lt
  obtain ⟨⟨qk, qs, qo⟩, qt⟩ := q
  simp only at hbk ⊢
  have x0 : W.cell? ⟨g, o + k * 7, none⟩ = some (.int .i64 qk) := (World.cell?_of_block up).trans (hr.cells k _ hq 0 _ rfl)
  have x1 : W.cell? ⟨g, o + k * 7 + 1, none⟩ = some (.int .u64 (wd qs 0)) := (World.cell?_of_block up).trans (hr.cells k _ hq 1 _ rfl)
  have x2 : W.cell? ⟨g, o + k * 7 + 2, none⟩ = some (.int .u64 (wd qs 1)) := (World.cell?_of_block up).trans (hr.cells k _ hq 2 _ rfl)
  have x3 : W.cell? ⟨g, o + k * 7 + 3, none⟩ = some (.int .u64 (wd qs 2)) := (World.cell?_of_block up).trans (hr.cells k _ hq 3 _ rfl)
  have x4 : W.cell? ⟨g, o + k * 7 + 4, none⟩ = some (.int .u64 (wd qs 3)) := (World.cell?_of_block up).trans (hr.cells k _ hq 4 _ rfl)
  have x5 : W.cell? ⟨g, o + k * 7 + 5, none⟩ = some (.int .i64 qo) := (World.cell?_of_block up).trans (hr.cells k _ hq 5 _ rfl)
  have x6 : W.cell? ⟨g, o + k * 7 + 6, none⟩ = some (.int .i64 (qt : Int)) := (World.cell?_of_block up).trans (hr.cells k _ hq 6 _ rfl)
  have hnq := neq_sym
  have hqq := eqSyB_self qk (wd qs 0) (wd qs 1) (wd qs 2) (wd qs 3) qo
  have c1 := h1.cell 0
  have c2 := h2.cell 0
  have c3 := h3.cell 0
  have c4 := h4.cell 0
  have f3 := h3.frozen 0
  have f4 := h4.frozen 0
  have y0 := hbk.cell 0
  have y1 := hbk.cell 1
  have y2 := hbk.cell 2
  have y3 := hbk.cell 3
  have y4 := hbk.cell 4
  have y5 := hbk.cell 5
  simp at c1 c2 c3 c4 y0 y1 y2 y3 y4 y5
  have hki : (k : Int) < (L.length : Int) := by omega
  have hk0 : (0 : Int) <= (k : Int) := by omega
  have hkn : decide (L.length <= k) = false := decide_eq_false (by omega)
  have HB := Hd (An h1 (An h2 (An h3 (An h4 hB))))
  clear hr hI0 h1 h2 h3 h4 hB hit hq hbk hOwn hes hqe up
  simp only [List.setIfInBounds_toArray, List.set_cons_zero, List.set_cons_succ]
  by_cases hl : (k : Int) + 1 = leave
  ·have hl' : ((k : Int) + 1 == leave) = true := by simp [hl]
   clear hl
   gi_wp2
   refine wpIn_region_quiet_round (by kernel_rfl) (by kernel_rfl) (by kernel_rfl) ?_
   repeat (gi_big_quiet_step (fail))
   refine wpQuietIn_nil ?_
   intro _ hw'
   obtain ⟨nq, hw''⟩ := hw'
   subst hw''
   gi_wp2
   refine ⟨((keeps_drewNT W nq).trans ((KeepsOthers.setCell _ _ _).trans (KeepsOthers.setCell _ _ _))).from _, ⟨rfl, ?_⟩, ?_⟩
   ·exact ((HB.out.2.2.1.drewN nq).far (p := ⟨w.heap.size + 1 + 1 + 1, 0, none⟩) (by simp) _).set_ 0 (.bool true)
   ·exact ((below_drewN HB.out.2.2.2.2 nq).setCell (p := ⟨w.heap.size + 1 + 1 + 1, 0, none⟩) (by first | (simp; done) | (simp; omega)) _).setCell (p := ⟨w.heap.size + 1 + 1, 0, none⟩) (by first | (simp; done) | (simp; omega)) _
  ·have hl' : ((k : Int) + 1 == leave) = false := by simp [hl]
   clear hl
   gi_wp2
   refine wpIn_region_quiet_round (by kernel_rfl) (by kernel_rfl) (by kernel_rfl) ?_
   repeat (gi_big_quiet_step (fail))
   refine wpQuietIn_nil ?_
   intro _ hw'
   obtain ⟨nq, hw''⟩ := hw'
   subst hw''
   gi_wp2
   refine ⟨((keeps_drewNT W nq).trans (KeepsOthers.setCell _ _ _)).from _, (keepD_drewN _ W nq).trans (keepD_set (p := ⟨w.heap.size + 1 + 1 + 1, 0, none⟩) (by first | (simp; done) | (simp; omega)) _), ⟨?_, ?_, ?_, ?_⟩, ?_⟩
   ·exact (HB.out.1.drewN nq).far (p := ⟨w.heap.size + 1 + 1 + 1, 0, none⟩) (by first | (simp; done) | (simp; omega)) _
   ·exact (HB.out.2.1.drewN nq).far (p := ⟨w.heap.size + 1 + 1 + 1, 0, none⟩) (by first | (simp; done) | (simp; omega)) _
   ·exact (HB.out.2.2.1.drewN nq).far (p := ⟨w.heap.size + 1 + 1 + 1, 0, none⟩) (by simp) _
   ·exact (HB.out.2.2.2.1.drewN nq).set_ 0 (.int .i64 ((k + 1 : Nat) : Int))
   ·exact (below_drewN HB.out.2.2.2.2 nq).setCell (p := ⟨w.heap.size + 1 + 1 + 1, 0, none⟩) (by first | (simp; done) | (simp; omega)) _
 case done =>
  rintro D W hD ⟨⟨h1, h2, h3, h4⟩, hB⟩ hK
  have c1 := h1.cell 0
  have c4 := h4.cell 0
  have f3 := h3.frozen 0
  have c3 := h3.cell 0
  simp at c1 c3 c4
  have hDs : w.heap.size + 1 + 1 ≠ D := by have := HV.out.2; omega
  have HB := Hd (An h3 hB)
  clear h1 h2 h3 h4 hB hit hI0 hOwn hes
  gi_wp2
  have hK' := (KeepsOthers.setCell W ⟨w.heap.size + 1 + 1, 0, none⟩ (.bool true)).same D _ hK rfl
  have h2' := (HB.out.1.set_ 0 (.bool true)).cell 0
  have hc5 := cell_kept h2' (grownBy_putObj' _ D (.deferred none)) (fun r e => by cases e; exact ⟨_, hK', rfl⟩)
  refine ⟨by simp, .inl ⟨_, _, rfl, run_takeDeferred hK', ?_⟩⟩
  refine ⟨.bool true, ?_, rfl, (HB.out.2.setCell (p := ⟨w.heap.size + 1 + 1, 0, none⟩) (by first | (simp; done) | (simp; omega)) _).trans (belowK_b (w := w) (Nat.le_refl _) _ D _ _ (by omega) hK' rfl rfl)⟩
  simp at hc5
  simp [results, Tryz.f49, go_sem, hc5]
 case stop =>
  rintro D c k W hD _ ⟨⟨rfl, hc⟩, hB⟩ hK
  have hc0 := hc.cell 0
  clear hit hI0 hOwn hes
  gi_wp2
  have hc5 := cell_kept hc0 (grownBy_putObj' _ D (.deferred none)) (fun r e => by cases e; exact ⟨_, hK, rfl⟩)
  refine ⟨by simp, .inl ⟨_, _, rfl, run_takeDeferred hK, ?_⟩⟩
  refine ⟨.bool true, ?_, rfl, hB.trans (belowK_b (w := w) (Nat.le_refl _) W D _ _ (by omega) hK rfl rfl)⟩
  simp at hc5
  simp [results, Tryz.f49, go_sem, hc5]
end Go.Proofs.YtknpkndiflodbaaGreatDoor.Tb
namespace Go.Proofs.YtknpkndiflodbaaGreatDoor.Tb
open Go Go.RowKit Go.Proofs Mx
def Apart (a b : Sy) : Prop := (∀ s, isSort s a = true -> isSort s b = false) /\ ∀ c, hasByte c a = true -> hasByte c b = false
def EdgeSy (y : Sy) : Prop := (y.kind = 1 /\ y.set = 0) ∨ (y.kind = 0 /\ y.sort = 0 /\ y.set < 2 ^ 256)
theorem symsR_edge {g : Gr} {l : List It} {y : Sy} (h : y ∈ symsR g l) : EdgeSy y := by
 unfold symsR at h
 rcases List.mem_append.1 h with h | h
 ·obtain ⟨n, _, rfl⟩ := List.mem_map.1 h
  exact .inl ⟨rfl, rfl⟩
 ·obtain ⟨c, hc, rfl⟩ := List.mem_map.1 h
  exact .inr ⟨rfl, rfl, refSplit_lt (List.mem_filter.1 hc).1⟩
theorem isSort_iff (s : Int) (y : Sy) : isSort s y = true ↔ y.kind = 1 /\ y.sort = s := by simp [isSort]
theorem hasByte_iff (c : Nat) (y : Sy) : hasByte c y = true ↔ y.kind = 0 /\ y.set.testBit c = true := by simp [hasByte]
theorem bool_no {b : Bool} (h : b = true -> False) : b = false := by cases b <;> simp at h ⊢
theorem refSplit_apart (L : List Nat) : (refSplit L).Pairwise fun p q => ∀ c, p.testBit c = true -> q.testBit c = false := by
 unfold refSplit
 rw [List.pairwise_map]
 have h := (firsts_sorted L 256)
 refine h.imp_of_mem ?_
 intro f f' hf hf' hlt c hc
 refine bool_no fun hc' => ?_
 rw [classB_bit] at hc hc'
 simp only [Bool.and_eq_true, decide_eq_true_eq] at hc hc'
 have h1 := sameB_trans hc'.2 (sameB_symm hc.2)
 have h2 := (firsts_mem.1 hf').2 f hlt
 rw [h1] at h2
 cases h2
theorem symsR_apart (g : Gr) (l : List It) : (symsR g l).Pairwise Apart := by
 unfold symsR
 rw [List.pairwise_append]
 refine ⟨?_, ?_, ?_⟩
 ·rw [List.pairwise_map]
  refine (List.pairwise_lt_range.filter _).imp ?_
  intro a b hab
  refine ⟨fun s h => bool_no fun h2 => ?_, fun c h => ?_⟩
  ·rw [isSort_iff] at h h2
   have h3 : (a : Int) = s := h.2
   have h4 : (b : Int) = s := h2.2
   omega
  ·rw [hasByte_iff] at h
   exact absurd (show (1 : Int) = 0 from h.1) (by decide)
 ·rw [List.pairwise_map]
  refine ((refSplit_apart _).filter _).imp ?_
  intro p q hpq
  refine ⟨fun s h => ?_, fun c h => bool_no fun h2 => ?_⟩
  ·rw [isSort_iff] at h
   exact absurd (show (0 : Int) = 1 from h.1) (by decide)
  ·rw [hasByte_iff] at h h2
   have h3 := hpq c h.2
   have h4 : q.testBit c = true := h2.2
   rw [h4] at h3
   cases h3
 ·intro a ha b hb
  obtain ⟨n, _, rfl⟩ := List.mem_map.1 ha
  obtain ⟨p, _, rfl⟩ := List.mem_map.1 hb
  refine ⟨fun s h => bool_no fun h2 => ?_, fun c h => ?_⟩
  ·rw [isSort_iff] at h2
   exact absurd (show (0 : Int) = 1 from h2.1) (by decide)
  ·rw [hasByte_iff] at h
   exact absurd (show (1 : Int) = 0 from h.1) (by decide)
structure EdgesOk (es : List (Sy × Nat)) : Prop where
 apart : (es.map (·.1)).Pairwise Apart
 sym : ∀ e ∈ es, EdgeSy e.1
theorem edges_syms {g : Gr} {fin : List (List It)} {s : St} (hg : Good g) (h : StLaw g fin s) : s.edges.map (·.1) = symsR g s.items := by
 have hl : (leadsF g s.items).map (·.1) = symsR g s.items := by
  rw [leads_led hg]
  unfold ledR
  rw [List.map_map]
  exact List.map_id' _
 rw [<- hl]
 apply List.ext_getElem?
 intro k
 rw [List.getElem?_map, List.getElem?_map]
 cases hk : (leadsF g s.items)[k]? with
 | none =>
  have h1 : s.edges[k]? = none := by
   rw [List.getElem?_eq_none_iff] at hk ⊢
   rw [h.len]; exact hk
  rw [h1]; rfl
 | some q =>
  obtain ⟨y, K⟩ := q
  obtain ⟨m, h1, _⟩ := h.edge k y K hk
  rw [h1]; rfl
theorem edgesOk_of {g : Gr} {fin : List (List It)} {s : St} (hg : Good g) (h : StLaw g fin s) : EdgesOk s.edges := by
 have e := edges_syms hg h
 refine ⟨e ▸ symsR_apart g s.items, fun x hx => ?_⟩
 have : x.1 ∈ symsR g s.items := e ▸ List.mem_map_of_mem hx
 exact symsR_edge this
section
variable {es : List (Sy × Nat)} (h : EdgesOk es)
include h
theorem EdgesOk.before {i j : Nat} {e f : Sy × Nat} (hj : es[j]? = some f) (hi : es[i]? = some e) (hlt : j < i) : Apart f.1 e.1 := by
 obtain ⟨h1, h2⟩ := List.getElem?_eq_some_iff.1 hj
 obtain ⟨h3, h4⟩ := List.getElem?_eq_some_iff.1 hi
 have := List.pairwise_iff_getElem.1 h.apart j i (by simpa using h1) (by simpa using h3) hlt
 simpa [h2, h4] using this
theorem EdgesOk.sort {i : Nat} {y : Sy} {t : Nat} (hi : es[i]? = some (y, t)) (hk : y.kind = 1) : toF (isSort y.sort) es = ((t : Int), true) := by
 refine toF_hit _ _ i _ hi ((isSort_iff _ _).2 ⟨hk, rfl⟩) fun x hx => bool_no fun hs => ?_
 obtain ⟨j, hj, e⟩ := List.mem_iff_getElem.1 hx
 rw [List.length_take] at hj
 rw [List.getElem_take] at e
 have h1 := h.before (j := j) (f := x) (by rw [List.getElem?_eq_getElem (by omega), e]) hi (by omega)
 have h2 := h1.1 _ hs
 rw [(isSort_iff _ _).2 ⟨hk, rfl⟩] at h2
 cases h2
theorem EdgesOk.byte {i : Nat} {y : Sy} {t c : Nat} (hi : es[i]? = some (y, t)) (hk : y.kind = 0) (hc : y.set.testBit c = true) : toF (hasByte c) es = ((t : Int), true) := by
 have hh := (hasByte_iff c y).2 ⟨hk, hc⟩
 refine toF_hit _ _ i _ hi hh fun x hx => bool_no fun hs => ?_
 obtain ⟨j, hj, e⟩ := List.mem_iff_getElem.1 hx
 rw [List.length_take] at hj
 rw [List.getElem_take] at e
 have h1 := h.before (j := j) (f := x) (by rw [List.getElem?_eq_getElem (by omega), e]) hi (by omega)
 have h2 := h1.2 _ hs
 have h3 : hasByte c y = false := h2
 rw [hh] at h3
 cases h3
end
theorem toF_ok (p : Sy -> Bool) (es : List (Sy × Nat)) : toF p es = ((toF p es).1, es.any fun e => p e.1) /\ ((es.any fun e => p e.1) = false -> (toF p es).1 = 0) := by
 cases ha : es.any fun e => p e.1 with
 | true =>
  obtain ⟨e, he, hp⟩ := List.any_eq_true.1 ha
  obtain ⟨e2, _, _, h3⟩ := toF_some (p := p) ⟨e, he, hp⟩
  rw [h3]
  exact ⟨rfl, fun h => absurd h (by decide)⟩
 | false =>
  have hn : ∀ x ∈ es, p x.1 = false := fun x hx => by
   have := List.any_eq_false.1 ha x hx
   simpa using this
  rw [toF_miss p es hn]
  exact ⟨rfl, fun _ => rfl⟩
theorem nextF_any (es : List (Sy × Nat)) (c : Nat) : (nextF es).testBit c = es.any fun e => hasByte c e.1 := nextF_bit es c
theorem nextF_succ (es : List (Sy × Nat)) (i : Nat) {e : Sy × Nat} (h : es[i]? = some e) : nextF (es.take (i + 1)) = if e.1.kind = 0 then nextF (es.take i) ||| e.1.set else nextF (es.take i) := by
 unfold nextF
 rw [List.take_add_one, h, List.foldl_append]
 rfl
theorem nextF_lt {es : List (Sy × Nat)} (h : ∀ e ∈ es, EdgeSy e.1) : nextF es < 2 ^ 256 := by
 apply Nat.lt_pow_two_of_testBit
 intro i hi
 rw [nextF_bit]
 refine bool_no fun ha => ?_
 obtain ⟨e, he, hb⟩ := List.any_eq_true.1 ha
 simp only [Bool.and_eq_true, beq_iff_eq] at hb
 rcases h e he with h1 | h1
 ·rw [hb.1] at h1; exact absurd h1.1 (by decide)
 ·have h2 := Nat.testBit_lt_two_pow (Nat.lt_of_lt_of_le h1.2.2 (Nat.pow_le_pow_right (by decide) hi))
  rw [hb.2] at h2
  cases h2
theorem wd_nil (j : Nat) : wd 0 j = 0 := by simp [wd]
theorem eqSy_sort {y : Sy} (h : EdgeSy y) (s : Int) : eqSyB y.kind (wd y.set 0) (wd y.set 1) (wd y.set 2) (wd y.set 3) y.sort 1 0 0 0 0 s = isSort s y := by
 rcases h with ⟨h1, h2⟩ | ⟨h1, _⟩
 ·unfold eqSyB isSort
  rw [h1, h2]
  simp [wd_nil]
  cases hd : decide (y.sort = s) <;> simp_all
 ·unfold eqSyB isSort
  rw [h1]
  simp
attribute [local go_sem] eqSet
theorem none_any (g : Gr) (B : Nat) (tv : Value) (sm : List SM) (n : Int) (w : World) (hT : TabP g B tv sm w) (hn : stAt sm n = noSM) :
  Calls Tryz.prog 19 #[tv, .int .i64 n] w fun e w' => e = .returned (.bool true) /\ Below w.heap.size w w' := by
 have hsh : ∀ W, Below w.heap.size w W -> Calls Tryz.prog 24 #[tv, .int .i64 n, .int .u8 97] W fun e w' => e = .returned (.tuple #[.int .i64 0, .bool false]) /\ Below W.heap.size W w' := fun W hb => by
  have h := shift_any g B tv sm n 97 (by decide) W (hT.below hb) (by rw [hn]; decide)
  rw [hn] at h
  exact h
 have hgo : ∀ W, Below w.heap.size w W -> Calls Tryz.prog 21 #[tv, .int .i64 n, .int .i64 0] W fun e w' => e = .returned (.tuple #[.int .i64 0, .bool false]) /\ Below W.heap.size W w' := fun W hb => by
  have h := goto_any g B tv sm n 0 W (hT.below hb) (by rw [hn]; decide)
  rw [hn] at h
  exact h
 have hit : ∀ W, Below w.heap.size w W -> Calls Tryz.prog 15 #[tv, .int .i64 n] W fun e w' => ∃ a c, e = .returned (.slice a 0 c) /\ Below W.heap.size W w' := fun W hb => by
  refine (items_any g B tv sm n W (hT.below hb)).mono ?_
  rintro e w' ⟨v', rfl, h1, h2⟩
  rw [hn] at h1
  obtain ⟨a, c, rfl⟩ := own_shape h1
  exact ⟨a, c, rfl, h2⟩
 have hre : ∀ W, Below w.heap.size w W -> Calls Tryz.prog 22 #[tv, .int .i64 n] W fun e w' => ∃ a c, e = .returned (.slice a 0 c) /\ Below W.heap.size W w' := fun W hb => by
  refine (reduces_any g B tv sm n W (hT.below hb) (by rw [hn]; decide)).mono ?_
  rintro e w' ⟨v', rfl, h1, h2⟩
  rw [hn] at h1
  obtain ⟨a, c, rfl⟩ := own_shape h1
  exact ⟨a, c, rfl, h2⟩
 have hne : ∀ W, Below w.heap.size w W -> Calls Tryz.prog 25 #[tv, .int .i64 n] W fun e w' => e = .returned (.agg #[.int .u64 0, .int .u64 0, .int .u64 0, .int .u64 0]) /\ Below W.heap.size W w' := fun W hb => by
  have h := next_any g B tv sm n W (hT.below hb)
  rw [hn] at h
  exact h
 have hle : ∀ W, Below w.heap.size w W -> Calls Tryz.prog 31 #[tv, .int .i64 n] W fun e w' => e = .returned (.int .i64 0) /\ Below W.heap.size W w' := fun W hb => by
  have h := leads_any g B tv sm n W (hT.below hb)
  rw [hn] at h
  exact h
 have hal : ∀ W, Below w.heap.size w W -> Calls Tryz.prog 32 #[tv, .int .i64 n] W fun e w' => ∃ b, e = .returned (.func (.func 61) #[] #[.pointer (some ⟨b, 0, none⟩)]) /\ Blk w' b 102 #[.slice none 0 0] /\ Below W.heap.size W w' := fun W hb => by
  refine (tall_any g B tv sm n W (hT.below hb)).mono ?_
  rintro e w' ⟨b, rfl, h1, _, h2⟩
  rw [hn] at h1
  exact ⟨b, rfl, h1, h2⟩
 have H := Hd (An hsh (An hgo (An hit (An hre (An hne (An hle hal))))))
 clear hsh hgo hit hre hne hle hal hT hn
 go_enter Tryz.func19, Tryz.ntmps19
 go_wp2_with fail
 refine (H.out.1 w (Below.refl _ _)).mono ?_
 rintro e w1 ⟨rfl, hb1⟩
 have K1 := Hd hb1
 clear hb1
 go_wp2_with fail
 refine (H.out.2.1 w1 K1.out).mono ?_
 rintro e w2 ⟨rfl, hb2⟩
 have K2 := Hd (K1.out.trans (hb2.mono K1.out.size))
 clear hb2
 go_wp2_with fail
 refine (H.out.2.2.1 w2 K2.out).mono ?_
 rintro e w3 ⟨ia, ic, rfl, hb3⟩
 have K3 := Hd (K2.out.trans (hb3.mono K2.out.size))
 clear hb3
 go_wp2_with fail
 refine (H.out.2.2.2.1 w3 K3.out).mono ?_
 rintro e w4 ⟨da, dc, rfl, hb4⟩
 have K4 := Hd (K3.out.trans (hb4.mono K3.out.size))
 clear hb4
 go_wp2_with fail
 refine (H.out.2.2.2.2.1 w4 K4.out).mono ?_
 rintro e w5 ⟨rfl, hb5⟩
 have K5 := Hd (K4.out.trans (hb5.mono K4.out.size))
 clear hb5
 go_wp2_with fail
 refine (H.out.2.2.2.2.2.1 w5 K5.out).mono ?_
 rintro e w6 ⟨rfl, hb6⟩
 have K6 := Hd (K5.out.trans (hb6.mono K5.out.size))
 clear hb6
 go_wp2_with fail
 refine (H.out.2.2.2.2.2.2 w6 K6.out).mono ?_
 rintro e w7 ⟨b, rfl, hB7, hb7⟩
 have hgs := goesR_any (fun _ => True) (fun _ => True) [] (.slice none 0 0) (.slice none 0 0) 0 b w7 SliceK.nil SliceK.nil (by decide) hB7
 have K7 := Hd (K6.out.trans (hb7.mono K6.out.size))
 clear hb7 hB7
 go_wp2_with fail
 refine hgs.mono ?_
 rintro e w8 ⟨rfl, hb8⟩
 have K8 := Hd (K7.out.trans (hb8.mono K7.out.size))
 clear hb8 hgs
 go_wp2_with fail
 go_ret
 exact ⟨rfl, K8.out⟩
end Go.Proofs.YtknpkndiflodbaaGreatDoor.Tb
namespace Go.Proofs.YtknpkndiflodbaaGreatDoor.Tb
open Go Go.RowKit Go.Proofs Mx
def doneN (g : Gr) (l : List It) (i : Nat) : List Nat := ((l.take i).filter fun x => x.2 == (rightOf g x.1).length).map (·.1)
theorem doneN_all (g : Gr) (l : List It) : doneN g l l.length = doneF g l := by unfold doneN doneF; rw [List.take_length]
theorem doneN_succ (g : Gr) (l : List It) (i : Nat) {x : It} (hx : l[i]? = some x) (hok : itemOk g x = true) : doneN g l (i + 1) = if (aheadF g x).isSome then doneN g l i else doneN g l i ++ [x.1] := by
 have h1 : (x.2 == (rightOf g x.1).length) = !(aheadF g x).isSome := by
  have h2 := ((itemOk_iff g x).1 hok).2
  unfold aheadF
  cases h : (rightOf g x.1)[x.2]? with
  | none =>
   have := List.getElem?_eq_none_iff.1 h
   simp; omega
  | some s =>
   have := (List.getElem?_eq_some_iff.1 h).1
   simp; omega
 unfold doneN
 rw [List.take_add_one, hx]
 simp only [Option.toList_some, List.filter_append, List.map_append, List.filter_cons, List.filter_nil, h1]
 cases (aheadF g x).isSome <;> simp
theorem doneN_len (g : Gr) (l : List It) (i : Nat) : (doneN g l i).length <= i := by
 unfold doneN
 rw [List.length_map]
 exact Nat.le_trans (List.length_filter_le _ _) (by rw [List.length_take]; omega)
def aheadT (sv pv st fv lv : Value) (sb kg ko LL lc i pn d : Nat) (yk : Int) (yw : Int × Int × Int × Int) (ys : Int) (okb : Bool) (B : Nat) (j : Nat) (v : Value) (W : World) : Prop :=
 match j with
 | 0 => v = .agg #[sv, pv, st, fv, lv]
 | 1 => v = .pointer (some ⟨sb, 0, none⟩)
 | 2 => v = .slice (some ⟨kg, ko, none⟩) LL lc
 | 3 => v = .int .i64 (i : Int)
 | 4 => v = .pointer (some ⟨kg, ko + i * 2, none⟩)
 | 5 => v = .agg #[.int .i64 (pn : Int), .int .i64 (d : Int)]
 | 6 => v = .tuple #[.agg #[.int .i64 yk, .int .u64 yw.1, .int .u64 yw.2.1, .int .u64 yw.2.2.1, .int .u64 yw.2.2.2, .int .i64 ys], .bool okb]
 | 7 => v = .tuple #[.agg #[.int .i64 yk, .int .u64 yw.1, .int .u64 yw.2.1, .int .u64 yw.2.2.1, .int .u64 yw.2.2.2, .int .i64 ys], .bool okb]
 | 8 => v = .agg #[.int .i64 yk, .int .u64 yw.1, .int .u64 yw.2.1, .int .u64 yw.2.2.1, .int .u64 yw.2.2.2, .int .i64 ys]
 | 9 => v = .bool okb
 | 10 => ∃ b, v = .pointer (some ⟨b, 0, none⟩) /\ Blk W b 28 #[.int .i64 0, .int .u64 0, .int .u64 0, .int .u64 0, .int .u64 0, .int .i64 0] /\ B <= b
 | _ => True
theorem aheadT_stab {sv pv st fv lv : Value} {sb kg ko LL lc i pn d : Nat} {yk : Int} {yw : Int × Int × Int × Int} {ys : Int} {okb : Bool} {B : Nat} (j : Nat) (v : Value) {w w' : World} (h : aheadT sv pv st fv lv sb kg ko LL lc i pn d yk yw ys okb B j v w) (hb : Below w.heap.size w w') : aheadT sv pv st fv lv sb kg ko LL lc i pn d yk yw ys okb B j v w' := by
 unfold aheadT at h ⊢
 split at h
 all_goals first | trivial | exact h | (obtain ⟨b, e, h1, h2⟩ := h; exact ⟨b, e, h1.below hb h1.lt, h2⟩)
theorem r9reduces_any (D E : Nat -> Prop) (g : Gr) (hN : g.prods.length <= 1000) (l : List It) (hok : ∀ x ∈ l, itemOk g x = true) (hl0 : l.length <= 1000000) (w : World) (sv pv fv lv v ev : Value) (hP : ProdsAt D w pv g.prods) (hv : SliceK E encIt 2 w v l) :
  Calls Tryz.prog 50 #[.agg #[sv, pv, .int .i64 g.start, fv, lv], .agg #[v, ev]] w fun e w' => ∃ v', e = .returned v' /\ w'.ownsRow w.heap.size 3 1 v' (doneF g l).length (flatK encN (doneF g l)) /\ Below w.heap.size w w' := by
 obtain ⟨pa, pc, rfl⟩ := prodsAt_shape hP
 have HK := Hd (An hP (An hv hok))
 obtain ⟨la, lc, rfl, _, _, hlk⟩ := hv
 obtain ⟨LL, hLL⟩ : ∃ LL, l.length = LL := ⟨_, rfl⟩
 have HLL := Hd (An hLL hlk)
 rw [hLL] at hl0 ⊢
 clear hP hok hLL hlk
 go_enter Tryz.func50, Tryz.ntmps50
 go_wp2_with fail
 have hB0 : Blk ((w.alloc (.cells #[sv, .slice pa g.prods.length pc, .int .i64 g.start, fv, lv] 39)).alloc (.cells #[.slice la LL lc, ev] 62)) w.heap.size 39 #[sv, .slice pa g.prods.length pc, .int .i64 g.start, fv, lv] := (Blk.new _ _ _).alloc _
 have hB1 : Blk ((w.alloc (.cells #[sv, .slice pa g.prods.length pc, .int .i64 g.start, fv, lv] 39)).alloc (.cells #[.slice la LL lc, ev] 62)) (w.heap.size + 1) 62 #[.slice la LL lc, ev] := Blk.new_ (by simp) _ _
 have hb0 : Below w.heap.size w ((w.alloc (.cells #[sv, .slice pa g.prods.length pc, .int .i64 g.start, fv, lv] 39)).alloc (.cells #[.slice la LL lc, ev] 62)) := ((Below.refl _ w).alloc (Nat.le_refl _) _).alloc (by simp) _
 generalize ((w.alloc (.cells #[sv, .slice pa g.prods.length pc, .int .i64 g.start, fv, lv] 39)).alloc (.cells #[.slice la LL lc, ev] 62)) = W1 at hB0 hB1 hb0 ⊢
 have H1 := Hd (An hB0 (An hb0 hB1))
 clear hB0 hb0 hB1
 go_loopg [5, 6] LL (fun m v5 v6 wx => ∃ i : Nat, i <= LL /\ m = LL - i /\ v6 = .int .i64 (i : Int) /\ wx.ownsRow W1.heap.size 3 1 v5 (doneN g l i).length (flatK encN (doneN g l i)) /\ Below W1.heap.size W1 wx)
 case atStart => exact ⟨0, by omega, rfl, rfl, World.ownsRow_nil _ _ _ _, Below.refl _ _⟩
 case round =>
  obtain ⟨i, hi, hm, rfl, hown, hbx⟩ := hrel
  obtain ⟨ua, uc, rfl⟩ := own_shape hown
  have hsB := H1.out.2.2.below hbx H1.out.2.2.lt
  have s0 := hsB.cell 0
  simp at s0
  by_cases hil : i < LL
  ·obtain ⟨⟨pn, d⟩, hx⟩ : ∃ x, l[i]? = some x := ⟨_, List.getElem?_eq_getElem (by have := HLL.out.1; omega)⟩
   have hxo : itemOk g (pn, d) = true := HK.out.2.2 _ (List.mem_of_getElem? hx)
   obtain ⟨kg, ko, rfl, _, hkw⟩ := HLL.out.2 (by rintro h; rw [h] at hx; simp at hx)
   have hbw : Below w.heap.size w wr := H1.out.2.1.trans (hbx.mono H1.out.2.1.size)
   have hkr := hkw.same (hbw.block kg hkw.lt)
   have hgB := H1.out.1.below hbx H1.out.1.lt
   have hms := doneN_succ g l i hx hxo
   have hml := doneN_len g l i
   obtain ⟨ML, hML⟩ : ∃ ML, (doneN g l i).length = ML := ⟨_, rfl⟩
   rw [hML] at hown hml ⊢
   have hi0 : (0 : Int) <= (i : Int) := by omega
   have hi1 : (i : Int) < (LL : Int) := by omega
   obtain ⟨okb, hokb⟩ : ∃ b, (aheadF g (pn, d)).isSome = b := ⟨_, rfl⟩
   obtain ⟨⟨yk, yS, ys⟩, hy⟩ : ∃ y, (aheadF g (pn, d)).getD noSy = y := ⟨_, rfl⟩
   obtain ⟨y0, hy0⟩ : ∃ z, wd yS 0 = z := ⟨_, rfl⟩
   obtain ⟨y1, hy1⟩ : ∃ z, wd yS 1 = z := ⟨_, rfl⟩
   obtain ⟨y2, hy2⟩ : ∃ z, wd yS 2 = z := ⟨_, rfl⟩
   obtain ⟨y3, hy3⟩ : ∃ z, wd yS 3 = z := ⟨_, rfl⟩
   have hca : ∀ W, Below wr.heap.size wr.drew W -> Calls Tryz.prog 78 #[.agg #[sv, .slice pa g.prods.length pc, .int .i64 g.start, fv, lv], .agg #[.int .i64 (pn : Int), .int .i64 (d : Int)]] W fun e W' => e = .returned (.tuple #[.agg #[.int .i64 yk, .int .u64 y0, .int .u64 y1, .int .u64 y2, .int .u64 y3, .int .i64 ys], .bool okb]) /\ Below W.heap.size W W' := fun W h => by
    have hbW : Below wr.heap.size wr W := (show Below wr.heap.size wr wr.drew from (Below.refl _ _).drew).trans h
    have h2 := hbw.trans (hbW.mono hbw.size)
    have := r9ahead_any D g (by omega) (pn, d) hxo W sv (.slice pa g.prods.length pc) fv lv (HK.out.1.keep fun q hq hl => ⟨hq, h2.block q hl⟩)
    rw [hy, hokb] at this
    unfold symV at this
    simp only at this
    rw [hy0, hy1, hy2, hy3] at this
    exact this
   rw [hokb] at hms
   have HA := Hd (show ∀ W, Below wr.heap.size wr.drew W -> W.cell? ⟨w.heap.size, 0, none⟩ = some sv /\ W.cell? ⟨w.heap.size, 1, none⟩ = some (.slice pa g.prods.length pc) /\ W.cell? ⟨w.heap.size, 2, none⟩ = some (.int .i64 g.start) /\ W.cell? ⟨w.heap.size, 3, none⟩ = some fv /\ W.cell? ⟨w.heap.size, 4, none⟩ = some lv /\ W.cell? ⟨kg, ko + i * 2, none⟩ = some (.int .i64 (pn : Int)) /\ W.cell? ⟨kg, ko + i * 2 + 1, none⟩ = some (.int .i64 (d : Int)) /\ W.cell? ⟨w.heap.size + 1, 0, none⟩ = some (.slice (some ⟨kg, ko, none⟩) LL lc) from fun W h => by
    have hbW : Below wr.heap.size wr W := (show Below wr.heap.size wr wr.drew from (Below.refl _ _).drew).trans h
    have g0 := hgB.below hbW hgB.lt
    have k0 := hkr.cells i _ hx 0 _ rfl
    simp only [Nat.add_zero] at k0
    exact ⟨g0.cell 0, g0.cell 1, g0.cell 2, g0.cell 3, g0.cell 4, (World.cell?_of_block (hbW.block kg hkr.lt)).trans k0, (World.cell?_of_block (hbW.block kg hkr.lt)).trans (hkr.cells i _ hx 1 _ rfl), (hsB.below hbW hsB.lt).cell 0⟩)
   have Q := Hd (An hm (An hown (An hbx (An hbw (An hgB (An hsB (An hkr (An hx (An hms hML)))))))))
   clear hm hown hbx hbw hgB hsB hkr hkw hx hms hML hxo hy hokb hy0 hy1 hy2 hy3 hil
   obtain ⟨wt, rfl⟩ : ∃ wt : World, wt = wr := ⟨_, rfl⟩
   go_upto_region 5 with fail
   clear s0
   refine wp_region_concF 11 9 (aheadT sv (.slice pa g.prods.length pc) (.int .i64 g.start) fv lv (w.heap.size + 1) kg ko LL lc i pn d yk (y0, y1, y2, y3) ys okb wt.heap.size) (fun A W => Below A.heap.size A W) (by kernel_rfl) (by kernel_rfl) (by kernel_rfl) (by kernel_rfl) (Below.refl _ _) (fun h k => h.trans (k.mono h.size)) ?_ (by intro c a v w h; exact h) ?_ ?_
   ·simp only [List.take_succ_cons, List.take_zero]
    refine ⟨?_, ?_, ?_, ?_, ?_, ?_, ?_, ?_, ?_, ?_, ?_, trivial⟩
    ·intro L T W hG hJ hLs hLi dq fq vq K hK
     have h1 := fq 2 (by decide)
     simp at h1
     obtain ⟨f0, f1, f2, f3, f4, k0, k1, s0⟩ := HA.out W hG
     go_simp
     exact hK _ _ (Below.refl _ W) (fun j u _ _ _ h => h) trivial rfl
    ·intro L T W hG hJ hLs hLi dq fq vq K hK
     have h1 := fq 3 (by decide)
     simp at h1
     go_simp
     exact hK _ _ (Below.refl _ W) (fun j u _ _ _ h => h) trivial rfl
    ·intro L T W hG hJ hLs hLi dq fq vq K hK
     have h1 := vq ⟨1, .data⟩ (by simp) rfl 18 rfl
     simp only [aheadT] at h1
     simp at h1
     obtain ⟨f0, f1, f2, f3, f4, k0, k1, s0⟩ := HA.out W hG
     go_simp
     exact hK _ _ (Below.refl _ W) (fun j u _ _ _ h => h) trivial rfl
    ·intro L T W hG hJ hLs hLi dq fq vq K hK
     have h1 := fq 6 (by decide)
     simp at h1
     go_simp
     exact hK _ _ (Below.refl _ W) (fun j u _ _ _ h => h) trivial rfl
    ·intro L T W hG hJ hLs hLi dq fq vq K hK
     have h1 := vq ⟨2, .data⟩ (by simp) rfl 19 rfl
     have h2 := vq ⟨3, .data⟩ (by simp) rfl 20 rfl
     simp only [aheadT] at h1 h2
     simp at h1 h2
     go_simp
     exact hK _ _ (Below.refl _ W) (fun j u _ _ _ h => h) trivial rfl
    ·intro L T W hG hJ hLs hLi dq fq vq K hK
     have h1 := vq ⟨4, .data⟩ (by simp) rfl 21 rfl
     simp only [aheadT] at h1
     simp at h1
     obtain ⟨f0, f1, f2, f3, f4, k0, k1, s0⟩ := HA.out W hG
     go_simp
     exact hK _ _ (Below.refl _ W) (fun j u _ _ _ h => h) trivial rfl
    ·intro L T W hG hJ hLs hLi dq fq vq K hK
     have h1 := vq ⟨0, .data⟩ (by simp) rfl 17 rfl
     have h2 := vq ⟨5, .data⟩ (by simp) rfl 22 rfl
     simp only [aheadT] at h1 h2
     simp at h1 h2
     go_simp
     refine (hca W hG).mono ?_
     rintro e W2 ⟨rfl, hb2⟩
     exact hK _ _ hb2 (fun j u _ _ _ h => aheadT_stab j u h hb2) trivial rfl
    ·intro L T W hG hJ hLs hLi dq fq vq K hK
     have h1 := vq ⟨6, .data⟩ (by simp) rfl 23 rfl
     simp only [aheadT] at h1
     simp at h1
     go_simp
     exact hK _ _ (Below.refl _ W) (fun j u _ _ _ h => h) trivial rfl
    ·intro L T W hG hJ hLs hLi dq fq vq K hK
     have h1 := vq ⟨7, .data⟩ (by simp) rfl 16 rfl
     simp only [aheadT] at h1
     simp at h1
     go_simp
     exact hK _ _ (Below.refl _ W) (fun j u _ _ _ h => h) trivial rfl
    ·intro L T W hG hJ hLs hLi dq fq vq K hK
     have h1 := vq ⟨7, .data⟩ (by simp) rfl 16 rfl
     simp only [aheadT] at h1
     simp at h1
     go_simp
     exact hK _ _ (Below.refl _ W) (fun j u _ _ _ h => h) trivial rfl
    ·intro L T W hG hJ hLs hLi dq fq vq K hK
     go_simp
     have hbn := (Below.refl W.heap.size W).alloc (Nat.le_refl _) (.cells #[.int .i64 0, .int .u64 0, .int .u64 0, .int .u64 0, .int .u64 0, .int .i64 0] 28)
     exact hK _ _ hbn (fun j u _ _ _ h => aheadT_stab j u h hbn) trivial ⟨_, rfl, Blk.new W _ _, hG.size⟩
   ·intro os T W hos hv
    have h6 := hv ⟨7, .data⟩ (by simp at hos; subst hos; simp) rfl 16 rfl
    simp only [aheadT] at h6
    simp at hos
    subst hos
    refine ⟨.bool okb, .inl ⟨rfl, fun w => ?_⟩, rfl⟩
    simp [execOp, go_sem, h6]
   ·intro f9 W5 hG hR
    have e8 := hR 9 25 (by decide) rfl
    have e7 := hR 8 24 (by decide) rfl
    obtain ⟨yb, e9, k9, k10⟩ := hR 10 7 (by decide) rfl
    simp only [concDsts, List.take_succ_cons, List.take_zero, List.drop_succ_cons, List.drop_zero, List.filterMap_cons, List.filterMap_nil, List.foldl_cons, List.foldl_nil, List.setIfInBounds_toArray, List.set_cons_zero, List.set_cons_succ]
    simp only [aheadT] at e7 e8
    rw [e7, e8, e9]
    clear e7 e8 e9 hR
    generalize f9 17 = v17
    generalize f9 18 = v18
    generalize f9 19 = v19
    generalize f9 20 = v20
    generalize f9 21 = v21
    generalize f9 22 = v22
    generalize f9 23 = v23
    generalize f9 16 = v16
    clear f9
    have hbz : Below wt.heap.size W5 ((((((W5.setCell ⟨yb, 0, none⟩ (.int .i64 yk)).setCell ⟨yb, 1, none⟩ (.int .u64 y0)).setCell ⟨yb, 2, none⟩ (.int .u64 y1)).setCell ⟨yb, 3, none⟩ (.int .u64 y2)).setCell ⟨yb, 4, none⟩ (.int .u64 y3)).setCell ⟨yb, 5, none⟩ (.int .i64 ys)) := ((((((Below.refl _ _).setCell k10 _).setCell k10 _).setCell k10 _).setCell k10 _).setCell k10 _).setCell k10 _
    have hYz : Blk ((((((W5.setCell ⟨yb, 0, none⟩ (.int .i64 yk)).setCell ⟨yb, 1, none⟩ (.int .u64 y0)).setCell ⟨yb, 2, none⟩ (.int .u64 y1)).setCell ⟨yb, 3, none⟩ (.int .u64 y2)).setCell ⟨yb, 4, none⟩ (.int .u64 y3)).setCell ⟨yb, 5, none⟩ (.int .i64 ys)) yb 28 #[.int .i64 yk, .int .u64 y0, .int .u64 y1, .int .u64 y2, .int .u64 y3, .int .i64 ys] := by
     have h := ((((((k9).set_ 0 (.int .i64 yk)).set_ 1 (.int .u64 y0)).set_ 2 (.int .u64 y1)).set_ 3 (.int .u64 y2)).set_ 4 (.int .u64 y3)).set_ 5 (.int .i64 ys)
     simpa using h
    have z0 := k9.cell 0
    have z1 := k9.cell 1
    have z2 := k9.cell 2
    have z3 := k9.cell 3
    have z4 := k9.cell 4
    have z5 := k9.cell 5
    have zz := k9.frozen
    simp at z0 z1 z2 z3 z4 z5
    have HGz := Hd (An (show Below wt.heap.size wt W5 from (show Below wt.heap.size wt wt.drew from (Below.refl _ _).drew).trans hG) (An hbz (An hYz k10)))
    clear hbz hYz hG
    go_upto_region 6 with fail
    have hbz := HGz.out.1.trans HGz.out.2.1
    have hYz := HGz.out.2.2.1
    have hyb := HGz.out.2.2.2
    generalize ((((((W5.setCell ⟨yb, 0, none⟩ (.int .i64 yk)).setCell ⟨yb, 1, none⟩ (.int .u64 y0)).setCell ⟨yb, 2, none⟩ (.int .u64 y1)).setCell ⟨yb, 3, none⟩ (.int .u64 y2)).setCell ⟨yb, 4, none⟩ (.int .u64 y3)).setCell ⟨yb, 5, none⟩ (.int .i64 ys)) = wz at hbz hYz ⊢
    clear z0 z1 z2 z3 z4 z5 zz k9 k10 HGz
    have X := Hd hbz
    clear hYz hyb hca
    have s0 : wz.cell? ⟨w.heap.size + 1, 0, none⟩ = some (.slice (some ⟨kg, ko, none⟩) LL lc) := (Q.out.2.2.2.2.2.1.below hbz Q.out.2.2.2.2.2.1.lt).cell 0
    have k0 := Q.out.2.2.2.2.2.2.1.cells i _ Q.out.2.2.2.2.2.2.2.1 0 _ rfl
    simp only [Nat.add_zero] at k0
    replace k0 := (World.cell?_of_block (hbz.block kg Q.out.2.2.2.2.2.2.1.lt)).trans k0
    clear HA
    cases okb with
    | true =>
     have HSU := Hd (show doneN g l (i + 1) = doneN g l i from by rw [Q.out.2.2.2.2.2.2.2.2.1]; rfl)
     clear hbz s0 k0
     go_wp2_with fail
     go_roundg (LL - (i + 1))
     case measure => have h1 := Q.out.1; omega
     case rel => exact ⟨i + 1, by omega, rfl, rfl, by rw [HSU.out, Q.out.2.2.2.2.2.2.2.2.2]; exact row_below Q.out.2.1 X.out, Q.out.2.2.1.trans (X.out.mono Q.out.2.2.1.size)⟩
    | false =>
     have HSU := Hd (show doneN g l (i + 1) = doneN g l i ++ [pn] from by rw [Q.out.2.2.2.2.2.2.2.2.1]; rfl)
     have T := Hd (An (row_below Q.out.2.1 hbz) (Q.out.2.2.1.trans (hbz.mono Q.out.2.2.1.size)))
     have hsz := T.out.2.size
     obtain ⟨i0, hi9, hz0, hz1, hz2⟩ := info_parts infoInt2
     clear hbz
     go_wp2_with (at_builtin; go_loud (refine wpList_append_ownF _ rfl _ _ 68 rfl W1.heap.size 3 i0 (.int .i64 0) 1 8 Tryz.underlying68 hi9 hz0 hz1 hz2 rfl (by decide) _ ML _ rfl (T.out.1.alloc _) ⟨wz.heap.size, 0, none⟩ 1 1 [.int .i64 (pn : Int)] rfl rfl ?c1 ?c2 ?c3 ?c4 ?c5 ?_))
     try (case c1 => exact cells_new2 wz _ _)
     case c2 => first | (intro u hu; simp at hu; subst hu; rfl) | rfl
     case c3 => unfold maxLen; omega
     case c4 => omega
     case c5 => first | (simp; omega) | omega
     intro v' w8 hown8 hg8 hfr8
     have hb8 := (T.out.2.alloc hsz (.cells #[.int .i64 (pn : Int)] 3)).grown hg8 (by simp; omega) (fun b hb => (T.out.1.lt b hb).1)
     have ez : flatK encN (doneN g l i) ++ [.int .i64 (pn : Int)] = flatK encN (doneN g l i ++ [pn]) := by rw [<- flatK_snoc]; rfl
     rw [ez] at hown8
     have S8 := Hd (An hown8 hb8)
     clear hown8 hg8 hfr8 hb8 hi9 hz0 hz1 hz2 ez
     go_wp2_with fail
     go_roundg (LL - (i + 1))
     case measure => have h1 := Q.out.1; omega
     case rel =>
      refine ⟨i + 1, by omega, rfl, rfl, ?_, S8.out.2⟩
      rw [HSU.out, List.length_append, Q.out.2.2.2.2.2.2.2.2.2]
      exact S8.out.1
  ·obtain rfl : i = LL := by omega
   have hE : doneN g l i = doneF g l := by rw [<- HLL.out.1]; exact doneN_all _ _
   rw [hE] at hown ⊢
   have S := Hd (An hown (H1.out.2.1.trans (hbx.mono H1.out.2.1.size)))
   clear hown hbx hm hE
   go_wp2_with fail
   go_ret
   exact ⟨_, rfl, own_low S.out.1 H1.out.2.1.size, S.out.2⟩
end Go.Proofs.YtknpkndiflodbaaGreatDoor.Tb
