/- Walks and plain laws that the last text stands on: TbWorks, TbLawIt, TbItems, TbRef9A. -/
import Derived.Test.YtknpkndiflodbaaGreatDoorTs17
import Derived.Test.YtknpkndiflodbaaGreatDoorTs16
import Derived.ChangeKeysEq
import Derived.Laws.StructEq
import Derived.Deep.RegionHeld3
import Derived.Deep.RegionWith
import Derived.Deep.CutRange
import Derived.OwnWalk
import Derived.WalkMore
set_option linter.unusedVariables false
set_option linter.unusedSimpArgs false
set_option maxRecDepth 100000
set_option maxHeartbeats 16000000
namespace Go.Proofs.YtknpkndiflodbaaGreatDoor.Tb
open Go Go.RowKit Go.Proofs Go.Maps Mx
def tup (e : Sy × Nat) : Int × Nat × Int × Nat := (e.1.kind, e.1.set, e.1.sort, e.2)
def toT (p : Sy -> Bool) (l : List (Int × Nat × Int × Nat)) : Int × Bool := match l.find? (fun t => p ⟨t.1, t.2.1, t.2.2.1⟩) with | some t => ((t.2.2.2 : Int), true) | none => (0, false)
theorem toF_tup (p : Sy -> Bool) (l : List (Sy × Nat)) : toF p l = toT p (l.map tup) := by
 unfold toF toT
 rw [List.find?_map]
 have : ((fun t : Int × Nat × Int × Nat => p ⟨t.1, t.2.1, t.2.2.1⟩) ∘ tup) = fun e : Sy × Nat => p e.1 := by funext e; rfl
 rw [this]
 cases List.find? (fun e : Sy × Nat => p e.1) l <;> rfl
structure SampleSm (sm : List SM) : Prop where
 len : sm.length = 6
 leads : (stAt sm 0).edges.length = 4
 a : toF (hasByte 97) (stAt sm 0).edges = (2, true)
 b : toF (hasByte 98) (stAt sm 0).edges = (3, true)
 c : toF (isSort 0) (stAt sm 0).edges = (1, true)
 d : toF (isSort 0) (stAt sm 1).edges = (5, true)
 len1 : (stAt sm 1).edges.length = 4
 x : (stAt sm 2).done = [1]
 y : (stAt sm 3).done = [1, 2]
 z : (stAt sm 5).done = [0]
theorem sample_sm {sm : List SM} (h : makeF sampleG = some (sm.map toSt)) : SampleSm sm := by
 have h1 := sample_states
 rw [h, Option.map_some] at h1
 injection h1 with h1
 rw [List.map_map] at h1
 have hl : sm.length = 6 := by rw [<- List.length_map (f := tellSt ∘ toSt), h1]; rfl
 match sm, hl with
 | [s0, s1, s2, s3, s4, s5], _ =>
  simp only [List.map_cons, List.map_nil, Function.comp, tellSt, toSt, List.cons.injEq, Prod.mk.injEq, and_true] at h1
  obtain ⟨⟨_, e0, _⟩, ⟨_, e1, _⟩, ⟨_, _, d2⟩, ⟨_, _, d3⟩, _, ⟨_, _, d5⟩⟩ := h1
  have t0 : s0.edges.map tup = [(1, 0, 0, 1), (0, 2 ^ 97, 0, 2), (0, 2 ^ 98, 0, 3), (0, 2 ^ 99, 0, 4)] := e0
  have t1 : s1.edges.map tup = [(1, 0, 0, 5), (0, 2 ^ 97, 0, 2), (0, 2 ^ 98, 0, 3), (0, 2 ^ 99, 0, 4)] := e1
  refine ⟨rfl, ?_, ?_, ?_, ?_, ?_, ?_, d2, d3, d5⟩
  ·show s0.edges.length = 4
   rw [<- List.length_map (f := tup), t0]; rfl
  ·show toF _ s0.edges = _
   rw [toF_tup, t0]; decide +kernel
  ·show toF _ s0.edges = _
   rw [toF_tup, t0]; decide +kernel
  ·show toF _ s0.edges = _
   rw [toF_tup, t0]; decide +kernel
  ·show toF _ s1.edges = _
   rw [toF_tup, t1]; decide +kernel
  ·show s1.edges.length = 4
   rw [<- List.length_map (f := tup), t1]; rfl
theorem sample_good : Good sampleG := by
 refine ⟨by decide, by decide, by decide, ?_, ?_, ?_⟩
 ·intro p hp
  simp only [sampleG, List.mem_cons, List.not_mem_nil, or_false] at hp
  rcases hp with rfl | rfl | rfl <;> exact ⟨by decide, by decide⟩
 ·intro p hp
  simp only [sampleG, List.mem_cons, List.not_mem_nil, or_false] at hp
  rcases hp with rfl | rfl | rfl <;> decide
 ·intro p hp s hs
  simp only [sampleG, List.mem_cons, List.not_mem_nil, or_false] at hp
  rcases hp with rfl | rfl | rfl
  ·simp only [prG, List.mem_cons, List.not_mem_nil, or_false, or_self] at hs
   subst hs
   exact .inr ⟨rfl, rfl, by decide, by decide⟩
  ·simp only [prG, List.mem_cons, List.not_mem_nil, or_false] at hs
   subst hs
   exact .inl ⟨rfl, rfl, by decide +kernel, by decide +kernel⟩
  ·simp only [prG, List.mem_cons, List.not_mem_nil, or_false] at hs
   subst hs
   exact .inl ⟨rfl, rfl, by decide +kernel, by decide +kernel⟩
theorem sample_ok : GrOk sampleG := by
 have hg := sample_good
 refine ⟨⟨by decide, by decide, by decide, by decide, by decide⟩, by decide, ?_⟩
 intro p hp
 refine ⟨hg.left p hp, hg.right p hp, ?_, ?_, ?_, ?_, ?_, ?_⟩
 all_goals (first | (intro s hs; rcases hg.sym p hp s hs with h | ⟨h1, h2, h3, h4⟩) | skip)
 all_goals (simp only [sampleG, List.mem_cons, List.not_mem_nil, or_false] at hp)
 ·rcases hp with rfl | rfl | rfl <;> decide
 ·rcases hp with rfl | rfl | rfl <;> decide
 ·rcases hp with rfl | rfl | rfl <;> decide
 ·rcases hp with rfl | rfl | rfl <;> exact .inl rfl
 ·rcases hp with rfl | rfl | rfl <;> exact .inl rfl
 ·exact .inl h
 ·refine .inr ⟨h1, h2, h3, h4, ?_⟩
  rcases hp with rfl | rfl | rfl <;> decide
theorem num_any (n : Int) (w : World) : Calls Tryz.prog 11 #[.int .i64 n] w fun e w' => e = .returned (.int .i64 n) /\ w' = w := by
 go_enter Tryz.func11, Tryz.ntmps11
 go_wp2_with fail
 go_ret
 exact ⟨rfl, rfl⟩
theorem own_cell {w : World} {B n z : Nat} {e : TypeId} {v : Value} {xs : List Value} (h : w.ownsRow B e z v n xs) (hn : 0 < n) : ∃ g c, v = .slice (some ⟨g, 0, none⟩) n c /\ ∀ j u, xs[j]? = some u -> w.cell? ⟨g, j, none⟩ = some u := by
 have hc := fun g hg => h.cells (g := g) hg
 rcases h.2 with ⟨_, h2⟩ | ⟨g, cap, cur, rfl, _⟩
 ·omega
 ·refine ⟨g, cap, rfl, fun j u hu => ?_⟩
  have := hc g rfl j u hu
  rwa [addr_add, Nat.zero_add] at this
theorem works_any (w : World) (hbru : Bru w) (hLB : LB <= w.heap.size) :
  Calls Tryz.prog 8 #[] w fun e w' => e = .returned (.bool true) /\ Below w.heap.size w w' := by
 have HE := Hd (An hbru hLB)
 clear hbru hLB
 go_enter Tryz.func8, Tryz.ntmps8
 go_wp2_with fail
 refine (sample_any w).mono ?_
 rintro e w1 ⟨sv, pv, rfl, h1, h2, hb1⟩
 have hmk := make_any _ sampleG sample_good w1 sv pv none none 0 0 0 0 h1 h2 (fun W hW => check_none _ sampleG sample_ok W sv pv none none 0 0 (h1.all hW) (h2.low hW)) (HE.out.1.below hb1 HE.out.2) (Nat.le_trans HE.out.2 hb1.size)
 have H1 := Hd hb1
 clear h1 h2 hb1
 go_wp2_with fail
 refine hmk.mono ?_
 rintro e w2 hcase
 obtain ⟨tb, B, sm, hms, rfl, hT, hb2⟩ : ∃ tb B sm, makeF sampleG = some (sm.map toSt) /\ e = .returned (.tuple #[.pointer (some ⟨tb, 0, none⟩), .int .i64 0]) /\ TabW sampleG B tb sm w2 /\ Below w1.heap.size w1 w2 := by
  rcases hcase with ⟨tb, B, sm, h1, h2, h3, _, h4⟩ | ⟨h1, _⟩
  ·exact ⟨tb, B, sm, h1, h2, h3, h4⟩
  ·have := sample_states
   rw [h1] at this
   cases this
 have hS := sample_sm hms
 have hP : TabP sampleG B (.pointer (some ⟨tb, 0, none⟩)) sm w2 := .inr ⟨tb, rfl, hT⟩
 have HS := Hd hS
 have H2 := Hd (An hP (H1.out.trans (hb2.mono H1.out.size)))
 have k1 := states_any sampleG B (.pointer (some ⟨tb, 0, none⟩)) sm w2 hP
 rw [hS.len] at k1
 have k2 := leads_any sampleG B (.pointer (some ⟨tb, 0, none⟩)) sm 0 w2 hP
 rw [hS.leads] at k2
 clear hcase hmk hms hT hb2 hP hS
 go_wp2_with fail
 refine (num_any 0 w2).mono ?_
 rintro e w3 ⟨rfl, rfl⟩
 go_wp2_with fail
 refine k1.mono ?_
 rintro e w4 ⟨rfl, rfl⟩
 go_wp2_with fail
 refine (start_any _ _).mono ?_
 rintro e w5 ⟨rfl, rfl⟩
 go_wp2_with fail
 refine k2.mono ?_
 rintro e w6 ⟨rfl, hb6⟩
 have hP6 := H2.out.1.below hb6
 have H6 := Hd (An hP6 (H2.out.2.trans (hb6.mono H2.out.2.size)))
 have k3 := shift_any sampleG B (.pointer (some ⟨tb, 0, none⟩)) sm 0 97 (by decide) w6 hP6 (by rw [HS.out.leads]; decide)
 rw [HS.out.a] at k3
 clear k1 k2 hb6 hP6 H2
 go_wp2_with fail
 refine k3.mono ?_
 rintro e w7 ⟨rfl, hb7⟩
 have hP7 := H6.out.1.below hb7
 have H7 := Hd (An hP7 (H6.out.2.trans (hb7.mono H6.out.2.size)))
 have k4 := shift_any sampleG B (.pointer (some ⟨tb, 0, none⟩)) sm 0 98 (by decide) w7 hP7 (by rw [HS.out.leads]; decide)
 rw [HS.out.b] at k4
 clear k3 hb7 hP7 H6
 go_wp2_with fail
 refine k4.mono ?_
 rintro e w8 ⟨rfl, hb8⟩
 have hP8 := H7.out.1.below hb8
 have H8 := Hd (An hP8 (H7.out.2.trans (hb8.mono H7.out.2.size)))
 have k5 := goto_any sampleG B (.pointer (some ⟨tb, 0, none⟩)) sm 0 0 w8 hP8 (by rw [HS.out.leads]; decide)
 rw [HS.out.c] at k5
 clear k4 hb8 hP8 H7
 go_wp2_with fail
 refine k5.mono ?_
 rintro e w9 ⟨rfl, hb9⟩
 have hP9 := H8.out.1.below hb9
 have H9 := Hd (An hP9 (H8.out.2.trans (hb9.mono H8.out.2.size)))
 have k6 := goto_any sampleG B (.pointer (some ⟨tb, 0, none⟩)) sm 1 0 w9 hP9 (by rw [HS.out.len1]; decide)
 rw [HS.out.d] at k6
 clear k5 hb9 hP9 H8
 go_wp2_with fail
 refine k6.mono ?_
 rintro e w10 ⟨rfl, hb10⟩
 have hP10 := H9.out.1.below hb10
 have H10 := Hd (An hP10 (H9.out.2.trans (hb10.mono H9.out.2.size)))
 have k7 := reduces_any sampleG B (.pointer (some ⟨tb, 0, none⟩)) sm 2 w10 hP10 (by rw [HS.out.x]; decide)
 rw [HS.out.x] at k7
 clear k6 hb10 hP10 H9
 go_wp2_with fail
 refine k7.mono ?_
 rintro e w11 ⟨v11, rfl, ho11, hb11⟩
 obtain ⟨g11, c11, rfl, hx⟩ := own_cell ho11 (by decide)
 have hg11 := (ho11.lt g11 rfl).2
 have x0 := hx 0 _ rfl
 have hP11 := H10.out.1.below hb11
 have H11 := Hd (An hP11 (H10.out.2.trans (hb11.mono H10.out.2.size)))
 have k8 := reduces_any sampleG B (.pointer (some ⟨tb, 0, none⟩)) sm 3 w11 hP11 (by rw [HS.out.y]; decide)
 rw [HS.out.y] at k8
 clear k7 hb11 hP11 H10 ho11 hx
 go_wp2_with fail
 refine k8.mono ?_
 rintro e w12 ⟨v12, rfl, ho12, hb12⟩
 obtain ⟨g12, c12, rfl, hy⟩ := own_cell ho12 (by decide)
 have x1 := (hb12.cell (p := ⟨g11, 0, none⟩) hg11).trans x0
 have hP12 := H11.out.1.below hb12
 have H12 := Hd (An hP12 (H11.out.2.trans (hb12.mono H11.out.2.size)))
 have k9 := reduces_any sampleG B (.pointer (some ⟨tb, 0, none⟩)) sm 5 w12 hP12 (by rw [HS.out.z]; decide)
 rw [HS.out.z] at k9
 have hg12 : g11 < w12.heap.size := Nat.lt_of_lt_of_le hg11 hb12.size
 clear k8 hb12 hP12 H11 ho12 hy hg11 x0
 go_wp2_with fail
 refine k9.mono ?_
 rintro e w13 ⟨v13, rfl, ho13, hb13⟩
 obtain ⟨g13, c13, rfl, hz⟩ := own_cell ho13 (by decide)
 have x2 := (hb13.cell (p := ⟨g11, 0, none⟩) hg12).trans x1
 have z0 := hz 0 _ rfl
 have hP13 := H12.out.1.below hb13
 have H13 := Hd (H12.out.2.trans (hb13.mono H12.out.2.size))
 have k10 := tall_any sampleG B (.pointer (some ⟨tb, 0, none⟩)) sm 0 w13 hP13
 clear k9 hb13 hP13 H12 ho13 hz hg12 x1
 go_wp2_with fail
 have hnf : ∀ (b : Nat) (w : World), (binOp .neq 84 (.func (.func 61) #[] #[.pointer (some ⟨b, 0, none⟩)]) .nilFunc).run Tryz.prog w = .ok (.bool true) w := fun _ _ => by kernel_rfl
 refine k10.mono ?_
 rintro e w14 ⟨b14, rfl, _, _, hb14⟩
 have H14 := Hd (H13.out.trans (hb14.mono H13.out.size))
 clear k10 hb14 H13
 go_wp2_with fail
 go_ret
 exact ⟨rfl, H14.out⟩
theorem good_of {g : Gr} {w : World} {N : Nat} {sv pv fv lv : Value} (hG : GramAt w N g sv pv fv lv) (hv : vastB g = false) (hc : chkN g = 0) : Good g := by
 have hck : checkB g = true := by
  unfold chkN at hc
  split at hc
  ·assumption
  ·exact absurd hc (by decide)
 unfold checkB at hck
 simp only [Bool.and_eq_true] at hck
 obtain ⟨⟨⟨h1, h2⟩, h3⟩, h4⟩ := hck
 have hs := (sortsB_iff g).1 h1
 unfold prodsB at h2
 simp only [Bool.and_eq_true, List.all_eq_true] at h2
 have hp30 : g.prods.length <= 30 := by
  unfold vastB at hv
  simp at hv
  omega
 have hpr : ∀ p ∈ g.prods, headB g p = true /\ ∀ s ∈ p.right, symB g p.role s = true := fun p hp => by
  have := h2.1 p hp
  unfold prodB at this
  simp only [Bool.and_eq_true, List.all_eq_true] at this
  exact this
 refine ⟨by omega, hs.many, hs.start, fun p hp => ?_, fun p hp => ?_, fun p hp s hsm => ?_⟩
 ·have h := (hpr p hp).1
  unfold headB inB at h
  simp at h
  exact h.1.1.1.1.1.1.1
 ·have h := (hpr p hp).1
  unfold headB inB at h
  simp at h
  have := h.1.1.1.1.1.1.2
  omega
 ·have h := (hpr p hp).2 s hsm
  have hok := ((hG.ok p hp).2.2.1 s hsm)
  rcases sym_arms g p.role s with ⟨hh, _⟩ | ⟨hh, _⟩ | ⟨hh, a, b, c⟩ | ⟨hh, _⟩ | ⟨hh, _⟩ | ⟨hh, _⟩ | ⟨hh, a, b, c, d⟩ | ⟨hh, _⟩
  all_goals first | (rw [h] at hh; cases hh; done) | skip
  ·exact .inl ⟨a, c, b, hok.1⟩
  ·unfold inB at c
   simp at c
   exact .inr ⟨a, b, c.1, c.2⟩
theorem eqIt (a b c d : Int) (w : World) : (Op.equalIn 10000 53 (.agg #[.int .i64 a, .int .i64 b]) (.agg #[.int .i64 c, .int .i64 d])).run Tryz.prog w = .ok (decide (a = c) && decide (b = d)) w := by
 have hf : (Tryz.prog.fieldsOf 53).toList.map (fun f => (f.name, f.type, f.offset)) = [("Prod", 3, 0), ("Dot", 3, 1)] := by kernel_rfl
 rw [show (10000 : Nat) = 9999 + 1 from rfl, run_equalIn_struct w 9999 _ _ _ (by kernel_rfl) (by kernel_rfl)]
 generalize (Tryz.prog.fieldsOf 53).toList = fs at hf ⊢
 match fs, hf with
 | [⟨m0, y0, o0, _, _, _, _⟩, ⟨m1, y1, o1, _, _, _, _⟩], hf =>
  simp only [List.map_cons, List.map_nil, List.cons.injEq, Prod.mk.injEq, and_true] at hf
  obtain ⟨⟨rfl, rfl, rfl⟩, ⟨rfl, rfl, rfl⟩⟩ := hf
  have hp : ∀ (xs : Array Value) (k : Nat) (v : Value) (w : World), xs[k]? = some v -> (part 3 xs k).run Tryz.prog w = .ok v w := by
   intro xs k v w h
   simp [part, isAgg, run_underlying Tryz.underlying3, go_sem, h]
  have q0 : ∀ (v0 v1 : Value) (w : World), (part 3 #[v0, v1] 0).run Tryz.prog w = .ok v0 w := fun _ _ w => hp _ 0 _ w rfl
  have q1 : ∀ (v0 v1 : Value) (w : World), (part 3 #[v0, v1] 1).run Tryz.prog w = .ok v1 w := fun _ _ w => hp _ 1 _ w rfl
  have e1 : ∀ (a b : Int) (w : World), (Op.equalIn 9999 3 (.int .i64 a) (.int .i64 b)).run Tryz.prog w = .ok (a == b) w := fun a b w => run_equalIn_int w 9998 _ .i64 .i64 a b Tryz.underlying3
  by_cases h0 : a = c
  ·by_cases h1 : b = d <;> simp [Op.eqFields, Sem.run_bind, Result.andThen_ok, q0, q1, e1, h0, h1]
  ·simp [Op.eqFields, Sem.run_bind, Result.andThen_ok, q0, q1, e1, h0]
theorem eql_item (a b c d : Int) (w : World) : (binOp .eql 53 (.agg #[.int .i64 a, .int .i64 b]) (.agg #[.int .i64 c, .int .i64 d])).run Tryz.prog w = .ok (.bool (decide (a = c) && decide (b = d))) w := by
 rw [run_eql_struct, eqIt]; rfl
end Go.Proofs.YtknpkndiflodbaaGreatDoor.Tb
namespace Go.Proofs.YtknpkndiflodbaaGreatDoor.Tb
open Go Go.RowKit Go.Proofs Mx
theorem r9has_any (D : Nat -> Prop) (l : List It) (hl : l.length <= 2000000) (v : Value) (x : It) (w : World) (hv : SliceK D encIt 2 w v l) :
  Calls Tryz.prog 79 #[v, .agg #[.int .i64 (x.1 : Int), .int .i64 (x.2 : Int)]] w fun e w' => e = .returned (.bool (decide (x ∈ l))) /\ Below w.heap.size w w' := by
 obtain ⟨a, c, rfl, _, _, hk⟩ := hv
 obtain ⟨p, d⟩ := x
 have HK := Hd hk
 clear hk
 simp only
 go_enter Tryz.func79, Tryz.ntmps79
 go_wp2_with fail
 have hX : Blk (w.alloc (.cells #[.int .i64 (p : Int), .int .i64 (d : Int)] 53)) w.heap.size 53 #[.int .i64 (p : Int), .int .i64 (d : Int)] := Blk.new _ _ _
 have hb1 : Below w.heap.size w (w.alloc (.cells #[.int .i64 (p : Int), .int .i64 (d : Int)] 53)) := (Below.refl _ w).alloc (Nat.le_refl _) _
 generalize (w.alloc (.cells #[.int .i64 (p : Int), .int .i64 (d : Int)] 53)) = w1 at hX hb1 ⊢
 have A := Hd (An hX hb1)
 clear hX hb1
 go_loopg [5] l.length (fun m v5 wx => ∃ i q : Nat, i <= l.length /\ m = l.length - i /\ v5 = .int .i64 (i : Int) /\ (p, d) ∉ l.take i /\ wx = w1.drewN q)
 case atStart => exact ⟨0, 0, by omega, rfl, rfl, by simp, rfl⟩
 case round =>
  obtain ⟨i, q, hi, hm, rfl, hno, rfl⟩ := hrel
  by_cases hil : i < l.length
  ·obtain ⟨⟨n1, d1⟩, hx⟩ : ∃ x, l[i]? = some x := ⟨_, List.getElem?_eq_getElem hil⟩
   obtain ⟨kg, ko, rfl, _, hkr⟩ := HK.out (by rintro h; rw [h] at hil; simp at hil)
   have c0 : (w1.drewN q).cell? ⟨kg, ko + i * 2, none⟩ = some (.int .i64 (n1 : Int)) := (World.cell?_of_block (A.out.2.block kg hkr.lt)).trans (by have := hkr.cells i _ hx 0 _ rfl; simpa using this)
   have c1 : (w1.drewN q).cell? ⟨kg, ko + i * 2 + 1, none⟩ = some (.int .i64 (d1 : Int)) := (World.cell?_of_block (A.out.2.block kg hkr.lt)).trans (hkr.cells i _ hx 1 _ rfl)
   have x0 : (w1.drewN q).cell? ⟨w.heap.size, 0, none⟩ = some (.int .i64 (p : Int)) := A.out.1.cell 0
   have x1 : (w1.drewN q).cell? ⟨w.heap.size, 1, none⟩ = some (.int .i64 (d : Int)) := A.out.1.cell 1
   have hil1 : (i : Int) < (l.length : Int) := by omega
   have hi0 : (0 : Int) <= (i : Int) := by omega
   have hqe := eql_item n1 d1 p d
   have hbq := below_drewN A.out.2 q
   have HM := Hd (An hm (An hno (An hx hbq)))
   generalize hwq : w1.drewN q = wq at c0 c1 x0 x1 ⊢
   have HQ := Hd hwq
   clear hm hno hx hkr hbq hwq
   go_upto_region 4 with fail
   go_quiet (fail)
   by_cases h : n1 = p /\ d1 = d
   ·have h1 : (n1 : Int) = (p : Int) := by omega
    have h2 : (d1 : Int) = (d : Int) := by omega
    have HB := Hd (An HM.out.2.2.2 (show decide ((p, d) ∈ l) = true from decide_eq_true (by rw [<- h.1, <- h.2]; exact List.mem_of_getElem? HM.out.2.2.1)))
    clear h
    go_wp2_with fail
    go_ret
    refine ⟨by rw [HB.out.2]; rfl, below_drewN ?_ _⟩
    rw [<- HQ.out]
    exact HB.out.1
   ·have HN := Hd h
    by_cases h1 : n1 = p
    ·have h2 : ¬ ((d1 : Int) = (d : Int)) := fun e => h ⟨h1, by omega⟩
     clear h
     go_wp2_with fail
     go_roundg (l.length - (i + 1))
     case measure => have := HM.out.1; omega
     case rel =>
      refine ⟨i + 1, _, by omega, rfl, rfl, ?_, by rw [<- HQ.out, World.drewN_drewN]⟩
      rw [List.take_add_one, HM.out.2.2.1]
      intro h
      rcases List.mem_append.1 h with h | h
      ·exact HM.out.2.1 h
      ·simp at h; exact HN.out ⟨h.1.symm, h.2.symm⟩
    ·have h2 : ¬ ((n1 : Int) = (p : Int)) := by omega
     clear h
     go_wp2_with fail
     go_roundg (l.length - (i + 1))
     case measure => have := HM.out.1; omega
     case rel =>
      refine ⟨i + 1, _, by omega, rfl, rfl, ?_, by rw [<- HQ.out, World.drewN_drewN]⟩
      rw [List.take_add_one, HM.out.2.2.1]
      intro h
      rcases List.mem_append.1 h with h | h
      ·exact HM.out.2.1 h
      ·simp at h; exact HN.out ⟨h.1.symm, h.2.symm⟩
  ·obtain rfl : i = l.length := by omega
   rw [List.take_length] at hno
   have HB := Hd (An (below_drewN A.out.2 q) (show decide ((p, d) ∈ l) = false from decide_eq_false hno))
   clear hm hno
   go_wp2_with fail
   go_ret
   exact ⟨by rw [HB.out.2]; rfl, HB.out.1⟩
theorem neq_item (a b c d : Int) (w : World) : (binOp .neq 53 (.agg #[.int .i64 a, .int .i64 b]) (.agg #[.int .i64 c, .int .i64 d])).run Tryz.prog w = .ok (.bool (!(decide (a = c) && decide (b = d)))) w := by
 rw [run_neq_struct, eqIt]; rfl
theorem r9same_any (D E : Nat -> Prop) (l k : List It) (hl : l.length <= 2000000) (hk : k.length <= 2000000) (v u : Value) (w : World) (hv : SliceK D encIt 2 w v l) (hu : SliceK E encIt 2 w u k) :
  Calls Tryz.prog 48 #[v, u] w fun e w' => e = .returned (.bool (decide (l = k))) /\ Below w.heap.size w w' := by
 obtain ⟨a, c, rfl, _, _, ha⟩ := hv
 obtain ⟨b, d, rfl, _, _, hb⟩ := hu
 have HK := Hd (An ha hb)
 clear ha hb
 by_cases hlen : l.length = k.length
 ·obtain ⟨n, hn⟩ : ∃ n, l.length = n := ⟨_, rfl⟩
  have hkn : k.length = n := by omega
  rw [hn] at hl ⊢
  rw [hkn]
  have HL := Hd (An hn hkn)
  clear hlen hn hkn hk
  go_enter Tryz.func48, Tryz.ntmps48
  go_wp2_with fail
  go_loopg [5] n (fun m v5 wx => ∃ i q : Nat, i <= n /\ m = n - i /\ v5 = .int .i64 (i : Int) /\ l.take i = k.take i /\ wx = w.drewN q)
  case atStart => exact ⟨0, 0, by omega, rfl, rfl, by simp, rfl⟩
  case round =>
   obtain ⟨i, q, hi, hm, rfl, hsame, rfl⟩ := hrel
   by_cases hil : i < n
   ·obtain ⟨⟨n1, d1⟩, hx⟩ : ∃ x, l[i]? = some x := ⟨_, List.getElem?_eq_getElem (by rw [HL.out.1]; exact hil)⟩
    obtain ⟨⟨n2, d2⟩, hy⟩ : ∃ x, k[i]? = some x := ⟨_, List.getElem?_eq_getElem (by rw [HL.out.2]; exact hil)⟩
    obtain ⟨kg, ko, rfl, _, hkr⟩ := HK.out.1 (by rintro h; rw [h] at hx; simp at hx)
    obtain ⟨mg, mo, rfl, _, hmr⟩ := HK.out.2 (by rintro h; rw [h] at hy; simp at hy)
    have c0 : (w.drewN q).cell? ⟨kg, ko + i * 2, none⟩ = some (.int .i64 (n1 : Int)) := by have := hkr.cells i _ hx 0 _ rfl; simpa using this
    have c1 : (w.drewN q).cell? ⟨kg, ko + i * 2 + 1, none⟩ = some (.int .i64 (d1 : Int)) := hkr.cells i _ hx 1 _ rfl
    have m0 : (w.drewN q).cell? ⟨mg, mo + i * 2, none⟩ = some (.int .i64 (n2 : Int)) := by have := hmr.cells i _ hy 0 _ rfl; simpa using this
    have m1 : (w.drewN q).cell? ⟨mg, mo + i * 2 + 1, none⟩ = some (.int .i64 (d2 : Int)) := hmr.cells i _ hy 1 _ rfl
    have hil1 : (i : Int) < (n : Int) := by omega
    have hi0 : (0 : Int) <= (i : Int) := by omega
    have HM := Hd (An hm (An hsame (An hx hy)))
    generalize hwq : w.drewN q = wq at c0 c1 m0 m1 ⊢
    have HQ := Hd hwq
    clear hm hsame hx hy hkr hmr hwq
    by_cases h : n1 = n2 /\ d1 = d2
    ·obtain ⟨h1, h2⟩ := h
     subst h1
     subst h2
     have hqe : ∀ W, (binOp .neq 53 (.agg #[.int .i64 (n1 : Int), .int .i64 (d1 : Int)]) (.agg #[.int .i64 (n1 : Int), .int .i64 (d1 : Int)])).run Tryz.prog W = .ok (.bool false) W := fun W => by rw [neq_item]; simp
     go_upto_region 6 with fail
     go_quiet (fail)
     go_wp2_with fail
     go_roundg (n - (i + 1))
     case measure => have := HM.out.1; omega
     case rel =>
      refine ⟨i + 1, _, by omega, rfl, rfl, ?_, by rw [<- HQ.out, World.drewN_drewN]⟩
      rw [List.take_add_one, List.take_add_one, HM.out.2.2.1, HM.out.2.2.2, HM.out.2.1]
    ·have HN := Hd (show decide (l = k) = false from decide_eq_false fun e => by
      have h1 := HM.out.2.2.1
      rw [e, HM.out.2.2.2] at h1
      injection h1 with h1
      injection h1 with h2 h3
      exact h ⟨h2.symm, h3.symm⟩)
     have hqe : ∀ W, (binOp .neq 53 (.agg #[.int .i64 (n1 : Int), .int .i64 (d1 : Int)]) (.agg #[.int .i64 (n2 : Int), .int .i64 (d2 : Int)])).run Tryz.prog W = .ok (.bool true) W := fun W => by
      rw [neq_item]
      have e : (decide ((n1 : Int) = (n2 : Int)) && decide ((d1 : Int) = (d2 : Int))) = false := by
       by_cases h1 : n1 = n2
       ·have h2 : ¬ ((d1 : Int) = (d2 : Int)) := fun e => h ⟨h1, by omega⟩
        simp [h2]
       ·have h2 : ¬ ((n1 : Int) = (n2 : Int)) := by omega
        simp [h2]
      rw [e]; rfl
     clear h
     go_upto_region 6 with fail
     go_quiet (fail)
     go_wp2_with fail
     go_ret
     refine ⟨by rw [HN.out]; rfl, below_drewN ?_ _⟩
     rw [<- HQ.out]
     exact below_drewN (Below.refl _ _) _
   ·obtain rfl : i = n := by omega
    have HB := Hd (show decide (l = k) = true from decide_eq_true (by rw [List.take_of_length_le (by have := HL.out.1; omega), List.take_of_length_le (by have := HL.out.2; omega)] at hsame; exact hsame))
    clear hm hsame
    go_wp2_with fail
    go_ret
    exact ⟨by rw [HB.out]; rfl, below_drewN (Below.refl _ _) _⟩
 ·have HN := Hd (show decide (l = k) = false from decide_eq_false fun e => hlen (by rw [e]))
  have h1 : ((l.length : Int) != (k.length : Int)) = true := by simp only [bne_iff_ne, ne_eq]; omega
  clear hlen
  go_enter Tryz.func48, Tryz.ntmps48
  go_wp2_with fail
  go_ret
  exact ⟨by rw [HN.out]; rfl, Below.refl _ _⟩
def noSy : Sy := ⟨0, 0, 0⟩
theorem r9ahead_any (D : Nat -> Prop) (g : Gr) (hN : g.prods.length <= 2000000) (x : It) (hx : itemOk g x = true) (w : World) (sv pv fv lv : Value) (hP : ProdsAt D w pv g.prods) :
  Calls Tryz.prog 78 #[.agg #[sv, pv, .int .i64 g.start, fv, lv], .agg #[.int .i64 (x.1 : Int), .int .i64 (x.2 : Int)]] w fun e w' => e = .returned (.tuple #[symV ((aheadF g x).getD noSy), .bool (aheadF g x).isSome]) /\ Below w.heap.size w w' := by
 obtain ⟨pa, pc, rfl⟩ := prodsAt_shape hP
 obtain ⟨n, d⟩ := x
 have hx2 := (itemOk_iff g (n, d)).1 hx
 obtain ⟨p, hp⟩ : ∃ p, g.prods[n]? = some p := ⟨_, List.getElem?_eq_getElem hx2.1⟩
 obtain ⟨cap, b, o, vr, epv, hbl, hvr, hpc⟩ := hP.at_ hp
 injection epv with e1 e2 e3
 subst e1
 subst e3
 obtain ⟨ra, rc, rfl, hrc1, hrc2, hrk⟩ := hvr
 have f1 := hpc 1 _ rfl
 have hr : rightOf g n = p.right := by unfold rightOf; rw [hp]; rfl
 have hd : d <= p.right.length := by have := hx2.2; simp only at this; rw [hr] at this; exact this
 have hah : aheadF g (n, d) = p.right[d]? := by unfold aheadF; rw [hr]
 have hn0 : (0 : Int) <= (n : Int) := by omega
 have hn1 : (n : Int) < (g.prods.length : Int) := by have := hx2.1; simp only at this; omega
 have hd0 : (0 : Int) <= (d : Int) := by omega
 rw [hah]
 have HK := Hd (An hrk hbl)
 clear hpc hrk hP hx2 hx hr hah hp e2
 simp only
 go_enter Tryz.func78, Tryz.ntmps78
 go_upto_region 1 with fail
 have hB0 : Blk (((w.alloc (.cells #[sv, .slice (some ⟨b, o, none⟩) g.prods.length pc, .int .i64 g.start, fv, lv] 39)).alloc (.cells #[.int .i64 (n : Int), .int .i64 (d : Int)] 53)).alloc (.cells #[.int .i64 0, .int .u64 0, .int .u64 0, .int .u64 0, .int .u64 0, .int .i64 0] 28)) w.heap.size 39 #[sv, .slice (some ⟨b, o, none⟩) g.prods.length pc, .int .i64 g.start, fv, lv] := ((Blk.new _ _ _).alloc _).alloc _
 have hB1 : Blk (((w.alloc (.cells #[sv, .slice (some ⟨b, o, none⟩) g.prods.length pc, .int .i64 g.start, fv, lv] 39)).alloc (.cells #[.int .i64 (n : Int), .int .i64 (d : Int)] 53)).alloc (.cells #[.int .i64 0, .int .u64 0, .int .u64 0, .int .u64 0, .int .u64 0, .int .i64 0] 28)) (w.heap.size + 1) 53 #[.int .i64 (n : Int), .int .i64 (d : Int)] := (Blk.new_ (by simp) _ _).alloc _
 have hB2 : Blk (((w.alloc (.cells #[sv, .slice (some ⟨b, o, none⟩) g.prods.length pc, .int .i64 g.start, fv, lv] 39)).alloc (.cells #[.int .i64 (n : Int), .int .i64 (d : Int)] 53)).alloc (.cells #[.int .i64 0, .int .u64 0, .int .u64 0, .int .u64 0, .int .u64 0, .int .i64 0] 28)) (w.heap.size + 1 + 1) 28 #[.int .i64 0, .int .u64 0, .int .u64 0, .int .u64 0, .int .u64 0, .int .i64 0] := Blk.new_ (by simp) _ _
 have hb1 : Below w.heap.size w (((w.alloc (.cells #[sv, .slice (some ⟨b, o, none⟩) g.prods.length pc, .int .i64 g.start, fv, lv] 39)).alloc (.cells #[.int .i64 (n : Int), .int .i64 (d : Int)] 53)).alloc (.cells #[.int .i64 0, .int .u64 0, .int .u64 0, .int .u64 0, .int .u64 0, .int .i64 0] 28)) := (((Below.refl w.heap.size w).alloc (Nat.le_refl _) _).alloc (by simp) _).alloc (by simp; omega) _
 generalize (((w.alloc (.cells #[sv, .slice (some ⟨b, o, none⟩) g.prods.length pc, .int .i64 g.start, fv, lv] 39)).alloc (.cells #[.int .i64 (n : Int), .int .i64 (d : Int)] 53)).alloc (.cells #[.int .i64 0, .int .u64 0, .int .u64 0, .int .u64 0, .int .u64 0, .int .i64 0] 28)) = W1 at hB0 hB1 hB2 hb1 ⊢
 have f1 := (World.cell?_of_block (hb1.block b HK.out.2)).trans f1
 have g1 := hB0.cell 1
 have i0 := hB1.cell 0
 have i1 := hB1.cell 1
 have s0 := hB2.cell 0
 have s1 := hB2.cell 1
 have s2 := hB2.cell 2
 have s3 := hB2.cell 3
 have s4 := hB2.cell 4
 have s5 := hB2.cell 5
 have ff := hB2.frozen
 simp at g1 i0 i1 s0 s1 s2 s3 s4 s5
 have H1 := Hd (An hB2 hb1)
 clear hB0 hB1 hB2 hb1
 have hfin : ∀ (v0 v1 v2 v3 v4 v5 : Value), Blk ((((((W1.setCell ⟨w.heap.size + 1 + 1, 0, none⟩ v0).setCell ⟨w.heap.size + 1 + 1, 1, none⟩ v1).setCell ⟨w.heap.size + 1 + 1, 2, none⟩ v2).setCell ⟨w.heap.size + 1 + 1, 3, none⟩ v3).setCell ⟨w.heap.size + 1 + 1, 4, none⟩ v4).setCell ⟨w.heap.size + 1 + 1, 5, none⟩ v5) (w.heap.size + 1 + 1) 28 #[v0, v1, v2, v3, v4, v5] /\ Below w.heap.size w ((((((W1.setCell ⟨w.heap.size + 1 + 1, 0, none⟩ v0).setCell ⟨w.heap.size + 1 + 1, 1, none⟩ v1).setCell ⟨w.heap.size + 1 + 1, 2, none⟩ v2).setCell ⟨w.heap.size + 1 + 1, 3, none⟩ v3).setCell ⟨w.heap.size + 1 + 1, 4, none⟩ v4).setCell ⟨w.heap.size + 1 + 1, 5, none⟩ v5) := fun v0 v1 v2 v3 v4 v5 => by
  refine ⟨?_, ?_⟩
  ·have h := (((((H1.out.1.set_ 0 v0).set_ 1 v1).set_ 2 v2).set_ 3 v3).set_ 4 v4).set_ 5 v5
   simpa using h
  ·refine (((((H1.out.2.setCell ?_ _).setCell ?_ _).setCell ?_ _).setCell ?_ _).setCell ?_ _).setCell ?_ _ <;> (simp; try omega)
 have HF := Hd hfin
 clear hfin
 by_cases hdl : d < p.right.length
 ·obtain ⟨y, hy⟩ : ∃ y, p.right[d]? = some y := ⟨_, List.getElem?_eq_getElem hdl⟩
  obtain ⟨rb, ro, rfl, _, hrr⟩ := HK.out.1 (by rintro h; rw [h] at hdl; simp at hdl)
  have up : ∀ {i : Nat} {u : Value}, w.cell? ⟨rb, i, none⟩ = some u -> W1.cell? ⟨rb, i, none⟩ = some u := fun h => (World.cell?_of_block (H1.out.2.block rb hrr.lt)).trans h
  have r0 := up (hrr.cells d _ hy 0 _ rfl)
  have r1 := up (hrr.cells d _ hy 1 _ rfl)
  have r2 := up (hrr.cells d _ hy 2 _ rfl)
  have r3 := up (hrr.cells d _ hy 3 _ rfl)
  have r4 := up (hrr.cells d _ hy 4 _ rfl)
  have r5 := up (hrr.cells d _ hy 5 _ rfl)
  simp only [Nat.add_zero] at r0
  have hd1 : (d : Int) < (p.right.length : Int) := by omega
  have HY := Hd hy
  clear up hrr hy hdl
  go_wp2_with fail
  obtain ⟨hbk, hbb⟩ := HF.out (.int .i64 y.kind) (.int .u64 (wd y.set 0)) (.int .u64 (wd y.set 1)) (.int .u64 (wd y.set 2)) (.int .u64 (wd y.set 3)) (.int .i64 y.sort)
  generalize ((((((W1.setCell ⟨w.heap.size + 1 + 1, 0, none⟩ (.int .i64 y.kind)).setCell ⟨w.heap.size + 1 + 1, 1, none⟩ (.int .u64 (wd y.set 0))).setCell ⟨w.heap.size + 1 + 1, 2, none⟩ (.int .u64 (wd y.set 1))).setCell ⟨w.heap.size + 1 + 1, 3, none⟩ (.int .u64 (wd y.set 2))).setCell ⟨w.heap.size + 1 + 1, 4, none⟩ (.int .u64 (wd y.set 3))).setCell ⟨w.heap.size + 1 + 1, 5, none⟩ (.int .i64 y.sort)) = Wz at hbk hbb ⊢
  have z0 := hbk.cell 0
  have z1 := hbk.cell 1
  have z2 := hbk.cell 2
  have z3 := hbk.cell 3
  have z4 := hbk.cell 4
  have z5 := hbk.cell 5
  simp at z0 z1 z2 z3 z4 z5
  refine bodyPost_ret (v := .tuple #[.agg #[.int .i64 y.kind, .int .u64 (wd y.set 0), .int .u64 (wd y.set 1), .int .u64 (wd y.set 2), .int .u64 (wd y.set 3), .int .i64 y.sort], .bool true]) (by simp [results, Tryz.results78, go_sem, z0, z1, z2, z3, z4, z5]) rfl ⟨?_, hbb⟩
  rw [HY.out]; rfl
 ·have hd1 : ¬ (d : Int) < (p.right.length : Int) := by omega
  have HY := Hd (show p.right[d]? = none from List.getElem?_eq_none (by omega))
  clear hdl
  go_wp2_with fail
  obtain ⟨hbk, hbb⟩ := HF.out (.int .i64 0) (.int .u64 0) (.int .u64 0) (.int .u64 0) (.int .u64 0) (.int .i64 0)
  generalize ((((((W1.setCell ⟨w.heap.size + 1 + 1, 0, none⟩ (.int .i64 0)).setCell ⟨w.heap.size + 1 + 1, 1, none⟩ (.int .u64 0)).setCell ⟨w.heap.size + 1 + 1, 2, none⟩ (.int .u64 0)).setCell ⟨w.heap.size + 1 + 1, 3, none⟩ (.int .u64 0)).setCell ⟨w.heap.size + 1 + 1, 4, none⟩ (.int .u64 0)).setCell ⟨w.heap.size + 1 + 1, 5, none⟩ (.int .i64 0)) = Wz at hbk hbb ⊢
  have z0 := hbk.cell 0
  have z1 := hbk.cell 1
  have z2 := hbk.cell 2
  have z3 := hbk.cell 3
  have z4 := hbk.cell 4
  have z5 := hbk.cell 5
  simp at z0 z1 z2 z3 z4 z5
  refine bodyPost_ret (v := .tuple #[.agg #[.int .i64 0, .int .u64 0, .int .u64 0, .int .u64 0, .int .u64 0, .int .i64 0], .bool false]) (by simp [results, Tryz.results78, go_sem, z0, z1, z2, z3, z4, z5]) rfl ⟨?_, hbb⟩
  first | (rw [HY.out]; simp [symV, noSy, wd]) | simp [symV, noSy, wd]
end Go.Proofs.YtknpkndiflodbaaGreatDoor.Tb
