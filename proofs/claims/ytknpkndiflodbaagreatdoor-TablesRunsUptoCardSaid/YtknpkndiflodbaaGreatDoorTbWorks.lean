/-
  WALKS: works of the law: the states of the sample.
-/
import Derived.Test.YtknpkndiflodbaaGreatDoorTbMake
import Derived.Test.YtknpkndiflodbaaGreatDoorTbTellA
import Derived.Test.YtknpkndiflodbaaGreatDoorTbSampleW
set_option linter.unusedVariables false
set_option linter.unusedSimpArgs false
namespace Go.Proofs.YtknpkndiflodbaaGreatDoor.Tb
open Go Go.RowKit Go.Proofs Go.Maps Mx
def tup (e : Sy × Nat) : Int × Nat × Int × Nat := (e.1.kind, e.1.set, e.1.sort, e.2)
def toT (p : Sy → Bool) (l : List (Int × Nat × Int × Nat)) : Int × Bool := match l.find? (fun t => p ⟨t.1, t.2.1, t.2.2.1⟩) with | some t => ((t.2.2.2 : Int), true) | none => (0, false)
theorem toF_tup (p : Sy → Bool) (l : List (Sy × Nat)) : toF p l = toT p (l.map tup) := by
  unfold toF toT
  rw [List.find?_map]
  have : ((fun t : Int × Nat × Int × Nat => p ⟨t.1, t.2.1, t.2.2.1⟩) ∘ tup) = fun e : Sy × Nat => p e.1 := by funext e; rfl
  rw [this]
  cases List.find? (fun e : Sy × Nat => p e.1) l <;> rfl
structure SampleSm (sm : List SM) : Prop where
  len : sm.length = 6
  leads : (stAt sm 0).edges.length = 4
  a : toF (hasByte 97) (stAt sm 0).edges = (2, true)
  b : toF (hasByte 98) (stAt sm 0).edges = (3, true)
  c : toF (isSort 0) (stAt sm 0).edges = (1, true)
  d : toF (isSort 0) (stAt sm 1).edges = (5, true)
  len1 : (stAt sm 1).edges.length = 4
  x : (stAt sm 2).done = [1]
  y : (stAt sm 3).done = [1, 2]
  z : (stAt sm 5).done = [0]
theorem sample_sm {sm : List SM} (h : makeF sampleG = some (sm.map toSt)) : SampleSm sm := by
  have h1 := sample_states
  rw [h, Option.map_some] at h1
  injection h1 with h1
  rw [List.map_map] at h1
  have hl : sm.length = 6 := by rw [← List.length_map (f := tellSt ∘ toSt), h1]; rfl
  match sm, hl with
  | [s0, s1, s2, s3, s4, s5], _ =>
    simp only [List.map_cons, List.map_nil, Function.comp, tellSt, toSt, List.cons.injEq, Prod.mk.injEq, and_true] at h1
    obtain ⟨⟨_, e0, _⟩, ⟨_, e1, _⟩, ⟨_, _, d2⟩, ⟨_, _, d3⟩, _, ⟨_, _, d5⟩⟩ := h1
    have t0 : s0.edges.map tup = [(1, 0, 0, 1), (0, 2 ^ 97, 0, 2), (0, 2 ^ 98, 0, 3), (0, 2 ^ 99, 0, 4)] := e0
    have t1 : s1.edges.map tup = [(1, 0, 0, 5), (0, 2 ^ 97, 0, 2), (0, 2 ^ 98, 0, 3), (0, 2 ^ 99, 0, 4)] := e1
    refine ⟨rfl, ?_, ?_, ?_, ?_, ?_, ?_, d2, d3, d5⟩
    · show s0.edges.length = 4
      rw [← List.length_map (f := tup), t0]; rfl
    · show toF _ s0.edges = _
      rw [toF_tup, t0]; decide +kernel
    · show toF _ s0.edges = _
      rw [toF_tup, t0]; decide +kernel
    · show toF _ s0.edges = _
      rw [toF_tup, t0]; decide +kernel
    · show toF _ s1.edges = _
      rw [toF_tup, t1]; decide +kernel
    · show s1.edges.length = 4
      rw [← List.length_map (f := tup), t1]; rfl
theorem sample_good : Good sampleG := by
  refine ⟨by decide, by decide, by decide, ?_, ?_, ?_⟩
  · intro p hp
    simp only [sampleG, List.mem_cons, List.not_mem_nil, or_false] at hp
    rcases hp with rfl | rfl | rfl <;> exact ⟨by decide, by decide⟩
  · intro p hp
    simp only [sampleG, List.mem_cons, List.not_mem_nil, or_false] at hp
    rcases hp with rfl | rfl | rfl <;> decide
  · intro p hp s hs
    simp only [sampleG, List.mem_cons, List.not_mem_nil, or_false] at hp
    rcases hp with rfl | rfl | rfl
    · simp only [prG, List.mem_cons, List.not_mem_nil, or_false, or_self] at hs
      subst hs
      exact .inr ⟨rfl, rfl, by decide, by decide⟩
    · simp only [prG, List.mem_cons, List.not_mem_nil, or_false] at hs
      subst hs
      exact .inl ⟨rfl, rfl, by decide +kernel, by decide +kernel⟩
    · simp only [prG, List.mem_cons, List.not_mem_nil, or_false] at hs
      subst hs
      exact .inl ⟨rfl, rfl, by decide +kernel, by decide +kernel⟩
theorem sample_ok : GrOk sampleG := by
  have hg := sample_good
  refine ⟨⟨by decide, by decide, by decide, by decide, by decide⟩, by decide, ?_⟩
  intro p hp
  refine ⟨hg.left p hp, hg.right p hp, ?_, ?_, ?_, ?_, ?_, ?_⟩
  all_goals (first | (intro s hs; rcases hg.sym p hp s hs with h | ⟨h1, h2, h3, h4⟩) | skip)
  all_goals (simp only [sampleG, List.mem_cons, List.not_mem_nil, or_false] at hp)
  · rcases hp with rfl | rfl | rfl <;> decide
  · rcases hp with rfl | rfl | rfl <;> decide
  · rcases hp with rfl | rfl | rfl <;> decide
  · rcases hp with rfl | rfl | rfl <;> exact .inl rfl
  · rcases hp with rfl | rfl | rfl <;> exact .inl rfl
  · exact .inl h
  · refine .inr ⟨h1, h2, h3, h4, ?_⟩
    rcases hp with rfl | rfl | rfl <;> decide
theorem num_any (n : Int) (w : World) : Calls Tryz.prog 11 #[.int .i64 n] w fun e w' => e = .returned (.int .i64 n) ∧ w' = w := by
  go_enter Tryz.func11, Tryz.ntmps11
  go_wp2_with fail
  go_ret
  exact ⟨rfl, rfl⟩
theorem own_cell {w : World} {B n z : Nat} {e : TypeId} {v : Value} {xs : List Value} (h : w.ownsRow B e z v n xs) (hn : 0 < n) : ∃ g c, v = .slice (some ⟨g, 0, none⟩) n c ∧ ∀ j u, xs[j]? = some u → w.cell? ⟨g, j, none⟩ = some u := by
  have hc := fun g hg => h.cells (g := g) hg
  rcases h.2 with ⟨_, h2⟩ | ⟨g, cap, cur, rfl, _⟩
  · omega
  · refine ⟨g, cap, rfl, fun j u hu => ?_⟩
    have := hc g rfl j u hu
    rwa [addr_add, Nat.zero_add] at this
set_option maxRecDepth 100000 in
set_option maxHeartbeats 8000000 in
theorem works_any (w : World) (hbru : Bru w) (hLB : LB ≤ w.heap.size) :
    Calls Tryz.prog 8 #[] w fun e w' => e = .returned (.bool true) ∧ Below w.heap.size w w' := by
  have HE := Lib.hid (And.intro hbru hLB)
  clear hbru hLB
  go_enter Tryz.func8, Tryz.ntmps8
  go_wp2_with fail
  refine (sample_any w).mono ?_
  rintro e w1 ⟨sv, pv, rfl, h1, h2, hb1⟩
  have hmk := make_any _ sampleG sample_good w1 sv pv none none 0 0 0 0 h1 h2 (fun W hW => check_none _ sampleG sample_ok W sv pv none none 0 0 (h1.all hW) (h2.low hW)) (HE.out.1.below hb1 HE.out.2) (Nat.le_trans HE.out.2 hb1.size)
  have H1 := Lib.hid hb1
  clear h1 h2 hb1
  go_wp2_with fail
  refine hmk.mono ?_
  rintro e w2 hcase
  obtain ⟨tb, B, sm, hms, rfl, hT, hb2⟩ : ∃ tb B sm, makeF sampleG = some (sm.map toSt) ∧ e = .returned (.tuple #[.pointer (some ⟨tb, 0, none⟩), .int .i64 0]) ∧ TabW sampleG B tb sm w2 ∧ Below w1.heap.size w1 w2 := by
    rcases hcase with ⟨tb, B, sm, h1, h2, h3, _, h4⟩ | ⟨h1, _⟩
    · exact ⟨tb, B, sm, h1, h2, h3, h4⟩
    · have := sample_states
      rw [h1] at this
      cases this
  have hS := sample_sm hms
  have hP : TabP sampleG B (.pointer (some ⟨tb, 0, none⟩)) sm w2 := .inr ⟨tb, rfl, hT⟩
  have HS := Lib.hid hS
  have H2 := Lib.hid (And.intro hP (H1.out.trans (hb2.mono H1.out.size)))
  have k1 := states_any sampleG B (.pointer (some ⟨tb, 0, none⟩)) sm w2 hP
  rw [hS.len] at k1
  have k2 := leads_any sampleG B (.pointer (some ⟨tb, 0, none⟩)) sm 0 w2 hP
  rw [hS.leads] at k2
  clear hcase hmk hms hT hb2 hP hS
  go_wp2_with fail
  refine (num_any 0 w2).mono ?_
  rintro e w3 ⟨rfl, rfl⟩
  go_wp2_with fail
  refine k1.mono ?_
  rintro e w4 ⟨rfl, rfl⟩
  go_wp2_with fail
  refine (start_any _ _).mono ?_
  rintro e w5 ⟨rfl, rfl⟩
  go_wp2_with fail
  refine k2.mono ?_
  rintro e w6 ⟨rfl, hb6⟩
  have hP6 := H2.out.1.below hb6
  have H6 := Lib.hid (And.intro hP6 (H2.out.2.trans (hb6.mono H2.out.2.size)))
  have k3 := shift_any sampleG B (.pointer (some ⟨tb, 0, none⟩)) sm 0 97 (by decide) w6 hP6 (by rw [HS.out.leads]; decide)
  rw [HS.out.a] at k3
  clear k1 k2 hb6 hP6 H2
  go_wp2_with fail
  refine k3.mono ?_
  rintro e w7 ⟨rfl, hb7⟩
  have hP7 := H6.out.1.below hb7
  have H7 := Lib.hid (And.intro hP7 (H6.out.2.trans (hb7.mono H6.out.2.size)))
  have k4 := shift_any sampleG B (.pointer (some ⟨tb, 0, none⟩)) sm 0 98 (by decide) w7 hP7 (by rw [HS.out.leads]; decide)
  rw [HS.out.b] at k4
  clear k3 hb7 hP7 H6
  go_wp2_with fail
  refine k4.mono ?_
  rintro e w8 ⟨rfl, hb8⟩
  have hP8 := H7.out.1.below hb8
  have H8 := Lib.hid (And.intro hP8 (H7.out.2.trans (hb8.mono H7.out.2.size)))
  have k5 := goto_any sampleG B (.pointer (some ⟨tb, 0, none⟩)) sm 0 0 w8 hP8 (by rw [HS.out.leads]; decide)
  rw [HS.out.c] at k5
  clear k4 hb8 hP8 H7
  go_wp2_with fail
  refine k5.mono ?_
  rintro e w9 ⟨rfl, hb9⟩
  have hP9 := H8.out.1.below hb9
  have H9 := Lib.hid (And.intro hP9 (H8.out.2.trans (hb9.mono H8.out.2.size)))
  have k6 := goto_any sampleG B (.pointer (some ⟨tb, 0, none⟩)) sm 1 0 w9 hP9 (by rw [HS.out.len1]; decide)
  rw [HS.out.d] at k6
  clear k5 hb9 hP9 H8
  go_wp2_with fail
  refine k6.mono ?_
  rintro e w10 ⟨rfl, hb10⟩
  have hP10 := H9.out.1.below hb10
  have H10 := Lib.hid (And.intro hP10 (H9.out.2.trans (hb10.mono H9.out.2.size)))
  have k7 := reduces_any sampleG B (.pointer (some ⟨tb, 0, none⟩)) sm 2 w10 hP10 (by rw [HS.out.x]; decide)
  rw [HS.out.x] at k7
  clear k6 hb10 hP10 H9
  go_wp2_with fail
  refine k7.mono ?_
  rintro e w11 ⟨v11, rfl, ho11, hb11⟩
  obtain ⟨g11, c11, rfl, hx⟩ := own_cell ho11 (by decide)
  have hg11 := (ho11.lt g11 rfl).2
  have x0 := hx 0 _ rfl
  have hP11 := H10.out.1.below hb11
  have H11 := Lib.hid (And.intro hP11 (H10.out.2.trans (hb11.mono H10.out.2.size)))
  have k8 := reduces_any sampleG B (.pointer (some ⟨tb, 0, none⟩)) sm 3 w11 hP11 (by rw [HS.out.y]; decide)
  rw [HS.out.y] at k8
  clear k7 hb11 hP11 H10 ho11 hx
  go_wp2_with fail
  refine k8.mono ?_
  rintro e w12 ⟨v12, rfl, ho12, hb12⟩
  obtain ⟨g12, c12, rfl, hy⟩ := own_cell ho12 (by decide)
  have x1 := (hb12.cell (p := ⟨g11, 0, none⟩) hg11).trans x0
  have hP12 := H11.out.1.below hb12
  have H12 := Lib.hid (And.intro hP12 (H11.out.2.trans (hb12.mono H11.out.2.size)))
  have k9 := reduces_any sampleG B (.pointer (some ⟨tb, 0, none⟩)) sm 5 w12 hP12 (by rw [HS.out.z]; decide)
  rw [HS.out.z] at k9
  have hg12 : g11 < w12.heap.size := Nat.lt_of_lt_of_le hg11 hb12.size
  clear k8 hb12 hP12 H11 ho12 hy hg11 x0
  go_wp2_with fail
  refine k9.mono ?_
  rintro e w13 ⟨v13, rfl, ho13, hb13⟩
  obtain ⟨g13, c13, rfl, hz⟩ := own_cell ho13 (by decide)
  have x2 := (hb13.cell (p := ⟨g11, 0, none⟩) hg12).trans x1
  have z0 := hz 0 _ rfl
  have hP13 := H12.out.1.below hb13
  have H13 := Lib.hid (H12.out.2.trans (hb13.mono H12.out.2.size))
  have k10 := tall_any sampleG B (.pointer (some ⟨tb, 0, none⟩)) sm 0 w13 hP13
  clear k9 hb13 hP13 H12 ho13 hz hg12 x1
  go_wp2_with fail
  have hnf : ∀ (b : Nat) (w : World), (binOp .neq 84 (.func (.func 61) #[] #[.pointer (some ⟨b, 0, none⟩)]) .nilFunc).run Tryz.prog w = .ok (.bool true) w := fun _ _ => by kernel_rfl
  refine k10.mono ?_
  rintro e w14 ⟨b14, rfl, _, _, hb14⟩
  have H14 := Lib.hid (H13.out.trans (hb14.mono H13.out.size))
  clear k10 hb14 H13
  go_wp2_with fail
  go_ret
  exact ⟨rfl, H14.out⟩
end Go.Proofs.YtknpkndiflodbaaGreatDoor.Tb
