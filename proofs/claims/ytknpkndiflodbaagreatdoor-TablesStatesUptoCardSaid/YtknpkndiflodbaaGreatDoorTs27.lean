/- Walks and plain laws that the last text stands on: TbReadsM, TbRChkA, TbRChkB. -/
import Derived.Test.YtknpkndiflodbaaGreatDoorTs18
import Derived.Test.YtknpkndiflodbaaGreatDoorTs19
import Derived.Test.YtknpkndiflodbaaGreatDoorTs8
import Derived.Test.YtknpkndiflodbaaGreatDoorTs7
import Derived.Test.YtknpkndiflodbaaGreatDoorTs10
set_option linter.unusedVariables false
set_option linter.unusedSimpArgs false
set_option maxRecDepth 100000
set_option maxHeartbeats 16000000
namespace Go.Proofs.YtknpkndiflodbaaGreatDoor.Tb
open Go Go.RowKit Go.Proofs Go.Maps Mx
theorem toF_some {p : Sy -> Bool} {l : List (Sy × Nat)} (h : ∃ e ∈ l, p e.1 = true) : ∃ e ∈ l, p e.1 = true /\ toF p l = ((e.2 : Int), true) := by
 unfold toF
 cases hf : l.find? (fun e => p e.1) with
 | none =>
  obtain ⟨e, he, hp⟩ := h
  exact absurd hp (by simpa using List.find?_eq_none.1 hf e he)
 | some e => exact ⟨e, List.mem_of_find?_eq_some hf, List.find?_some (p := fun e : Sy × Nat => p e.1) hf, rfl⟩
theorem good_sets {g : Gr} (hg : Good g) : SetsOk g /\ SortsAt g /\ NoSort g := by
 have hm : ∀ (x : It) (y : Sy), aheadF g x = some y -> ∃ p ∈ g.prods, y ∈ p.right := fun x y h => by
  unfold aheadF rightOf at h
  cases hp : g.prods[x.1]? with
  | none => rw [hp] at h; simp at h
  | some p =>
   rw [hp] at h
   exact ⟨p, List.mem_of_getElem? hp, List.mem_of_getElem? (show p.right[x.2]? = some y from h)⟩
 refine ⟨fun x y h hk => ?_, fun x y h hk => ?_, fun x y h hk => ?_⟩
 all_goals
  obtain ⟨p, hp, hy⟩ := hm x y h
  rcases hg.sym p hp y hy with ⟨h1, h2, h3, h4⟩ | ⟨h1, h2, h3, h4⟩
 ·exact h4
 ·omega
 ·omega
 ·exact ⟨h3, h4⟩
 ·exact h2
 ·omega
theorem stLaw_at {g : Gr} {sm : List SM} (hm : MadeLaw g (sm.map toSt)) {n : Nat} (hn : n < sm.length) : StLaw g ((sm.map toSt).map (·.items)) (toSt (stAt sm n)) := by
 obtain ⟨s, hs⟩ : ∃ s, sm[n]? = some s := ⟨_, List.getElem?_eq_getElem hn⟩
 rw [stAt_in hs]
 exact hm.state (toSt s) (List.mem_map.2 ⟨s, List.mem_of_getElem? hs, rfl⟩)
theorem symsR_len (g : Gr) (l : List It) : (symsR g l).length <= g.sorts.length + 256 := by
 unfold symsR
 rw [List.length_append, List.length_map, List.length_map]
 have h1 := List.length_filter_le (fun n : Nat => l.any (sortHit g (n : Int))) (List.range g.sorts.length)
 have h2 := List.length_filter_le (fun c => (setsOf g l).any fun s => withinF c s) (refSplit (setsOf g l))
 have h3 : (refSplit (setsOf g l)).length <= 256 := by
  unfold refSplit firsts
  rw [List.length_map]
  exact Nat.le_trans (List.length_filter_le _ _) (by simp)
 simp only [List.length_range] at h1
 omega
theorem edges_len {g : Gr} {sm : List SM} (hg : Good g) (hm : MadeLaw g (sm.map toSt)) {n : Nat} (hn : n < sm.length) : (stAt sm n).edges.length <= 2000 := by
 have h := (stLaw_at hm hn).len
 have h : (stAt sm n).edges.length = (leadsF g (stAt sm n).items).length := h
 obtain ⟨a, b, c⟩ := good_sets hg
 rw [h, leadsF_eq a b c, List.length_map]
 have := symsR_len g (stAt sm n).items
 have := hg.sorts
 omega
theorem rsort_any (w : World) (sa : Option Addr) (n c : Nat) (pv st fv lv : Value) (s : Int) (r : Bool) (hr : decide (0 <= s /\ s < (n : Int)) = r) :
  Calls Tryz.prog 74 #[.agg #[.slice sa n c, pv, st, fv, lv], .int .i64 s] w fun e w' => e = .returned (.bool r) /\ Below w.heap.size w w' := by
 by_cases h0 : 0 <= s
 ·by_cases h1 : s < (n : Int)
  ·have hv : r = true := by rw [<- hr]; simp; omega
   clear hr
   go_enter Tryz.func74, Tryz.ntmps74
   go_wp2_with fail
   go_ret
   exact ⟨by rw [hv]; rfl, (Below.refl _ w).alloc (Nat.le_refl _) _⟩
  ·have hv : r = false := by rw [<- hr]; simp; omega
   have hd : decide (s < (n : Int)) = false := decide_eq_false h1
   clear hr h1
   go_enter Tryz.func74, Tryz.ntmps74
   go_wp2_with fail
   go_ret
   exact ⟨by rw [hv]; rfl, (Below.refl _ w).alloc (Nat.le_refl _) _⟩
 ·have hv : r = false := by rw [<- hr]; simp; omega
  have hd : decide (0 <= s) = false := decide_eq_false h0
  clear hr h0
  go_enter Tryz.func74, Tryz.ntmps74
  go_wp2_with fail
  go_ret
  exact ⟨by rw [hv]; rfl, (Below.refl _ w).alloc (Nat.le_refl _) _⟩
theorem words_zero (M : Nat) (h : M < 2 ^ 256) : ((((((M / 2 ^ (64 * 0) % 18446744073709551616) ||| (M / 2 ^ (64 * 1) % 18446744073709551616)) ||| (M / 2 ^ (64 * 2) % 18446744073709551616)) ||| (M / 2 ^ (64 * 3) % 18446744073709551616) : Nat) : Int) == 0) = decide (M = 0) := by
 have h1 := wd_zero_iff M h
 unfold wd at h1
 rw [Bool.eq_iff_iff, decide_eq_true_iff, beq_iff_eq, <- h1]
 constructor
 ·intro hz
  have hz : ((((M / 2 ^ (64 * 0) % 18446744073709551616) ||| (M / 2 ^ (64 * 1) % 18446744073709551616)) ||| (M / 2 ^ (64 * 2) % 18446744073709551616)) ||| (M / 2 ^ (64 * 3) % 18446744073709551616) : Nat) = 0 := by omega
  rw [Nat.or_eq_zero_iff, Nat.or_eq_zero_iff, Nat.or_eq_zero_iff] at hz
  obtain ⟨⟨⟨a, b⟩, c⟩, d⟩ := hz
  rw [a, b, c, d]
  simp
 ·rintro ⟨a, b, c, d⟩
  have a : (M / 2 ^ (64 * 0) % 18446744073709551616 : Nat) = 0 := by omega
  have b : (M / 2 ^ (64 * 1) % 18446744073709551616 : Nat) = 0 := by omega
  have c : (M / 2 ^ (64 * 2) % 18446744073709551616 : Nat) = 0 := by omega
  have d : (M / 2 ^ (64 * 3) % 18446744073709551616 : Nat) = 0 := by omega
  rw [a, b, c, d]
  simp
theorem rempty_any (M : Nat) (hM : M < 2 ^ 256) (w : World) :
  Calls Tryz.prog 77 #[.agg #[.int .u64 (wd M 0), .int .u64 (wd M 1), .int .u64 (wd M 2), .int .u64 (wd M 3)]] w fun e w' => e = .returned (.bool (decide (M = 0))) /\ Below w.heap.size w w' := by
 have hz := words_zero M hM
 obtain ⟨a0, h0⟩ : ∃ a, M / 2 ^ (64 * 0) % 18446744073709551616 = a := ⟨_, rfl⟩
 obtain ⟨a1, h1⟩ : ∃ a, M / 2 ^ (64 * 1) % 18446744073709551616 = a := ⟨_, rfl⟩
 obtain ⟨a2, h2⟩ : ∃ a, M / 2 ^ (64 * 2) % 18446744073709551616 = a := ⟨_, rfl⟩
 obtain ⟨a3, h3⟩ : ∃ a, M / 2 ^ (64 * 3) % 18446744073709551616 = a := ⟨_, rfl⟩
 have l0 : a0 < 2 ^ 64 := by rw [<- h0]; exact Nat.mod_lt _ (by decide)
 have l1 : a1 < 2 ^ 64 := by rw [<- h1]; exact Nat.mod_lt _ (by decide)
 have l2 : a2 < 2 ^ 64 := by rw [<- h2]; exact Nat.mod_lt _ (by decide)
 have l3 : a3 < 2 ^ 64 := by rw [<- h3]; exact Nat.mod_lt _ (by decide)
 have w0 : wd M 0 = (a0 : Int) := by unfold wd; rw [h0]
 have w1 : wd M 1 = (a1 : Int) := by unfold wd; rw [h1]
 have w2 : wd M 2 = (a2 : Int) := by unfold wd; rw [h2]
 have w3 : wd M 3 = (a3 : Int) := by unfold wd; rw [h3]
 rw [h0, h1, h2, h3] at hz
 rw [w0, w1, w2, w3]
 have o1 : bits .or .u64 (a0 : Int) (a1 : Int) = ((a0 ||| a1 : Nat) : Int) := or_nat _ _ l0 l1
 have l01 : a0 ||| a1 < 2 ^ 64 := Nat.or_lt_two_pow l0 l1
 have o2 : bits .or .u64 ((a0 ||| a1 : Nat) : Int) (a2 : Int) = ((a0 ||| a1 ||| a2 : Nat) : Int) := or_nat _ _ l01 l2
 have l012 : a0 ||| a1 ||| a2 < 2 ^ 64 := Nat.or_lt_two_pow l01 l2
 have o3 : bits .or .u64 ((a0 ||| a1 ||| a2 : Nat) : Int) (a3 : Int) = ((a0 ||| a1 ||| a2 ||| a3 : Nat) : Int) := or_nat _ _ l012 l3
 obtain ⟨x1, e1⟩ : ∃ x, a0 ||| a1 = x := ⟨_, rfl⟩
 rw [e1] at o1 o2 o3 hz
 obtain ⟨x2, e2⟩ : ∃ x, x1 ||| a2 = x := ⟨_, rfl⟩
 rw [e2] at o2 o3 hz
 obtain ⟨x3, e3⟩ : ∃ x, x2 ||| a3 = x := ⟨_, rfl⟩
 rw [e3] at o3 hz
 have HZ := Hd hz
 clear hz h0 h1 h2 h3 l0 l1 l2 l3 w0 w1 w2 w3 l01 l012 e1 e2 e3
 go_enter Tryz.func77, Tryz.ntmps77
 go_wp2_with fail
 go_ret
 exact ⟨ret_bool HZ.out, (Below.refl _ w).alloc (Nat.le_refl _) _⟩
theorem rprod_any (g : Gr) (hsn : g.sorts.length <= 2000000) (w : World) (sa : Option Addr) (sc : Nat) (pv fv lv : Value) (p : Pr) (ra : Option Addr) (rc : Nat) (hr : SliceK (fun _ => True) encSy 6 w (.slice ra p.right.length rc) p.right) (hrl : p.right.length <= 2000000) (hcl : p.cons.length <= 2000000) (hset : ∀ s ∈ p.right, s.set < 2 ^ 256) :
  Calls Tryz.prog 75 #[.agg #[.slice sa g.sorts.length sc, pv, .int .i64 g.start, fv, lv], .agg #[.int .i64 p.left, .slice ra p.right.length rc, .string ⟨p.cons.toArray⟩, .int .i64 p.role, .bool p.prefer, .bool p.avoid, .int .i64 p.made]] w fun e w' => e = .returned (.bool (prodB g p)) /\ Below w.heap.size w w' := by
 obtain ⟨ra2, rc2, ei, _, _, hk⟩ := hr
 injection ei with ei1 _ ei3
 subst ei1
 subst ei3
 have HK := Hd (An hk hset)
 clear hk hset
 go_enter Tryz.func75, Tryz.ntmps75
 go_upto_region 1 with fail
 have hB0 : Blk ((w.alloc (.cells #[.slice sa g.sorts.length sc, pv, .int .i64 g.start, fv, lv] 39)).alloc (.cells #[.int .i64 p.left, .slice ra p.right.length rc, .string ⟨p.cons.toArray⟩, .int .i64 p.role, .bool p.prefer, .bool p.avoid, .int .i64 p.made] 34)) w.heap.size 39 #[.slice sa g.sorts.length sc, pv, .int .i64 g.start, fv, lv] := (Blk.new _ _ _).alloc _
 have hB1 : Blk ((w.alloc (.cells #[.slice sa g.sorts.length sc, pv, .int .i64 g.start, fv, lv] 39)).alloc (.cells #[.int .i64 p.left, .slice ra p.right.length rc, .string ⟨p.cons.toArray⟩, .int .i64 p.role, .bool p.prefer, .bool p.avoid, .int .i64 p.made] 34)) (w.heap.size + 1) 34 #[.int .i64 p.left, .slice ra p.right.length rc, .string ⟨p.cons.toArray⟩, .int .i64 p.role, .bool p.prefer, .bool p.avoid, .int .i64 p.made] := Blk.new_ (by simp) _ _
 have hb1 : Below w.heap.size w ((w.alloc (.cells #[.slice sa g.sorts.length sc, pv, .int .i64 g.start, fv, lv] 39)).alloc (.cells #[.int .i64 p.left, .slice ra p.right.length rc, .string ⟨p.cons.toArray⟩, .int .i64 p.role, .bool p.prefer, .bool p.avoid, .int .i64 p.made] 34)) := ((Below.refl w.heap.size w).alloc (Nat.le_refl _) _).alloc (by simp) _
 generalize ((w.alloc (.cells #[.slice sa g.sorts.length sc, pv, .int .i64 g.start, fv, lv] 39)).alloc (.cells #[.int .i64 p.left, .slice ra p.right.length rc, .string ⟨p.cons.toArray⟩, .int .i64 p.role, .bool p.prefer, .bool p.avoid, .int .i64 p.made] 34)) = W1 at hB0 hB1 hb1 ⊢
 have H1 := Hd (An hB0 (An hB1 hb1))
 clear hB0 hB1 hb1
 have HF := Hd (show ∀ W, Below W1.heap.size W1 W -> (W.cell? ⟨w.heap.size, 0, none⟩ = some (.slice sa g.sorts.length sc) /\ W.cell? ⟨w.heap.size, 1, none⟩ = some pv /\ W.cell? ⟨w.heap.size, 2, none⟩ = some (.int .i64 g.start) /\ W.cell? ⟨w.heap.size, 3, none⟩ = some fv /\ W.cell? ⟨w.heap.size, 4, none⟩ = some lv) /\
   W.cell? ⟨w.heap.size + 1, 0, none⟩ = some (.int .i64 p.left) /\ W.cell? ⟨w.heap.size + 1, 1, none⟩ = some (.slice ra p.right.length rc) /\ W.cell? ⟨w.heap.size + 1, 2, none⟩ = some (.string ⟨p.cons.toArray⟩) /\ W.cell? ⟨w.heap.size + 1, 3, none⟩ = some (.int .i64 p.role) /\ W.cell? ⟨w.heap.size + 1, 4, none⟩ = some (.bool p.prefer) /\ W.cell? ⟨w.heap.size + 1, 5, none⟩ = some (.bool p.avoid) /\ W.cell? ⟨w.heap.size + 1, 6, none⟩ = some (.int .i64 p.made) from fun W h => by
  have a := H1.out.1.below h H1.out.1.lt
  have b := H1.out.2.1.below h H1.out.2.1.lt
  exact ⟨⟨a.cell 0, a.cell 1, a.cell 2, a.cell 3, a.cell 4⟩, b.cell 0, b.cell 1, b.cell 2, b.cell 3, b.cell 4, b.cell 5, b.cell 6⟩)
 generalize (Value.agg #[.int .i64 p.left, .slice ra p.right.length rc, .string ⟨p.cons.toArray⟩, .int .i64 p.role, .bool p.prefer, .bool p.avoid, .int .i64 p.made] : Value) = prm
 go_cut [56] from 7 to 56 (fun s56 wx => s56 = .bool (!headB g p) /\ Below W1.heap.size W1 wx)
 case first =>
  rcases head_arms g p with ⟨hh, hin⟩ | ⟨hh, hin, o1⟩ | ⟨hh, hin, o1, o2⟩ | ⟨hh, hin, o1, o2, o3⟩ | ⟨hh, hin, o1, o2, o3, o4⟩ | ⟨hh, hin, o1, o2, o3, o4, o5⟩ | ⟨hh, hin, o1, o2, o3, o4, o5, o6, o7⟩ | ⟨hh, hin, o1, o2, o3, o4, o5, o6, o7, o8⟩ | ⟨hh, hin, o1, o2, o3, o4, o5, o6, o7, o8⟩ | ⟨hh, hin, o1, o2, o3, o4, o5, o6, o7⟩ | ⟨hh, hin, o1, o2, o3, o4, o5, o6, o7, o8⟩ | ⟨hh, hin, o1, o2, o3, o4, o5, o6, o7⟩ | ⟨hh, hin, o1, o2, o3, o4, o5, o6, o7, o8⟩
  all_goals (
  obtain ⟨⟨g0, g1, g2, g3, g4⟩, x0, x1, x2, x3, x4, x5, x6⟩ := HF.out W1 (Below.refl _ _)
  unfold inB at hin
  have HH := Hd (An hh hin)
  clear hh hin
  go_wp2_with fail
  refine (rsort_any W1 _ _ _ _ _ _ _ p.left _ HH.out.2).mono ?_
  rintro e w4 ⟨rfl, hb4⟩
  clear g0 g1 g2 g3 g4 x0 x1 x2 x3 x4 x5 x6
  obtain ⟨⟨g0, g1, g2, g3, g4⟩, x0, x1, x2, x3, x4, x5, x6⟩ := HF.out w4 hb4
  have HB := Hd hb4
  clear hb4 g0 g1 g2 g3 g4
  go_wp2_with fail
  all_goals (go_meet; exact ⟨by rw [HH.out.1]; rfl, HB.out⟩))
 case rest =>
  obtain ⟨rfl, hb4⟩ := hcut
  have A4 := Hd hb4
  clear hb4
  cases hhd : headB g p with
  | false =>
   have HV := Hd (show prodB g p = false from prodB_head hhd)
   clear hhd
   go_wp2_with fail
   go_ret
   exact ⟨by rw [HV.out]; rfl, H1.out.2.2.trans (A4.out.mono H1.out.2.2.size)⟩
  | true =>
   have HHD := Hd hhd
   clear hhd
   go_wp2_with fail
   go_loopg [5] p.right.length (fun m v5 wx => ∃ i : Nat, i <= p.right.length /\ m = p.right.length - i /\ v5 = .int .i64 (i : Int) /\ (∀ s ∈ p.right.take i, symB g p.role s = true) /\ Below W1.heap.size W1 wx)
   case atStart => exact ⟨0, by omega, rfl, rfl, by simp, A4.out⟩
   case round =>
    obtain ⟨i, hi, hm, rfl, hdone, hb⟩ := hrel
    obtain ⟨_, x0, x1, x2, x3, x4, x5, x6⟩ := HF.out wr hb
    by_cases hil : i < p.right.length
    ·have hil1 : (i : Int) < (p.right.length : Int) := by omega
     have hi0 : (0 : Int) <= (i : Int) := by omega
     obtain ⟨s, hs⟩ : ∃ x, p.right[i]? = some x := ⟨_, List.getElem?_eq_getElem hil⟩
     have hsm := List.mem_of_getElem? hs
     have hs256 := HK.out.2 s hsm
     have hbw : Below w.heap.size w wr := H1.out.2.2.trans (hb.mono H1.out.2.2.size)
     obtain ⟨rb, ro, rfl, _, hrr⟩ := HK.out.1 (by rintro h; rw [h] at hil; simp at hil)
     have up : ∀ {i : Nat} {u : Value}, w.cell? ⟨rb, i, none⟩ = some u -> wr.cell? ⟨rb, i, none⟩ = some u := fun h => (World.cell?_of_block (hbw.block rb hrr.lt)).trans h
     have c0 := up (hrr.cells i _ hs 0 _ rfl)
     have c1 := up (hrr.cells i _ hs 1 _ rfl)
     have c2 := up (hrr.cells i _ hs 2 _ rfl)
     have c3 := up (hrr.cells i _ hs 3 _ rfl)
     have c4 := up (hrr.cells i _ hs 4 _ rfl)
     have c5 := up (hrr.cells i _ hs 5 _ rfl)
     simp only [Nat.add_zero] at c0
     have HR := Hd (An hm (An hdone (An hb (An hs hsm))))
     have hno := fun h => prodB_sym (g := g) hsm h
     clear hm hdone hb hs hsm hbw up hrr
     go_upto_region 7 with fail
     have hQ : Blk (wr.alloc (.cells #[.int .i64 s.kind, .int .u64 (wd s.set 0), .int .u64 (wd s.set 1), .int .u64 (wd s.set 2), .int .u64 (wd s.set 3), .int .i64 s.sort] 28)) wr.heap.size 28 #[.int .i64 s.kind, .int .u64 (wd s.set 0), .int .u64 (wd s.set 1), .int .u64 (wd s.set 2), .int .u64 (wd s.set 3), .int .i64 s.sort] := Blk.new _ _ _
     have hb5 : Below wr.heap.size wr (wr.alloc (.cells #[.int .i64 s.kind, .int .u64 (wd s.set 0), .int .u64 (wd s.set 1), .int .u64 (wd s.set 2), .int .u64 (wd s.set 3), .int .i64 s.sort] 28)) := (Below.refl _ wr).alloc (Nat.le_refl _) _
     generalize (wr.alloc (.cells #[.int .i64 s.kind, .int .u64 (wd s.set 0), .int .u64 (wd s.set 1), .int .u64 (wd s.set 2), .int .u64 (wd s.set 3), .int .i64 s.sort] 28)) = w5 at hQ hb5 ⊢
     obtain ⟨kq, hkq⟩ : ∃ kq, wr.heap.size = kq := ⟨_, rfl⟩
     rw [hkq] at hQ ⊢
     have hb15 := HR.out.2.2.1.trans (hb5.mono HR.out.2.2.1.size)
     have H5 := Hd (An hQ hb15)
     have HS := Hd (show ∀ W, Below w5.heap.size w5 W -> Below W1.heap.size W1 W /\ (W.cell? ⟨kq, 0, none⟩ = some (.int .i64 s.kind) /\ W.cell? ⟨kq, 1, none⟩ = some (.int .u64 (wd s.set 0)) /\ W.cell? ⟨kq, 2, none⟩ = some (.int .u64 (wd s.set 1)) /\ W.cell? ⟨kq, 3, none⟩ = some (.int .u64 (wd s.set 2)) /\ W.cell? ⟨kq, 4, none⟩ = some (.int .u64 (wd s.set 3)) /\ W.cell? ⟨kq, 5, none⟩ = some (.int .i64 s.sort)) from fun W h => by
      have b := H5.out.1.below h H5.out.1.lt
      exact ⟨H5.out.2.trans (h.mono H5.out.2.size), b.cell 0, b.cell 1, b.cell 2, b.cell 3, b.cell 4, b.cell 5⟩)
     have hem := fun W => rempty_any s.set hs256 W
     clear hQ hb5 hb15 hkq c0 c1 c2 c3 c4 c5 x0 x1 x2 x3 x4 x5 x6 hs256
     obtain ⟨hb6, y0, y1, y2, y3, y4, y5⟩ := HS.out w5 (Below.refl _ _)
     clear hb6
     rcases sym_arms g p.role s with ⟨hh, k0, e0⟩ | ⟨hh, k0, e0, s0⟩ | ⟨hh, k0, e0, s0⟩ | ⟨hh, k0, e0⟩ | ⟨hh, k0, e0, s0⟩ | ⟨hh, k0, e0, s0, r0⟩ | ⟨hh, k0, e0, s0, r0⟩ | ⟨hh, k0, k1⟩
     ·have HV := Hd (hno hh)
      clear hno hh
      have d0 : decide (s.set = 0) = true := decide_eq_true e0
      rw [d0] at hem
      clear d0 e0
      rw [k0] at y0 HS
      clear k0
      go_wp2_with fail
      refine (hem w5).mono ?_
      rintro e w6 ⟨rfl, hbw6⟩
      have Bw6 := Hd ((Below.refl w5.heap.size w5).trans (hbw6.mono (Below.refl w5.heap.size w5).size))
      clear hbw6 y0 y1 y2 y3 y4 y5
      obtain ⟨_, y0, y1, y2, y3, y4, y5⟩ := HS.out w6 Bw6.out
      obtain ⟨⟨g0, g1, g2, g3, g4⟩, x0, x1, x2, x3, x4, x5, x6⟩ := HF.out w6 (HS.out w6 Bw6.out).1
      go_wp2_with fail
      go_ret
      exact ⟨by rw [HV.out]; rfl, H1.out.2.2.trans (((HS.out w6 Bw6.out).1).mono H1.out.2.2.size)⟩
     ·have HV := Hd (hno hh)
      clear hno hh
      have d0 : decide (s.set = 0) = false := decide_eq_false e0
      rw [d0] at hem
      clear d0 e0
      rw [k0] at y0 HS
      clear k0
      go_wp2_with fail
      refine (hem w5).mono ?_
      rintro e w6 ⟨rfl, hbw6⟩
      have Bw6 := Hd ((Below.refl w5.heap.size w5).trans (hbw6.mono (Below.refl w5.heap.size w5).size))
      clear hbw6 y0 y1 y2 y3 y4 y5
      obtain ⟨_, y0, y1, y2, y3, y4, y5⟩ := HS.out w6 Bw6.out
      obtain ⟨⟨g0, g1, g2, g3, g4⟩, x0, x1, x2, x3, x4, x5, x6⟩ := HF.out w6 (HS.out w6 Bw6.out).1
      go_wp2_with fail
      go_ret
      exact ⟨by rw [HV.out]; rfl, H1.out.2.2.trans (((HS.out w6 Bw6.out).1).mono H1.out.2.2.size)⟩
     ·have HV := Hd hh
      clear hno hh
      have d0 : decide (s.set = 0) = false := decide_eq_false e0
      rw [d0] at hem
      clear d0 e0
      rw [k0] at y0 HS
      clear k0
      rw [s0] at y5 HS
      clear s0
      go_wp2_with fail
      refine (hem w5).mono ?_
      rintro e w6 ⟨rfl, hbw6⟩
      have Bw6 := Hd ((Below.refl w5.heap.size w5).trans (hbw6.mono (Below.refl w5.heap.size w5).size))
      clear hbw6 y0 y1 y2 y3 y4 y5
      obtain ⟨_, y0, y1, y2, y3, y4, y5⟩ := HS.out w6 Bw6.out
      obtain ⟨⟨g0, g1, g2, g3, g4⟩, x0, x1, x2, x3, x4, x5, x6⟩ := HF.out w6 (HS.out w6 Bw6.out).1
      go_wp2_with fail
      go_roundg (p.right.length - (i + 1))
      case measure => have := HR.out.1; omega
      case rel =>
       refine ⟨i + 1, by omega, rfl, rfl, fun t ht => ?_, (HS.out w6 Bw6.out).1⟩
       rw [List.take_add_one, HR.out.2.2.2.1] at ht
       rcases List.mem_append.1 ht with ht | ht
       ·exact HR.out.2.1 t ht
       ·simp at ht; subst ht; exact HV.out
     ·have HV := Hd (hno hh)
      clear hno hh
      have d0 : decide (s.set = 0) = false := decide_eq_false e0
      rw [d0] at hem
      clear d0 e0
      rw [k0] at y0 HS
      clear k0
      go_wp2_with fail
      refine (hem w5).mono ?_
      rintro e w6 ⟨rfl, hbw6⟩
      have Bw6 := Hd ((Below.refl w5.heap.size w5).trans (hbw6.mono (Below.refl w5.heap.size w5).size))
      clear hbw6 y0 y1 y2 y3 y4 y5
      obtain ⟨_, y0, y1, y2, y3, y4, y5⟩ := HS.out w6 Bw6.out
      obtain ⟨⟨g0, g1, g2, g3, g4⟩, x0, x1, x2, x3, x4, x5, x6⟩ := HF.out w6 (HS.out w6 Bw6.out).1
      go_wp2_with fail
      go_ret
      exact ⟨by rw [HV.out]; rfl, H1.out.2.2.trans (((HS.out w6 Bw6.out).1).mono H1.out.2.2.size)⟩
     ·have HV := Hd (hno hh)
      clear hno hh
      have d0 : decide (s.set = 0) = true := decide_eq_true e0
      rw [d0] at hem
      clear d0 e0
      rw [k0] at y0 HS
      clear k0
      unfold inB at s0
      have HS0 := Hd s0
      clear s0
      go_wp2_with fail
      refine (hem w5).mono ?_
      rintro e w6 ⟨rfl, hbw6⟩
      have Bw6 := Hd ((Below.refl w5.heap.size w5).trans (hbw6.mono (Below.refl w5.heap.size w5).size))
      clear hbw6 y0 y1 y2 y3 y4 y5
      obtain ⟨_, y0, y1, y2, y3, y4, y5⟩ := HS.out w6 Bw6.out
      obtain ⟨⟨g0, g1, g2, g3, g4⟩, x0, x1, x2, x3, x4, x5, x6⟩ := HF.out w6 (HS.out w6 Bw6.out).1
      go_wp2_with fail
      refine (rsort_any w6 _ _ _ _ _ _ _ s.sort false HS0.out).mono ?_
      rintro e w7 ⟨rfl, hbw7⟩
      have Bw7 := Hd (Bw6.out.trans (hbw7.mono Bw6.out.size))
      clear hbw7 y0 y1 y2 y3 y4 y5 g0 g1 g2 g3 g4 x0 x1 x2 x3 x4 x5 x6
      obtain ⟨_, y0, y1, y2, y3, y4, y5⟩ := HS.out w7 Bw7.out
      obtain ⟨⟨g0, g1, g2, g3, g4⟩, x0, x1, x2, x3, x4, x5, x6⟩ := HF.out w7 (HS.out w7 Bw7.out).1
      go_wp2_with fail
      go_ret
      exact ⟨by rw [HV.out]; rfl, H1.out.2.2.trans (((HS.out w7 Bw7.out).1).mono H1.out.2.2.size)⟩
     ·have HV := Hd (hno hh)
      clear hno hh
      have d0 : decide (s.set = 0) = true := decide_eq_true e0
      rw [d0] at hem
      clear d0 e0
      rw [k0] at y0 HS
      clear k0
      unfold inB at s0
      have HS0 := Hd s0
      clear s0
      go_wp2_with fail
      refine (hem w5).mono ?_
      rintro e w6 ⟨rfl, hbw6⟩
      have Bw6 := Hd ((Below.refl w5.heap.size w5).trans (hbw6.mono (Below.refl w5.heap.size w5).size))
      clear hbw6 y0 y1 y2 y3 y4 y5
      obtain ⟨_, y0, y1, y2, y3, y4, y5⟩ := HS.out w6 Bw6.out
      obtain ⟨⟨g0, g1, g2, g3, g4⟩, x0, x1, x2, x3, x4, x5, x6⟩ := HF.out w6 (HS.out w6 Bw6.out).1
      go_wp2_with fail
      refine (rsort_any w6 _ _ _ _ _ _ _ s.sort true HS0.out).mono ?_
      rintro e w7 ⟨rfl, hbw7⟩
      have Bw7 := Hd (Bw6.out.trans (hbw7.mono Bw6.out.size))
      clear hbw7 y0 y1 y2 y3 y4 y5 g0 g1 g2 g3 g4 x0 x1 x2 x3 x4 x5 x6
      obtain ⟨_, y0, y1, y2, y3, y4, y5⟩ := HS.out w7 Bw7.out
      obtain ⟨⟨g0, g1, g2, g3, g4⟩, x0, x1, x2, x3, x4, x5, x6⟩ := HF.out w7 (HS.out w7 Bw7.out).1
      go_wp2_with fail
      go_ret
      exact ⟨by rw [HV.out]; rfl, H1.out.2.2.trans (((HS.out w7 Bw7.out).1).mono H1.out.2.2.size)⟩
     ·have HV := Hd hh
      clear hno hh
      have d0 : decide (s.set = 0) = true := decide_eq_true e0
      rw [d0] at hem
      clear d0 e0
      rw [k0] at y0 HS
      clear k0
      unfold inB at s0
      have HS0 := Hd s0
      clear s0
      go_wp2_with fail
      refine (hem w5).mono ?_
      rintro e w6 ⟨rfl, hbw6⟩
      have Bw6 := Hd ((Below.refl w5.heap.size w5).trans (hbw6.mono (Below.refl w5.heap.size w5).size))
      clear hbw6 y0 y1 y2 y3 y4 y5
      obtain ⟨_, y0, y1, y2, y3, y4, y5⟩ := HS.out w6 Bw6.out
      obtain ⟨⟨g0, g1, g2, g3, g4⟩, x0, x1, x2, x3, x4, x5, x6⟩ := HF.out w6 (HS.out w6 Bw6.out).1
      go_wp2_with fail
      refine (rsort_any w6 _ _ _ _ _ _ _ s.sort true HS0.out).mono ?_
      rintro e w7 ⟨rfl, hbw7⟩
      have Bw7 := Hd (Bw6.out.trans (hbw7.mono Bw6.out.size))
      clear hbw7 y0 y1 y2 y3 y4 y5 g0 g1 g2 g3 g4 x0 x1 x2 x3 x4 x5 x6
      obtain ⟨_, y0, y1, y2, y3, y4, y5⟩ := HS.out w7 Bw7.out
      obtain ⟨⟨g0, g1, g2, g3, g4⟩, x0, x1, x2, x3, x4, x5, x6⟩ := HF.out w7 (HS.out w7 Bw7.out).1
      go_wp2_with fail
      go_roundg (p.right.length - (i + 1))
      case measure => have := HR.out.1; omega
      case rel =>
       refine ⟨i + 1, by omega, rfl, rfl, fun t ht => ?_, (HS.out w7 Bw7.out).1⟩
       rw [List.take_add_one, HR.out.2.2.2.1] at ht
       rcases List.mem_append.1 ht with ht | ht
       ·exact HR.out.2.1 t ht
       ·simp at ht; subst ht; exact HV.out
     ·have HV := Hd (hno hh)
      clear hno hh
      have d0 : (s.kind != 0) = true := by simpa using k0
      have d1 : (s.kind != 1) = true := by simpa using k1
      have b0 : (s.kind == 0) = false := by simpa using k0
      have b1 : (s.kind == 1) = false := by simpa using k1
      clear hem
      go_wp2_with fail
      go_ret
      exact ⟨by rw [HV.out]; rfl, H1.out.2.2.trans ((H5.out.2).mono H1.out.2.2.size)⟩
    ·obtain rfl : i = p.right.length := by omega
     have HV := Hd (An (show prodB g p = true from by
      unfold prodB
      rw [HHD.out, Bool.true_and, List.all_eq_true]
      intro s hs
      exact hdone s (by rw [List.take_length]; exact hs)) hb)
     clear hdone hb hm
     go_wp2_with fail
     go_ret
     exact ⟨by rw [HV.out.1]; rfl, H1.out.2.2.trans (HV.out.2.mono H1.out.2.2.size)⟩
end Go.Proofs.YtknpkndiflodbaaGreatDoor.Tb
namespace Go.Proofs.YtknpkndiflodbaaGreatDoor.Tb
open Go Go.RowKit Go.Proofs Mx
def rfbR (gb tb pb po sb so n k pl pc rl rc B : Nat) (yk : Int) (yw : Int × Int × Int × Int) (ys : Int) (j : Nat) (v : Value) (W : World) : Prop :=
 match j with
 | 0 => v = .pointer (some ⟨gb, 1, none⟩)
 | 1 => v = .slice (some ⟨pb, po, none⟩) pl pc
 | 2 => v = .pointer (some ⟨tb, 0, none⟩)
 | 3 => v = .int .i64 (n : Int)
 | 4 => v = .pointer (some ⟨pb, po + n * 7, none⟩)
 | 5 => v = .pointer (some ⟨pb, po + n * 7 + 1, none⟩)
 | 6 => v = .slice (some ⟨sb, so, none⟩) rl rc
 | 7 => v = .pointer (some ⟨tb, 1, none⟩)
 | 8 => v = .int .i64 ((k : Int) + 1)
 | 9 => v = .int .i64 (k : Int)
 | 10 => v = .pointer (some ⟨sb, so + k * 6, none⟩)
 | 11 => v = .agg #[.int .i64 yk, .int .u64 yw.1, .int .u64 yw.2.1, .int .u64 yw.2.2.1, .int .u64 yw.2.2.2, .int .i64 ys]
 | 12 => ∃ b, v = .pointer (some ⟨b, 0, none⟩) /\ Blk W b 28 #[.int .i64 0, .int .u64 0, .int .u64 0, .int .u64 0, .int .u64 0, .int .i64 0] /\ B <= b
 | _ => True
theorem rfbR_stab {gb tb pb po sb so n k pl pc rl rc B : Nat} {yk : Int} {yw : Int × Int × Int × Int} {ys : Int} (j : Nat) (v : Value) {w w' : World} (h : rfbR gb tb pb po sb so n k pl pc rl rc B yk yw ys j v w) (hb : Below w.heap.size w w') : rfbR gb tb pb po sb so n k pl pc rl rc B yk yw ys j v w' := by
 unfold rfbR at h ⊢
 split at h
 all_goals first | trivial | exact h | (obtain ⟨b, e, h1, h2⟩ := h; exact ⟨b, e, h1.below hb h1.lt, h2⟩)
theorem rforbid_any (g : Gr) (hpm : g.prods.length <= 2000000) (hrm : ∀ p ∈ g.prods, p.right.length <= 2000000) (w : World) (sv pv fv lv : Value) (hP : ProdsAt (fun _ => True) w pv g.prods) (f : Int × Int × Int) (hf : FbOk f) :
  Calls Tryz.prog 76 #[.agg #[sv, pv, .int .i64 g.start, fv, lv], .agg #[.int .i64 f.1, .int .i64 f.2.1, .int .i64 f.2.2]] w fun e w' => e = .returned (.bool (fbB g f)) /\ Below w.heap.size w w' := by
 obtain ⟨pa, pc, rfl⟩ := prodsAt_shape hP
 obtain ⟨fp, fa, fc⟩ := f
 simp only
 obtain ⟨r, hr⟩ : ∃ r, fbB g (fp, fa, fc) = r := ⟨_, rfl⟩
 rw [hr]
 obtain ⟨i1, i2, i3⟩ := hf
 have HI := Hd (An i1 (An i2 i3))
 have HK := Hd (An hP (An hrm hr))
 clear hP hrm hr i1 i2 i3
 go_enter Tryz.func76, Tryz.ntmps76
 go_upto_region 1 with fail
 have hB0 : Blk ((w.alloc (.cells #[sv, .slice pa g.prods.length pc, .int .i64 g.start, fv, lv] 39)).alloc (.cells #[.int .i64 fp, .int .i64 fa, .int .i64 fc] 147)) w.heap.size 39 #[sv, .slice pa g.prods.length pc, .int .i64 g.start, fv, lv] := (Blk.new _ _ _).alloc _
 have hB1 : Blk ((w.alloc (.cells #[sv, .slice pa g.prods.length pc, .int .i64 g.start, fv, lv] 39)).alloc (.cells #[.int .i64 fp, .int .i64 fa, .int .i64 fc] 147)) (w.heap.size + 1) 147 #[.int .i64 fp, .int .i64 fa, .int .i64 fc] := Blk.new_ (by simp) _ _
 have hb0 : Below w.heap.size w ((w.alloc (.cells #[sv, .slice pa g.prods.length pc, .int .i64 g.start, fv, lv] 39)).alloc (.cells #[.int .i64 fp, .int .i64 fa, .int .i64 fc] 147)) := ((Below.refl _ w).alloc (Nat.le_refl _) _).alloc (by simp) _
 generalize ((w.alloc (.cells #[sv, .slice pa g.prods.length pc, .int .i64 g.start, fv, lv] 39)).alloc (.cells #[.int .i64 fp, .int .i64 fa, .int .i64 fc] 147)) = W1 at hB0 hB1 hb0 ⊢
 have H1 := Hd (An hB0 (An hB1 hb0))
 have g1 := hB0.cell 1
 obtain ⟨x0, x1, x2, _⟩ := hB1.facts3
 simp at g1
 clear hB0 hB1 hb0
 by_cases p0 : fp < 0
 ·have d1 : decide (fp < 0) = true := decide_eq_true p0
  have hv : r = false := by rw [<- HK.out.2.2]; unfold fbB prodAt; simp only; rw [if_neg (by omega)]
  clear HK
  go_wp2_with fail
  go_ret
  exact ⟨by first | rfl | (rw [hv]; rfl), H1.out.2.2⟩
 ·have d1 : decide (fp < 0) = false := decide_eq_false p0
  by_cases p1 : (g.prods.length : Int) <= fp
  ·have d2 : decide ((g.prods.length : Int) <= fp) = true := decide_eq_true p1
   have hv : r = false := by rw [<- HK.out.2.2]; unfold fbB prodAt; simp only; rw [if_pos (by omega), List.getElem?_eq_none (by omega)]
   clear HK
   go_wp2_with fail
   go_ret
   exact ⟨by first | rfl | (rw [hv]; rfl), H1.out.2.2⟩
  ·have d2 : decide ((g.prods.length : Int) <= fp) = false := decide_eq_false p1
   by_cases c0 : fc < 0
   ·have d3 : decide (fc < 0) = true := decide_eq_true c0
    have hv : r = false := by rw [<- HK.out.2.2]; unfold fbB prodAt; simp only; rw [if_neg (show ¬ 0 <= fc by omega)]; cases (if 0 <= fp then g.prods[fp.toNat]? else none) <;> rfl
    clear HK
    go_wp2_with fail
    go_ret
    exact ⟨by first | rfl | (rw [hv]; rfl), H1.out.2.2⟩
   ·have d3 : decide (fc < 0) = false := decide_eq_false c0
    by_cases c1 : (g.prods.length : Int) <= fc
    ·have d4 : decide ((g.prods.length : Int) <= fc) = true := decide_eq_true c1
     have hv : r = false := by rw [<- HK.out.2.2]; unfold fbB prodAt; simp only; rw [if_pos (show 0 <= fc by omega), List.getElem?_eq_none (show g.prods.length <= fc.toNat by omega)]; cases (if 0 <= fp then g.prods[fp.toNat]? else none) <;> rfl
     clear HK
     go_wp2_with fail
     go_ret
     exact ⟨by first | rfl | (rw [hv]; rfl), H1.out.2.2⟩
    ·have d4 : decide ((g.prods.length : Int) <= fc) = false := decide_eq_false c1
     obtain ⟨n, rfl⟩ : ∃ n : Nat, fp = (n : Int) := ⟨fp.toNat, by omega⟩
     obtain ⟨m, rfl⟩ : ∃ m : Nat, fc = (m : Int) := ⟨fc.toNat, by omega⟩
     have hnl : n < g.prods.length := by omega
     have hml : m < g.prods.length := by omega
     obtain ⟨p, hp⟩ : ∃ p, g.prods[n]? = some p := ⟨_, List.getElem?_eq_getElem hnl⟩
     obtain ⟨q, hq⟩ : ∃ q, g.prods[m]? = some q := ⟨_, List.getElem?_eq_getElem hml⟩
     have hfb : r = (!decide (p.role = 11) && !decide (q.role = 11) && !decide (fa < 1) && !decide ((p.right.length : Int) < fa) && (match p.right[(fa - 1).toNat]? with | some s => decide (s.kind = 1) && decide (s.sort = q.left) | none => false)) := by
      rw [<- HK.out.2.2]
      unfold fbB prodAt
      simp only
      rw [if_pos (by omega), if_pos (by omega), show ((n : Int)).toNat = n from rfl, show ((m : Int)).toNat = m from rfl, hp, hq]
      rfl
     obtain ⟨cap, pb, po, vr, epv, hbl, hvr, hpc⟩ := HK.out.1.at_ hp
     obtain ⟨cap2, pb2, po2, vr2, epv2, hbl2, hvr2, hpc2⟩ := HK.out.1.at_ hq
     injection epv with u1 u2 u3
     subst u1
     subst u3
     injection epv2 with u1 u2 u3
     injection u1 with u1
     injection u1 with u1 u4
     subst u1
     subst u4
     subst u3
     clear u2
     obtain ⟨ra, rc, rfl, hrc1, hrc2, hrk⟩ := hvr
     have up2 : ∀ {b i : Nat} {u : Value}, b < w.heap.size -> w.cell? ⟨b, i, none⟩ = some u -> W1.cell? ⟨b, i, none⟩ = some u := fun hb h => (World.cell?_of_block (H1.out.2.2.block _ hb)).trans h
     have v1 := up2 hbl (hpc 1 _ rfl)
     have v3 := up2 hbl (hpc 3 _ rfl)
     have v0 := up2 hbl (hpc2 0 _ rfl)
     have v4 := up2 hbl (hpc2 3 _ rfl)
     simp only [Nat.add_zero] at v0
     have hrl := HK.out.2.1 p (List.mem_of_getElem? hp)
     have hn0 : (0 : Int) <= (n : Int) := by omega
     have hm0 : (0 : Int) <= (m : Int) := by omega
     have hn1 : (n : Int) < (g.prods.length : Int) := by omega
     have hm1 : (m : Int) < (g.prods.length : Int) := by omega
     have HV := Hd (An hfb hrk)
     clear hpc hpc2 hvr2 hp hq hfb hrk HK
     by_cases rp : p.role = 11
     ·rw [rp] at v3
      have hv : r = false := by rw [HV.out.1, rp]; rfl
      clear rp
      go_wp2_with fail
      go_ret
      exact ⟨by first | rfl | (rw [hv]; rfl), H1.out.2.2⟩
     ·have d5 : (p.role == 11) = false := by simpa using rp
      have hv1 := Hd rp
      clear rp
      by_cases rq : q.role = 11
      ·rw [rq] at v4
       have hv : r = false := by rw [HV.out.1, rq]; cases decide (p.role = 11) <;> rfl
       clear rq
       go_wp2_with fail
       go_ret
       exact ⟨by first | rfl | (rw [hv]; rfl), H1.out.2.2⟩
      ·have d6 : (q.role == 11) = false := by simpa using rq
       have hv2 := Hd rq
       clear rq
       by_cases a0 : fa < 1
       ·have d7 : decide (fa < 1) = true := decide_eq_true a0
        have hv : r = false := by rw [HV.out.1, decide_eq_false hv1.out, decide_eq_false hv2.out, decide_eq_true a0]; rfl
        go_wp2_with fail
        go_quiet (fail)
        go_wp2_with fail
        go_ret
        exact ⟨by first | rfl | (rw [hv]; rfl), below_drewN H1.out.2.2 _⟩
       ·have d7 : decide (fa < 1) = false := decide_eq_false a0
        by_cases a1 : (p.right.length : Int) < fa
        ·have d8 : decide ((p.right.length : Int) < fa) = true := decide_eq_true a1
         have hv : r = false := by rw [HV.out.1, decide_eq_false hv1.out, decide_eq_false hv2.out, decide_eq_false a0, decide_eq_true a1]; rfl
         go_wp2_with fail
         go_quiet (fail)
         go_wp2_with fail
         go_ret
         exact ⟨by first | rfl | (rw [hv]; rfl), below_drewN H1.out.2.2 _⟩
        ·obtain ⟨k, rfl⟩ : ∃ k : Nat, fa = (k : Int) + 1 := ⟨(fa - 1).toNat, by omega⟩
         have hkl : k < p.right.length := by omega
         obtain ⟨⟨yk, yS, ys⟩, hsy⟩ : ∃ s, p.right[k]? = some s := ⟨_, List.getElem?_eq_getElem hkl⟩
         have hv : r = (decide (yk = 1) && decide (ys = q.left)) := by
          rw [HV.out.1, decide_eq_false hv1.out, decide_eq_false hv2.out, decide_eq_false a0, decide_eq_false a1, show ((k : Int) + 1 - 1).toNat = k by omega, hsy]
          rfl
         have d8 : decide ((k : Int) + 1 < 1) = false := decide_eq_false (by omega)
         have d9 : decide ((p.right.length : Int) < (k : Int) + 1) = false := decide_eq_false (by omega)
         obtain ⟨sb, so, rfl, hsD, hsr⟩ := HV.out.2 (by rintro h; rw [h] at hkl; simp at hkl)
         have s0 := up2 hsr.lt (hsr.cells k _ hsy 0 _ rfl)
         have s1 : W1.cell? ⟨sb, so + k * 6 + 1, none⟩ = some (.int .u64 (wd yS 0)) := up2 hsr.lt (hsr.cells k _ hsy 1 _ rfl)
         have s2 : W1.cell? ⟨sb, so + k * 6 + 2, none⟩ = some (.int .u64 (wd yS 1)) := up2 hsr.lt (hsr.cells k _ hsy 2 _ rfl)
         have s3 : W1.cell? ⟨sb, so + k * 6 + 3, none⟩ = some (.int .u64 (wd yS 2)) := up2 hsr.lt (hsr.cells k _ hsy 3 _ rfl)
         have s4 : W1.cell? ⟨sb, so + k * 6 + 4, none⟩ = some (.int .u64 (wd yS 3)) := up2 hsr.lt (hsr.cells k _ hsy 4 _ rfl)
         have s5 : W1.cell? ⟨sb, so + k * 6 + 5, none⟩ = some (.int .i64 ys) := up2 hsr.lt (hsr.cells k _ hsy 5 _ rfl)
         simp only [Nat.add_zero] at s0
         obtain ⟨y0, hy0⟩ : ∃ z, wd yS 0 = z := ⟨_, rfl⟩
         obtain ⟨y1, hy1⟩ : ∃ z, wd yS 1 = z := ⟨_, rfl⟩
         obtain ⟨y2, hy2⟩ : ∃ z, wd yS 2 = z := ⟨_, rfl⟩
         obtain ⟨y3, hy3⟩ : ∃ z, wd yS 3 = z := ⟨_, rfl⟩
         rw [hy0] at s1
         rw [hy1] at s2
         rw [hy2] at s3
         rw [hy3] at s4
         have HVR := Hd hv
         clear hv hv1 hv2 hsr hsy hy0 hy1 hy2 hy3 a0 a1
         go_wp2_with fail
         go_quiet (fail)
         go_upto_region 5 with fail
         generalize hw9 : World.drewN W1 _ = w9
         obtain ⟨nq, hw9⟩ : ∃ nq, World.drewN W1 nq = w9 := ⟨_, hw9⟩
         have hb9 := below_drewN H1.out.2.2 nq
         rw [hw9] at hb9
         have c9 : ∀ {a : Addr} {u : Value}, W1.cell? a = some u -> w9.cell? a = some u := fun h => by rw [<- hw9]; exact h
         have HC := Hd (show ∀ W, Below w9.heap.size w9.drew W -> W.cell? ⟨w.heap.size, 1, none⟩ = some (.slice (some ⟨pb, po, none⟩) g.prods.length pc) /\ W.cell? ⟨w.heap.size + 1, 0, none⟩ = some (.int .i64 n) /\ W.cell? ⟨w.heap.size + 1, 1, none⟩ = some (.int .i64 ((k : Int) + 1)) /\ W.cell? ⟨w.heap.size + 1, 2, none⟩ = some (.int .i64 m) /\ W.cell? ⟨pb, po + n * 7 + 1, none⟩ = some (.slice (some ⟨sb, so, none⟩) p.right.length rc) /\ W.cell? ⟨pb, po + m * 7, none⟩ = some (.int .i64 q.left) /\
          W.cell? ⟨sb, so + k * 6, none⟩ = some (.int .i64 yk) /\ W.cell? ⟨sb, so + k * 6 + 1, none⟩ = some (.int .u64 y0) /\ W.cell? ⟨sb, so + k * 6 + 2, none⟩ = some (.int .u64 y1) /\ W.cell? ⟨sb, so + k * 6 + 3, none⟩ = some (.int .u64 y2) /\ W.cell? ⟨sb, so + k * 6 + 4, none⟩ = some (.int .u64 y3) /\ W.cell? ⟨sb, so + k * 6 + 5, none⟩ = some (.int .i64 ys) /\ w9.heap.size <= W.heap.size from fun W h => by
          have st : ∀ {b i : Nat} {u : Value}, w9.cell? ⟨b, i, none⟩ = some u -> W.cell? ⟨b, i, none⟩ = some u := fun {b i u} hc => by
           have hlt : b < w9.heap.size := World.block_lt_of_cell? _ _ hc
           exact (World.cell?_of_block (h.block b hlt)).trans hc
          exact ⟨st (c9 g1), st (c9 x0), st (c9 x1), st (c9 x2), st (c9 v1), st (c9 v0), st (c9 s0), st (c9 s1), st (c9 s2), st (c9 s3), st (c9 s4), st (c9 s5), h.size⟩)
         have hk0 : (0 : Int) <= (k : Int) := by omega
         have hk1 : (k : Int) < (p.right.length : Int) := by omega
         have hwk : IntKind.i64.wrap (k : Int) = (k : Int) := IntWalk.i64_in _ (by omega)
         have hwk2 : IntKind.i64.wrap ((k : Int) + 1 - 1) = (k : Int) := by rw [show (k : Int) + 1 - 1 = k by omega]; exact hwk
         have T9 := Hd hb9
         clear hb9 c9 hw9 x0 x1 x2 g1 v1 v0 v3 v4 s0 s1 s2 s3 s4 s5 up2
         refine wp_region_conc 13 (rfbR w.heap.size (w.heap.size + 1) pb po sb so n k g.prods.length pc p.right.length rc w9.heap.size yk (y0, y1, y2, y3) ys) (fun A W => Below A.heap.size A W) (fun _ _ => True) (by kernel_rfl) (by kernel_rfl) (by kernel_rfl) (by kernel_rfl) (Below.refl _ _) trivial (fun h k => h.trans (k.mono h.size)) ?_ ?_
         ·simp only [List.take_succ_cons, List.take_zero]
          refine ⟨?_, ?_, ?_, ?_, ?_, ?_, ?_, ?_, ?_, ?_, ?_, ?_, ?_, trivial⟩
          ·intro L T W hG hJ hLs hLi dq fq vq K hK
           have h1 := fq 2 (by decide)
           simp at h1
           go_simp
           exact hK _ _ (Below.refl _ W) (fun j u _ _ _ h => h) trivial rfl
          ·intro L T W hG hJ hLs hLi dq fq vq K hK
           have h1 := vq ⟨0, .data⟩ (by simp) rfl 66 rfl
           simp only [rfbR] at h1
           simp at h1
           obtain ⟨f0, f1, f2, f3, f4, f5, f6, f7, f8, f9, f10, f11, f12⟩ := HC.out W hG
           go_simp
           exact hK _ _ (Below.refl _ W) (fun j u _ _ _ h => h) trivial rfl
          ·intro L T W hG hJ hLs hLi dq fq vq K hK
           have h1 := fq 3 (by decide)
           simp at h1
           go_simp
           exact hK _ _ (Below.refl _ W) (fun j u _ _ _ h => h) trivial rfl
          ·intro L T W hG hJ hLs hLi dq fq vq K hK
           have h1 := vq ⟨2, .data⟩ (by simp) rfl 68 rfl
           simp only [rfbR] at h1
           simp at h1
           obtain ⟨f0, f1, f2, f3, f4, f5, f6, f7, f8, f9, f10, f11, f12⟩ := HC.out W hG
           go_simp
           exact hK _ _ (Below.refl _ W) (fun j u _ _ _ h => h) trivial rfl
          ·intro L T W hG hJ hLs hLi dq fq vq K hK
           have h1 := vq ⟨1, .data⟩ (by simp) rfl 67 rfl
           simp only [rfbR] at h1
           have h2 := vq ⟨3, .data⟩ (by simp) rfl 69 rfl
           simp only [rfbR] at h2
           simp at h1 h2
           go_simp
           exact hK _ _ (Below.refl _ W) (fun j u _ _ _ h => h) trivial rfl
          ·intro L T W hG hJ hLs hLi dq fq vq K hK
           have h1 := vq ⟨4, .data⟩ (by simp) rfl 70 rfl
           simp only [rfbR] at h1
           simp at h1
           go_simp
           exact hK _ _ (Below.refl _ W) (fun j u _ _ _ h => h) trivial rfl
          ·intro L T W hG hJ hLs hLi dq fq vq K hK
           have h1 := vq ⟨5, .data⟩ (by simp) rfl 71 rfl
           simp only [rfbR] at h1
           simp at h1
           obtain ⟨f0, f1, f2, f3, f4, f5, f6, f7, f8, f9, f10, f11, f12⟩ := HC.out W hG
           go_simp
           exact hK _ _ (Below.refl _ W) (fun j u _ _ _ h => h) trivial rfl
          ·intro L T W hG hJ hLs hLi dq fq vq K hK
           have h1 := fq 3 (by decide)
           simp at h1
           go_simp
           exact hK _ _ (Below.refl _ W) (fun j u _ _ _ h => h) trivial rfl
          ·intro L T W hG hJ hLs hLi dq fq vq K hK
           have h1 := vq ⟨7, .data⟩ (by simp) rfl 73 rfl
           simp only [rfbR] at h1
           simp at h1
           obtain ⟨f0, f1, f2, f3, f4, f5, f6, f7, f8, f9, f10, f11, f12⟩ := HC.out W hG
           go_simp
           exact hK _ _ (Below.refl _ W) (fun j u _ _ _ h => h) trivial rfl
          ·intro L T W hG hJ hLs hLi dq fq vq K hK
           have h1 := vq ⟨8, .data⟩ (by simp) rfl 74 rfl
           simp only [rfbR] at h1
           simp at h1
           go_simp
           exact hK _ _ (Below.refl _ W) (fun j u _ _ _ h => h) trivial rfl
          ·intro L T W hG hJ hLs hLi dq fq vq K hK
           have h1 := vq ⟨6, .data⟩ (by simp) rfl 72 rfl
           simp only [rfbR] at h1
           have h2 := vq ⟨9, .data⟩ (by simp) rfl 75 rfl
           simp only [rfbR] at h2
           simp at h1 h2
           go_simp
           exact hK _ _ (Below.refl _ W) (fun j u _ _ _ h => h) trivial rfl
          ·intro L T W hG hJ hLs hLi dq fq vq K hK
           have h1 := vq ⟨10, .data⟩ (by simp) rfl 76 rfl
           simp only [rfbR] at h1
           simp at h1
           obtain ⟨f0, f1, f2, f3, f4, f5, f6, f7, f8, f9, f10, f11, f12⟩ := HC.out W hG
           go_simp
           exact hK _ _ (Below.refl _ W) (fun j u _ _ _ h => h) trivial rfl
          ·intro L T W hG hJ hLs hLi dq fq vq K hK
           go_simp
           have hbn := (Below.refl W.heap.size W).alloc (Nat.le_refl _) (.cells #[.int .i64 0, .int .u64 0, .int .u64 0, .int .u64 0, .int .u64 0, .int .i64 0] 28)
           obtain ⟨f0, f1, f2, f3, f4, f5, f6, f7, f8, f9, f10, f11, f12⟩ := HC.out W hG
           exact hK _ _ hbn (fun j u _ _ _ h => rfbR_stab j u h hbn) trivial ⟨_, rfl, Blk.new W _ _, f12⟩
         ·intro f9 W5 hG hJe hR
          have e11 := hR 11 77 (by decide) rfl
          obtain ⟨yb, e12, k9, k10⟩ := hR 12 5 (by decide) rfl
          simp only [concDsts, List.take_succ_cons, List.take_zero, List.drop_succ_cons, List.drop_zero, List.filterMap_cons, List.filterMap_nil, List.foldl_cons, List.foldl_nil, List.setIfInBounds_toArray, List.set_cons_zero, List.set_cons_succ]
          simp only [rfbR] at e11
          rw [e11, e12]
          clear e11 e12 hR
          generalize f9 66 = v66
          generalize f9 67 = v67
          generalize f9 68 = v68
          generalize f9 69 = v69
          generalize f9 70 = v70
          generalize f9 71 = v71
          generalize f9 72 = v72
          generalize f9 73 = v73
          generalize f9 74 = v74
          generalize f9 75 = v75
          generalize f9 76 = v76
          clear f9
          have hbz : Below w9.heap.size W5 ((((((W5.setCell ⟨yb, 0, none⟩ (.int .i64 yk)).setCell ⟨yb, 1, none⟩ (.int .u64 y0)).setCell ⟨yb, 2, none⟩ (.int .u64 y1)).setCell ⟨yb, 3, none⟩ (.int .u64 y2)).setCell ⟨yb, 4, none⟩ (.int .u64 y3)).setCell ⟨yb, 5, none⟩ (.int .i64 ys)) := ((((((Below.refl _ _).setCell k10 _).setCell k10 _).setCell k10 _).setCell k10 _).setCell k10 _).setCell k10 _
          have hYz : Blk ((((((W5.setCell ⟨yb, 0, none⟩ (.int .i64 yk)).setCell ⟨yb, 1, none⟩ (.int .u64 y0)).setCell ⟨yb, 2, none⟩ (.int .u64 y1)).setCell ⟨yb, 3, none⟩ (.int .u64 y2)).setCell ⟨yb, 4, none⟩ (.int .u64 y3)).setCell ⟨yb, 5, none⟩ (.int .i64 ys)) yb 28 #[.int .i64 yk, .int .u64 y0, .int .u64 y1, .int .u64 y2, .int .u64 y3, .int .i64 ys] := by
           have h := ((((((k9).set_ 0 (.int .i64 yk)).set_ 1 (.int .u64 y0)).set_ 2 (.int .u64 y1)).set_ 3 (.int .u64 y2)).set_ 4 (.int .u64 y3)).set_ 5 (.int .i64 ys)
           simpa using h
          have z0 := k9.cell 0
          have z1 := k9.cell 1
          have z2 := k9.cell 2
          have z3 := k9.cell 3
          have z4 := k9.cell 4
          have z5 := k9.cell 5
          have zz := k9.frozen
          simp at z0 z1 z2 z3 z4 z5
          have HGz := Hd (An hG (An hbz hYz))
          clear hbz hYz hG hJe
          go_upto_region 6 with fail
          have hG := HGz.out.1
          have hbz := HGz.out.2.1
          have hYz := HGz.out.2.2
          generalize ((((((W5.setCell ⟨yb, 0, none⟩ (.int .i64 yk)).setCell ⟨yb, 1, none⟩ (.int .u64 y0)).setCell ⟨yb, 2, none⟩ (.int .u64 y1)).setCell ⟨yb, 3, none⟩ (.int .u64 y2)).setCell ⟨yb, 4, none⟩ (.int .u64 y3)).setCell ⟨yb, 5, none⟩ (.int .i64 ys)) = wz at hbz hYz ⊢
          have hGz : Below w9.heap.size w9.drew wz := (show Below w9.heap.size w9.drew W5 from hG).trans hbz
          have hb9z : Below w9.heap.size w9 wz := (show Below w9.heap.size w9 w9.drew from (Below.refl _ _).drew).trans hGz
          clear z0 z1 z2 z3 z4 z5 zz k9 k10
          have z0 := hYz.cell 0
          have z5 := hYz.cell 5
          simp at z0 z5
          obtain ⟨f0, f1, f2, f3, f4, f5, _⟩ := HC.out wz hGz
          have T10 := Hd (T9.out.trans (hb9z.mono T9.out.size))
          clear hG hbz hYz hGz hb9z f1 f2 f4 HGz
          by_cases hk1 : yk = 1
          ·by_cases hs1 : ys = q.left
           ·have hv : r = true := by rw [HVR.out, hk1, hs1]; simp
            rw [hk1] at z0
            rw [hs1] at z5
            clear hk1 hs1
            go_quiet (fail)
            go_wp2_with fail
            go_ret
            exact ⟨by first | rfl | (rw [hv]; rfl), below_drewN T10.out _⟩
           ·have hv : r = false := by rw [HVR.out, decide_eq_false hs1]; simp
            have e1 : (ys == q.left) = false := by simpa using hs1
            rw [hk1] at z0
            clear hk1 hs1
            go_quiet (fail)
            go_wp2_with fail
            go_ret
            exact ⟨by first | rfl | (rw [hv]; rfl), below_drewN T10.out _⟩
          ·have hv : r = false := by rw [HVR.out, decide_eq_false hk1]; rfl
           have e1 : (yk == 1) = false := by simpa using hk1
           clear hk1
           go_quiet (fail)
           go_wp2_with fail
           go_ret
           exact ⟨by first | rfl | (rw [hv]; rfl), below_drewN T10.out _⟩
end Go.Proofs.YtknpkndiflodbaaGreatDoor.Tb
