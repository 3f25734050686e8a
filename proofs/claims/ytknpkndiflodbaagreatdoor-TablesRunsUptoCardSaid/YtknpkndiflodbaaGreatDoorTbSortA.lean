/-
  SETS AS KEYS of a map.
  WALKS of package sets: Split, but for its sort.
  WALKS of package sets: Least, and the order of Split's parts.
  WALKS: slices.SortFunc at items.
  WALKS: the order of Split's parts, slices.SortFunc at sets.
-/
import Derived.Test.YtknpkndiflodbaaGreatDoorTbSetsA
import Derived.Test.YtknpkndiflodbaaGreatDoorMapA
import Derived.Test.YtknpkndiflodbaaGreatDoorTbPureA
import Derived.Test.YtknpkndiflodbaaGreatDoorTbBytes
import Derived.Test.YtknpkndiflodbaaGreatDoorRowsA
import Derived.Deep.RegionWith
import Derived.OwnWalk
import Derived.Test.YtknpkndiflodbaaGreatDoorSortL
import Derived.Test.YtknpkndiflodbaaGreatDoorSortRow
import Derived.Test.YtknpkndiflodbaaGreatDoorTbOrderA
set_option linter.unusedVariables false
namespace Go.Proofs.YtknpkndiflodbaaGreatDoor.Tb
open Go Go.RowKit Go.Proofs Go.Maps Go.WideMaps Mx
theorem laidOut : laidOutB Tryz.prog = true := by kernel_rfl
theorem setArr : ArrKey Tryz.prog 26 24 4 := ⟨Tryz.underlying26, by kernel_rfl, by kernel_rfl, by kernel_rfl⟩
theorem typesSize : ∃ m, Tryz.prog.types.size = m + 1 := ⟨Tryz.prog.types.size - 1, by have h : (0 < Tryz.prog.types.size) := of_decide_eq_true (by kernel_rfl); omega⟩
theorem setLaw : KeyLaw Tryz.prog 26 := setArr.law
def keyS (M : Nat) : Lit := .string (keyBytes [.int .u64 (wd M 0), .int .u64 (wd M 1), .int .u64 (wd M 2), .int .u64 (wd M 3)])
theorem keyOf_set (M : Nat) : keyOf Tryz.prog 26 (.agg #[.int .u64 (wd M 0), .int .u64 (wd M 1), .int .u64 (wd M 2), .int .u64 (wd M 3)]) = some (keyS M) := by
  have hw : ∀ j, (Lit.int .u64 (wd M j)).wf = true := fun j => by
    have := wd_range M j
    simp [Lit.wf, IntKind.min, IntKind.max, IntKind.bits, IntKind.signed]
    omega
  exact keyOf_arr4 setArr Tryz.underlying24 typesSize (hw 0) (hw 1) (hw 2) (hw 3)
theorem wd_inj {M N : Nat} (hM : M < 2 ^ 256) (hN : N < 2 ^ 256) (h : ∀ j, j < 4 → wd M j = wd N j) : M = N := by
  apply Nat.eq_of_testBit_eq
  intro i
  rcases Nat.lt_or_ge i 256 with hi | hi
  · have hj : i / 64 < 4 := by omega
    have h1 := h (i / 64) hj
    have h2 : M / 2 ^ (64 * (i / 64)) % 18446744073709551616 = N / 2 ^ (64 * (i / 64)) % 18446744073709551616 := by unfold wd at h1; omega
    have h3 := wd_bits M (i / 64) (i % 64)
    have h4 := wd_bits N (i / 64) (i % 64)
    rw [h2, h4] at h3
    have h5 : i % 64 < 64 := Nat.mod_lt _ (by decide)
    have h6 : 64 * (i / 64) + i % 64 = i := Nat.div_add_mod i 64
    simp [h5, h6] at h3
    exact h3.symm
  · rw [Nat.testBit_lt_two_pow (Nat.lt_of_lt_of_le hM (Nat.pow_le_pow_right (by decide) hi)), Nat.testBit_lt_two_pow (Nat.lt_of_lt_of_le hN (Nat.pow_le_pow_right (by decide) hi))]
theorem keyS_inj {M N : Nat} (hM : M < 2 ^ 256) (hN : N < 2 ^ 256) (h : keyS M = keyS N) : M = N := by
  have h1 := setLaw.inj (keyOf_set M) (by rw [h]; exact keyOf_set N)
  injection h1 with h1
  injection h1 with h1
  simp at h1
  exact wd_inj hM hN (fun j hj => by
    rcases (show j = 0 ∨ j = 1 ∨ j = 2 ∨ j = 3 by omega) with rfl | rfl | rfl | rfl
    · exact h1.1
    · exact h1.2.1
    · exact h1.2.2.1
    · exact h1.2.2.2)
end Go.Proofs.YtknpkndiflodbaaGreatDoor.Tb
set_option linter.unusedVariables false
set_option linter.unusedSimpArgs false
namespace Go.Proofs.YtknpkndiflodbaaGreatDoor.Tb
open Go Go.RowKit Go.Proofs Go.Maps Mx
theorem notM_eq {s : Nat} (h : s < 2 ^ 256) : notM s = 2 ^ 256 - 1 - s := by
  apply Nat.eq_of_testBit_eq
  intro i
  rw [testBit_not s i h]
  unfold notM fullM
  rw [Nat.testBit_xor, Nat.testBit_two_pow_sub_one]
  by_cases hi : i < 256
  · simp [hi]
  · rw [Nat.testBit_lt_two_pow (Nat.lt_of_lt_of_le h (Nat.pow_le_pow_right (by omega) (by omega)))]
    simp [hi]
theorem parts_len {l : List Nat} (h : Parts l) : l.length ≤ 256 := by
  have h1 : (l.map leastF).Nodup := by
    rw [List.nodup_iff_pairwise_ne, List.pairwise_map]
    refine List.Pairwise.imp_of_mem ?_ h.2
    intro a b ha hb hab e
    have h1 := leastF_bit (h.1 a ha).1 (h.1 a ha).2
    have h2 := leastF_bit (h.1 b hb).1 (h.1 b hb).2
    rw [e] at h1
    exact (apart_iff _ _).1 hab _ ⟨h1, h2⟩
  have h2 := nodup_le (l.map leastF) (List.range 256) h1 (fun x hx => by
    obtain ⟨M, _, rfl⟩ := List.mem_map.1 hx
    unfold leastF
    cases h : (List.range 256).find? fun b => M.testBit b with
    | none => simp
    | some b => have := List.mem_of_find?_eq_some h; simpa using this)
  simpa using h2
theorem putV_set (f : Lit → Option Value) {M N : Nat} (v : Value) (hM : M < 2 ^ 256) (hN : N < 2 ^ 256) : putV f (keyS M) v (keyS N) = if N = M then some v else f (keyS N) := by
  by_cases e : N = M
  · subst e
    rw [if_pos rfl]
    exact putV_same f v (setLaw.str (keyOf_set N) |> fun ⟨_, h⟩ => by rw [h]; trivial)
  · rw [if_neg e]
    exact putV_other f v (fun h => e (keyS_inj hN hM h))
/-- What stands in the map of the parts that were met. -/
structure MetS (f : Lit → Option Value) (next : List Nat) (c : Nat) : Prop where
  yes : ∀ x ∈ next, ∃ n : Int, 1 ≤ n ∧ n ≤ c ∧ f (keyS x) = some (.int .i64 n)
  no : ∀ x, x < 2 ^ 256 → x ≠ 0 → x ∉ next → f (keyS x) = none
  zero : f (keyS 0) = none ∨ ∃ n : Int, 0 ≤ n ∧ n ≤ c ∧ f (keyS 0) = some (.int .i64 n)
  lt : ∀ x ∈ next, x < 2 ^ 256 ∧ x ≠ 0
theorem two256 : 0 < 2 ^ 256 := Nat.two_pow_pos _
theorem MetS.start : MetS (fun _ => none) [] 0 := ⟨by simp, fun _ _ _ _ => rfl, .inl rfl, by simp⟩
/-- How often a part was met. -/
theorem MetS.val {f : Lit → Option Value} {next : List Nat} {c : Nat} (h : MetS f next c) (x : Nat) (hx : x < 2 ^ 256) : ∃ n : Int, 0 ≤ n ∧ n ≤ c ∧ (f (keyS x)).getD (.int .i64 0) = .int .i64 n ∧ (x ≠ 0 → (x ∈ next ↔ n ≠ 0)) := by
  by_cases h0 : x = 0
  · subst h0
    rcases h.zero with h1 | ⟨n, h1, h2, h3⟩
    · exact ⟨0, by omega, by omega, by rw [h1]; rfl, fun h => absurd rfl h⟩
    · exact ⟨n, h1, h2, by rw [h3]; rfl, fun h => absurd rfl h⟩
  · by_cases hm : x ∈ next
    · obtain ⟨n, h1, h2, h3⟩ := h.yes x hm
      exact ⟨n, by omega, h2, by rw [h3]; rfl, fun _ => ⟨fun _ => by omega, fun _ => hm⟩⟩
    · exact ⟨0, by omega, by omega, by rw [h.no x hx h0 hm]; rfl, fun _ => ⟨fun h => absurd h hm, fun h => absurd rfl h⟩⟩
theorem MetS.step {f : Lit → Option Value} {next : List Nat} {c : Nat} (h : MetS f next c) (x : Nat) (hx : x < 2 ^ 256) {n : Int} (h0 : 0 ≤ n) (hc : n ≤ c) (hn : x ≠ 0 → (x ∈ next ↔ n ≠ 0)) :
    MetS (putV f (keyS x) (.int .i64 (n + 1))) (addF next x) (c + 1) := by
  have hsub : ∀ y ∈ next, y ∈ addF next x := fun y hy => by unfold addF; split <;> simp [hy]
  refine ⟨fun y hy => ?_, fun y hy hy0 hyn => ?_, ?_, fun y hy => ?_⟩
  · have hy2 : y < 2 ^ 256 := by
      rcases addF_mem hy with h1 | rfl
      · exact (h.lt y h1).1
      · exact hx
    rw [putV_set f _ hx hy2]
    by_cases e : y = x
    · rw [if_pos e]; exact ⟨n + 1, by omega, by omega, rfl⟩
    · rw [if_neg e]
      rcases addF_mem hy with h1 | h1
      · obtain ⟨m, k1, k2, k3⟩ := h.yes y h1; exact ⟨m, k1, by omega, k3⟩
      · exact absurd h1 e
  · rw [putV_set f _ hx hy]
    have hyn2 : y ∉ next := fun h1 => hyn (hsub y h1)
    by_cases e : y = x
    · subst e
      exfalso
      apply hyn
      unfold addF
      rw [if_neg (by simp [hy0, hyn2])]
      simp
    · rw [if_neg e]; exact h.no y hy hy0 hyn2
  · rw [putV_set f _ hx two256]
    by_cases e : 0 = x
    · rw [if_pos e]; exact .inr ⟨n + 1, by omega, by omega, rfl⟩
    · rw [if_neg e]
      rcases h.zero with h1 | ⟨m, k1, k2, k3⟩
      · exact .inl h1
      · exact .inr ⟨m, k1, by omega, k3⟩
  · unfold addF at hy
    split at hy
    · exact h.lt y hy
    · rename_i hne
      simp only [not_or] at hne
      rcases List.mem_append.1 hy with h1 | h1
      · exact h.lt y h1
      · rw [List.mem_singleton] at h1; subst h1; exact ⟨hx, hne.1⟩
theorem addF_len (next : List Nat) (x : Nat) : (addF next x).length ≤ next.length + 1 := by
  unfold addF; split <;> simp
theorem cutF_len (next : List Nat) (p s : Nat) : (cutF next p s).length ≤ next.length + 2 := by
  rw [cutF_eq]
  have := addF_len (addF next (p &&& s)) (p &&& (2 ^ 256 - 1 - s))
  have := addF_len next (p &&& s)
  omega
theorem infoSet : (Tryz.prog.info? 26).map (fun i => (i.zero, i.size, i.bytes)) = some (some (.agg #[.int .u64 0, .int .u64 0, .int .u64 0, .int .u64 0]), 4, 32) := by kernel_rfl
end Go.Proofs.YtknpkndiflodbaaGreatDoor.Tb
set_option linter.unusedVariables false
set_option linter.unusedSimpArgs false
namespace Go.Proofs.YtknpkndiflodbaaGreatDoor.Tb
open Go Go.RowKit Go.Proofs Mx Go.Shelf
attribute [local go_sem] Oper.semAt_some
theorem bytesOf_head (M : Nat) : (bytesOf M).head? = ((List.range 256).find? fun b => M.testBit b).map UInt8.ofNat := by
  unfold bytesOf bytesTo
  rw [List.head?_map, List.head?_filter]
theorem leastF_lt (M : Nat) : leastF M < 256 := by
  unfold leastF
  cases h : (List.range 256).find? fun b => M.testBit b with
  | none => decide
  | some b => have := List.mem_of_find?_eq_some h; simpa using this
theorem byteK_least (M : Nat) (h : 0 < (bytesOf M).length) : ((byteK M 0).toNat : Int) = (leastF M : Int) := by
  have h1 := bytesOf_head M
  unfold byteK leastF
  cases hb : bytesOf M with
  | nil => rw [hb] at h; simp at h
  | cons b t =>
    rw [hb] at h1
    cases hf : (List.range 256).find? fun b => M.testBit b with
    | none => rw [hf] at h1; simp at h1
    | some c =>
      rw [hf] at h1
      have hc : c < 256 := by have := List.mem_of_find?_eq_some hf; simpa using this
      simp at h1
      subst h1
      simp
      omega
theorem least_none (M : Nat) (h : (bytesOf M).length = 0) : leastF M = 0 := by
  have h1 := bytesOf_head M
  have : bytesOf M = [] := List.eq_nil_of_length_eq_zero h
  rw [this] at h1
  unfold leastF
  cases hf : (List.range 256).find? fun b => M.testBit b with
  | none => rfl
  | some c => rw [hf] at h1; simp at h1
def LeastI (w : World) (k : Nat) (W : World) : Prop := k = 0 ∧ Blk W (w.heap.size + 1) 5 #[.int .u8 0] ∧ Blk W (w.heap.size + 1 + 1) 4 #[.bool false] ∧ Grew w W
def LeastX (M : Nat) (w : World) (c : Code) (k : Nat) (W : World) : Prop := (c = .ret ∧ 0 < (bytesOf M).length) ∧ Blk W (w.heap.size + 1) 5 #[.int .u8 ((byteK M 0).toNat : Int)] ∧ Blk W (w.heap.size + 1 + 1) 4 #[.bool true] ∧ Grew w W
set_option maxRecDepth 100000 in
set_option maxHeartbeats 2000000 in
theorem least_any (M : Nat) (w : World) (hT : Bru w) (h6 : LB ≤ w.heap.size) :
    Calls Tryz.prog 94 #[setV M] w fun e w' => (∃ b, e = .returned (.tuple #[.int .u8 (leastF M : Int), .bool b])) ∧ Grew w w' := by
  refine (callsIn_wide (n := 5)).1 ?_
  have hro : Fence.wide.round = none := rfl
  have hby := bytes_any M
  unfold setV at hby ⊢
  refine callsIn_of_wp_marks Tryz.func94 rfl trivial ?_ hro
  simp only [Tryz.ntmps94, List.size_toArray, List.length_cons, List.length_nil, Nat.reduceAdd, Nat.reduceSub, Array.replicate_succ, Array.replicate_zero, List.push_toArray, List.append_toArray, List.nil_append, List.cons_append]
  gi_wp2_with (refine ⟨trivial, ?_⟩; gi_at_call 113; refine (callsIn_mk (hby _)).mono ?_; rintro e w1 ⟨rfl, rfl⟩)
  obtain ⟨w1, hw1⟩ : ∃ w1, ((((w.alloc (.cells #[.int .u64 (wd M 0), .int .u64 (wd M 1), .int .u64 (wd M 2), .int .u64 (wd M 3)] 26)).alloc (.cells #[.int .u8 0] 5)).alloc (.cells #[.bool false] 4)).alloc (.cells (setC M) 26)) = w1 := ⟨_, rfl⟩
  have hl1 : Blk w1 (w.heap.size + 1) 5 #[.int .u8 0] := by rw [← hw1]; exact ((Blk.new_ (by simp) _ _).alloc _).alloc _
  have hl2 : Blk w1 (w.heap.size + 1 + 1) 4 #[.bool false] := by rw [← hw1]; exact (Blk.new_ (by simp) _ _).alloc _
  have hbs : Blk w1 (w.heap.size + 1 + 1 + 1) 26 (setC M) := by rw [← hw1]; exact Blk.new_ (by simp) _ _
  have hG1 : Grew w w1 := by rw [← hw1]; exact ((((Grew.refl w).alloc _).alloc _).alloc _).alloc _
  have hB1 := hG1.below
  have hs1 : w.heap.size + 1 + 1 + 1 < w1.heap.size := hbs.lt
  have hI0 : LeastI w 0 w1 := ⟨rfl, hl1, hl2, hG1⟩
  rw [hw1]
  clear hw1 hby
  refine wpIn_rangeFunc_ownP hro (by decide) (gf := 140) (lb := #[.pointer (some ⟨w.heap.size + 1 + 1 + 1, 0, none⟩)]) rfl trivial (enters_of Tryz.func140 (by kernel_rfl) rfl)
    (bytes_iter M 4 w.heap.size (w.heap.size + 1 + 1 + 1) (by decide) w1 (hT.below hB1 h6) h6 hB1.size hbs) belowK_t (belowK_b hB1.size) (Below.refl _ _) (fun _ _ => rfl)
    (LeastI w) (LeastX M w)
    ⟨fun o h => ⟨h.1, h.2.1.alloc _, h.2.2.1.alloc _, h.2.2.2.alloc _⟩, fun o' h hB _ _ => ⟨h.1, h.2.1.putObj (by omega) _, h.2.2.1.putObj (by omega) _, h.2.2.2.putObj (by omega) _⟩⟩
    (fun c => ⟨fun o h => ⟨h.1, h.2.1.alloc _, h.2.2.1.alloc _, h.2.2.2.alloc _⟩, fun o' h hB _ _ => ⟨h.1, h.2.1.putObj (by omega) _, h.2.2.1.putObj (by omega) _, h.2.2.2.putObj (by omega) _⟩⟩)
    hI0
    (fun k => { tmps := #[.agg #[.int .u64 (wd M 0), .int .u64 (wd M 1), .int .u64 (wd M 2), .int .u64 (wd M 3)], .pointer (some ⟨w.heap.size, 0, none⟩), .pointer (some ⟨w.heap.size + 1, 0, none⟩), .pointer (some ⟨w.heap.size + 1 + 1, 0, none⟩), .int .u8 ((byteK M k).toNat : Int), .agg #[.int .u64 (wd M 0), .int .u64 (wd M 1), .int .u64 (wd M 2), .int .u64 (wd M 3)], .func (.func 140) #[] #[.pointer (some ⟨w.heap.size + 1 + 1 + 1, 0, none⟩)], .int .u8 ((byteK M k).toNat : Int), undef], defers := [] }) ?assign ?body ?done ?stop
  case assign =>
    intro l k W K hk hK
    gi_wp2
    exact hK
  case body =>
    rintro l k W ⟨rfl, hb1, hb2, hG⟩ hk
    have c1 := hb1.cell 0
    have c2 := hb2.cell 0
    have f1 := hb1.frozen 0
    have f2 := hb2.frozen 0
    simp at c1 c2
    have H := Lib.hid (And.intro hb1 (And.intro hb2 hG))
    clear hb1 hb2 hG hI0 hl1 hl2 hbs
    obtain ⟨b, hb⟩ : ∃ b, ((byteK M 0).toNat : Int) = b := ⟨_, rfl⟩
    rw [hb]
    have HB := Lib.hid hb
    clear hb
    gi_wp2
    refine ⟨(KeepsOthers.setCell _ _ _).trans (KeepsOthers.setCell _ _ _), ⟨rfl, hk⟩, ?_, ?_, ?_⟩
    · rw [HB.out]; exact (H.out.1.set_ 0 (.int .u8 b)).far (p := ⟨w.heap.size + 1 + 1, 0, none⟩) (by simp) _
    · exact (H.out.2.1.far (p := ⟨w.heap.size + 1, 0, none⟩) (by simp) _).set_ 0 (.bool true)
    · exact (H.out.2.2.setCell (p := ⟨w.heap.size + 1, 0, none⟩) (by simp) _).setCell (p := ⟨w.heap.size + 1 + 1, 0, none⟩) (by simp; omega) _
  case done =>
    rintro D W hD ⟨h0, hb1, hb2, hG⟩ hK
    have c1 := hb1.cell 0
    have c2 := hb2.cell 0
    have f1 := hb1.frozen 0
    have f2 := hb2.frozen 0
    simp at c1 c2
    have hz := least_none M h0
    have H := Lib.hid (And.intro hb1 (And.intro hb2 hG))
    clear hb1 hb2 hG hI0 hl1 hl2 hbs
    gi_wp2
    have hK' := (KeepsOthers.trans (KeepsOthers.setCell W ⟨w.heap.size + 1, 0, none⟩ (.int .u8 0)) (KeepsOthers.setCell _ ⟨w.heap.size + 1 + 1, 0, none⟩ (.bool false))).same D _ hK rfl
    have h1' := ((H.out.1.set_ 0 (.int .u8 0)).far (p := ⟨w.heap.size + 1 + 1, 0, none⟩) (by simp) (.bool false)).cell 0
    have h2' := ((H.out.2.1.far (p := ⟨w.heap.size + 1, 0, none⟩) (by simp) (.int .u8 0)).set_ 0 (.bool false)).cell 0
    have hc1 := cell_kept h1' (grownBy_putObj' _ D (.deferred none)) (fun r e => by cases e; exact ⟨_, hK', rfl⟩)
    have hc2 := cell_kept h2' (grownBy_putObj' _ D (.deferred none)) (fun r e => by cases e; exact ⟨_, hK', rfl⟩)
    simp at hc1 hc2
    refine ⟨by simp, .inl ⟨_, _, rfl, run_takeDeferred hK', ?_⟩⟩
    refine ⟨.tuple #[.int .u8 (leastF M : Int), .bool false], ?_, ⟨_, rfl⟩, ((H.out.2.2.setCell (p := ⟨w.heap.size + 1, 0, none⟩) (by simp) _).setCell (p := ⟨w.heap.size + 1 + 1, 0, none⟩) (by simp; omega) _).putObj (by omega) _⟩
    simp [results, Tryz.f94, go_sem, hc1, hc2, hz]
  case stop =>
    rintro D c k W hD _ ⟨⟨rfl, hpos⟩, hb1, hb2, hG⟩ hK
    have c1 := hb1.cell 0
    have c2 := hb2.cell 0
    simp at c1 c2
    have hz := byteK_least M hpos
    gi_wp2
    have hc1 := cell_kept c1 (grownBy_putObj' _ D (.deferred none)) (fun r e => by cases e; exact ⟨_, hK, rfl⟩)
    have hc2 := cell_kept c2 (grownBy_putObj' _ D (.deferred none)) (fun r e => by cases e; exact ⟨_, hK, rfl⟩)
    refine ⟨by simp, .inl ⟨_, _, rfl, run_takeDeferred hK, ?_⟩⟩
    refine ⟨.tuple #[.int .u8 (leastF M : Int), .bool true], ?_, ⟨_, rfl⟩, hG.putObj (by omega) _⟩
    simp [results, Tryz.f94, go_sem, hc1, hc2, hz]
end Go.Proofs.YtknpkndiflodbaaGreatDoor.Tb
set_option linter.unusedVariables false
set_option linter.unusedSimpArgs false
namespace Go.Proofs.YtknpkndiflodbaaGreatDoor.Tb
open Go Go.RowKit Go.Proofs Go.Sort Go.Shelf Mx
theorem sorted_of (d : Array It) (l : List It) (hp : PermIn 0 l.length l.toArray d) (hs : SortedIn (ltOf cfIt) 0 l.length d) : d.toList = sortIt l := by
  obtain ⟨h1, _, h2⟩ := hp
  have e1 : d.size = l.length := by simpa using h1
  refine sortIt_unique ?_ ?_
  · have h3 : (d.extract 0 l.length).toList = d.toList := by rw [← e1]; simp
    have h4 : (l.toArray.extract 0 l.length).toList = l := by simp
    rw [h3, h4] at h2
    exact h2
  · rw [List.pairwise_iff_getElem]
    intro i j hi hj hij
    have h3 := hs i j (Nat.zero_le _) hij (by rw [← e1]; simpa using hj)
    rw [lt_cfIt] at h3
    have ei : d[i]! = d.toList[i] := by rw [getElem!_pos d i (by simpa using hi)]; simp
    have ej : d[j]! = d.toList[j] := by rw [getElem!_pos d j (by simpa using hj)]; simp
    rw [ei, ej] at h3
    simpa using h3
theorem sort_any (l : List It) (B : Nat) (v : Value) (w : World) (h : w.ownsRow B 53 2 v l.length (flatK encIt l)) (hmax : l.length < 4611686018427387904) :
    Calls Tryz.prog 81 #[v, .func (.func 82) #[] #[]] w fun e w' => e = .returned (.tuple #[]) ∧ w'.ownsRow B 53 2 v (sortIt l).length (flatK encIt (sortIt l)) ∧ w.grownBy w' v.ownBlock := by
  rcases h.2 with ⟨rfl, h0⟩ | ⟨g, cap, cur, rfl, hBg, _⟩
  · have hl : l = [] := List.eq_nil_of_length_eq_zero h0
    subst hl
    exact (AnyF.slices_SortFunc_none Tryz.sortItems none 0 _ w).mono fun _ _ ⟨he, hw⟩ => ⟨he, by rw [hw]; exact h, by rw [hw]; exact grown_refl _ _⟩
  · have hg := (h.lt g rfl).2
    have eg : ∀ args w, (callFunc 82 args).run Tryz.prog w = .ok (.enter 82 args) w := enters_of Tryz.func82 (by kernel_rfl) rfl
    have hH := own_holds encIt_len (by decide) h rfl
    have hcmp : CmpLays Tryz.prog 82 #[] encIt 2 cfIt g 0 l.toArray.size w := fun _ _ _ _ x y => order_any x y _
    have hcon := AnyQ.slices_SortFunc Tryz.sortItems 2 Tryz.isAgg53 Tryz.sizeOf53 encIt encIt_len encIt_one cfIt swo_cfIt 82 #[] g 0 cap l.toArray w eg hcmp hH hg (by simpa using hmax)
    refine hcon.mono ?_
    rintro e w' ⟨rfl, d, n, os, hp, hs, rfl⟩
    have hd : d.toList = sortIt l := sorted_of d l (by simpa using hp) (by simpa using hs)
    have hsz : d.size = l.length := by have := hp.1; simpa using this
    have hso := sorted_own encIt_len (by decide) h n d hsz os
    rw [hd] at hso
    have hlen : (sortIt l).length = l.length := (sortIt_perm l).length_eq
    refine ⟨rfl, ?_, hso.2⟩
    rw [hlen]
    exact hso.1
end Go.Proofs.YtknpkndiflodbaaGreatDoor.Tb
set_option linter.unusedVariables false
set_option linter.unusedSimpArgs false
namespace Go.Proofs.YtknpkndiflodbaaGreatDoor.Tb
open Go Go.RowKit Go.Proofs Go.Sort Go.Shelf Mx
def cfSet (a b : Nat) : Int := (leastF a : Int) - (leastF b : Int)
theorem lt_cfSet (x y : Nat) : ltOf cfSet x y = decide (leastF x < leastF y) := by
  unfold ltOf cfSet
  by_cases h : leastF x < leastF y
  · simp [h]; omega
  · simp [h]; omega
theorem swo_cfSet : SWO (ltOf cfSet) where
  irrefl x := by rw [lt_cfSet]; simp
  trans x y z h k := by rw [lt_cfSet] at *; simp at *; omega
  ntrans x y z h k := by rw [lt_cfSet] at *; simp at *; omega
theorem Bru.grown {w w' : World} {g : Nat} (h : Bru w) (hb : w.grownBy w' (some g)) (hg : LB ≤ g) (hw : LB ≤ w.heap.size) : Bru w' :=
  h.below (B := LB) ⟨hb.os, hb.tape, hb.output, hb.size, fun k hk => hb.block k (by omega) (by intro e; injection e with e; omega)⟩ (Nat.le_refl _)
set_option maxRecDepth 100000 in
set_option maxHeartbeats 4000000 in
theorem splitcmp_any (M N : Nat) (w : World) (hT : Bru w) (h6 : LB ≤ w.heap.size) :
    Calls Tryz.prog 93 #[setV M, setV N] w fun e w' => e = .returned (.int .i64 (cfSet M N)) ∧ Grew w w' := by
  have h1 := fun W hT h6 => least_any M W hT h6
  have h2 := fun W hT h6 => least_any N W hT h6
  have b1 := leastF_lt M
  have b2 := leastF_lt N
  unfold cfSet
  generalize leastF M = x at *
  generalize leastF N = y at *
  unfold setV at h1 h2 ⊢
  have HT := Lib.hid (And.intro hT h6)
  clear hT h6
  go_enter Tryz.func93, Tryz.ntmps93
  go_wp2_with fail
  have hG0 : Grew w ((w.alloc (.cells #[.int .u64 (wd M 0), .int .u64 (wd M 1), .int .u64 (wd M 2), .int .u64 (wd M 3)] 26)).alloc (.cells #[.int .u64 (wd N 0), .int .u64 (wd N 1), .int .u64 (wd N 2), .int .u64 (wd N 3)] 26)) := ((Grew.refl w).alloc _).alloc _
  have hB1 : Blk ((w.alloc (.cells #[.int .u64 (wd M 0), .int .u64 (wd M 1), .int .u64 (wd M 2), .int .u64 (wd M 3)] 26)).alloc (.cells #[.int .u64 (wd N 0), .int .u64 (wd N 1), .int .u64 (wd N 2), .int .u64 (wd N 3)] 26)) (w.heap.size + 1) 26 #[.int .u64 (wd N 0), .int .u64 (wd N 1), .int .u64 (wd N 2), .int .u64 (wd N 3)] := Blk.new_ (by simp) _ _
  generalize ((w.alloc (.cells #[.int .u64 (wd M 0), .int .u64 (wd M 1), .int .u64 (wd M 2), .int .u64 (wd M 3)] 26)).alloc (.cells #[.int .u64 (wd N 0), .int .u64 (wd N 1), .int .u64 (wd N 2), .int .u64 (wd N 3)] 26)) = w2 at hG0 hB1 ⊢
  refine (h1 _ (HT.out.1.below hG0.below HT.out.2) (Nat.le_trans HT.out.2 hG0.below.size)).mono ?_
  rintro e w3 ⟨⟨p, rfl⟩, hg3⟩
  have hG3 := hG0.trans hg3
  obtain ⟨f0, f1, f2, f3, ff⟩ := (hB1.below hg3.below hB1.lt).facts4
  have H3 := Lib.hid hG3
  clear hG0 hB1 hg3 hG3
  go_wp2_with fail
  refine (h2 _ (HT.out.1.below H3.out.below HT.out.2) (Nat.le_trans HT.out.2 H3.out.below.size)).mono ?_
  rintro e w4 ⟨⟨q, rfl⟩, hg4⟩
  have H4 := Lib.hid (H3.out.trans hg4)
  clear hg4 h1 h2
  go_wp2_with fail
  go_ret
  exact ⟨rfl, H4.out⟩
theorem sortedS_of (d : Array Nat) (l : List Nat) (hl : Parts l) (hp : PermIn 0 l.length l.toArray d) (hs : SortedIn (ltOf cfSet) 0 l.length d) : d.toList = l.foldr insSet [] := by
  obtain ⟨h1, _, h2⟩ := hp
  have e1 : d.size = l.length := by simpa using h1
  refine sortSet_unique hl ?_ ?_
  · have h3 : (d.extract 0 l.length).toList = d.toList := by rw [← e1]; simp
    have h4 : (l.toArray.extract 0 l.length).toList = l := by simp
    rw [h3, h4] at h2
    exact h2
  · rw [List.pairwise_iff_getElem]
    intro i j hi hj hij
    have h3 := hs i j (Nat.zero_le _) hij (by rw [← e1]; simpa using hj)
    rw [lt_cfSet] at h3
    have ei : d[i]! = d.toList[i] := by rw [getElem!_pos d i (by simpa using hi)]; simp
    have ej : d[j]! = d.toList[j] := by rw [getElem!_pos d j (by simpa using hj)]; simp
    rw [ei, ej] at h3
    simpa using h3
theorem encSet_one (M : Nat) : ∀ u ∈ encSet M, u.oneCell' = true := by
  intro u hu
  simp [encSet] at hu
  rcases hu with rfl | rfl | rfl | rfl <;> rfl
theorem sortSets_any (l : List Nat) (hl : Parts l) (B : Nat) (v : Value) (w : World) (h : w.ownsRow B 26 4 v l.length (flatK encSet l)) (hT : Bru w) (hB : LB ≤ B) :
    Calls Tryz.prog 92 #[v, .func (.func 93) #[] #[]] w fun e w' => e = .returned (.tuple #[]) ∧ w'.ownsRow B 26 4 v l.length (flatK encSet (l.foldr insSet [])) ∧ w.grownBy w' v.ownBlock := by
  have hmax := parts_len hl
  rcases h.2 with ⟨rfl, h0⟩ | ⟨g, cap, cur, rfl, hBg, _⟩
  · have hl : l = [] := List.eq_nil_of_length_eq_zero h0
    subst hl
    exact (AnyF.slices_SortFunc_none Tryz.sortSets none 0 _ w).mono fun _ _ ⟨he, hw⟩ => ⟨he, by rw [hw]; exact h, by rw [hw]; exact grown_refl _ _⟩
  · have hg := (h.lt g rfl).2
    have eg : ∀ args w, (callFunc 93 args).run Tryz.prog w = .ok (.enter 93 args) w := enters_of Tryz.func93 (by kernel_rfl) rfl
    have hH := own_holds encSet_len (by decide) h rfl
    have hcmp : CmpLays Tryz.prog 93 #[] encSet 4 cfSet g 0 l.toArray.size w := fun m os dk hdk x y => by
      have hgr := (sorted_own encSet_len (by decide) h m dk (by simpa using hdk) os).2
      exact splitcmp_any x y _ (hT.grown hgr (by omega) (by omega)) (by have := hgr.size; omega)
    have hcon := AnyQ.slices_SortFunc Tryz.sortSets 4 Tryz.isAgg26 Tryz.sizeOf26 encSet encSet_len encSet_one cfSet swo_cfSet 93 #[] g 0 cap l.toArray w eg hcmp hH hg (by simp; omega)
    refine hcon.mono ?_
    rintro e w' ⟨rfl, d, n, os, hp, hs, rfl⟩
    have hd : d.toList = l.foldr insSet [] := sortedS_of d l hl (by simpa using hp) (by simpa using hs)
    have hsz : d.size = l.length := by have := hp.1; simpa using this
    have hso := sorted_own encSet_len (by decide) h n d hsz os
    rw [hd] at hso
    exact ⟨rfl, hso.1, hso.2⟩
end Go.Proofs.YtknpkndiflodbaaGreatDoor.Tb
