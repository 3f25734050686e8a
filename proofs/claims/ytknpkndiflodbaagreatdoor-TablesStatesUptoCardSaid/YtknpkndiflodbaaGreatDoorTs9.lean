/- Walks and plain laws that the last text stands on: TbSortA, TbChkB, TbChkG. -/
import Derived.Test.YtknpkndiflodbaaGreatDoorTs6
import Derived.Test.YtknpkndiflodbaaGreatDoorTs4
import Derived.Test.YtknpkndiflodbaaGreatDoorTs1
import Derived.Test.YtknpkndiflodbaaGreatDoorTs2
import Derived.Deep.RegionWith
import Derived.OwnWalk
import Derived.Test.YtknpkndiflodbaaGreatDoorTs8
import Derived.Test.YtknpkndiflodbaaGreatDoorTs5
import Derived.Deep.QuietTactic
import Derived.BigQuiet
set_option linter.unusedVariables false
set_option linter.unusedSimpArgs false
set_option maxRecDepth 100000
set_option maxHeartbeats 16000000
namespace Go.Proofs.YtknpkndiflodbaaGreatDoor.Tb
open Go Go.RowKit Go.Proofs Go.Maps Go.WideMaps Mx
theorem laidOut : laidOutB Tryz.prog = true := by kernel_rfl
theorem setArr : ArrKey Tryz.prog 26 24 4 := ⟨Tryz.underlying26, by kernel_rfl, by kernel_rfl, by kernel_rfl⟩
theorem typesSize : ∃ m, Tryz.prog.types.size = m + 1 := ⟨Tryz.prog.types.size - 1, by have h : (0 < Tryz.prog.types.size) := of_decide_eq_true (by kernel_rfl); omega⟩
theorem setLaw : KeyLaw Tryz.prog 26 := setArr.law
def keyS (M : Nat) : Lit := .string (keyBytes [.int .u64 (wd M 0), .int .u64 (wd M 1), .int .u64 (wd M 2), .int .u64 (wd M 3)])
theorem keyOf_set (M : Nat) : keyOf Tryz.prog 26 (.agg #[.int .u64 (wd M 0), .int .u64 (wd M 1), .int .u64 (wd M 2), .int .u64 (wd M 3)]) = some (keyS M) := by
 have hw : ∀ j, (Lit.int .u64 (wd M j)).wf = true := fun j => by
  have := wd_range M j
  simp [Lit.wf, IntKind.min, IntKind.max, IntKind.bits, IntKind.signed]
  omega
 exact keyOf_arr4 setArr Tryz.underlying24 typesSize (hw 0) (hw 1) (hw 2) (hw 3)
theorem wd_inj {M N : Nat} (hM : M < 2 ^ 256) (hN : N < 2 ^ 256) (h : ∀ j, j < 4 -> wd M j = wd N j) : M = N := by
 apply Nat.eq_of_testBit_eq
 intro i
 rcases Nat.lt_or_ge i 256 with hi | hi
 ·have hj : i / 64 < 4 := by omega
  have h1 := h (i / 64) hj
  have h2 : M / 2 ^ (64 * (i / 64)) % 18446744073709551616 = N / 2 ^ (64 * (i / 64)) % 18446744073709551616 := by unfold wd at h1; omega
  have h3 := wd_bits M (i / 64) (i % 64)
  have h4 := wd_bits N (i / 64) (i % 64)
  rw [h2, h4] at h3
  have h5 : i % 64 < 64 := Nat.mod_lt _ (by decide)
  have h6 : 64 * (i / 64) + i % 64 = i := Nat.div_add_mod i 64
  simp [h5, h6] at h3
  exact h3.symm
 ·rw [Nat.testBit_lt_two_pow (Nat.lt_of_lt_of_le hM (Nat.pow_le_pow_right (by decide) hi)), Nat.testBit_lt_two_pow (Nat.lt_of_lt_of_le hN (Nat.pow_le_pow_right (by decide) hi))]
theorem keyS_inj {M N : Nat} (hM : M < 2 ^ 256) (hN : N < 2 ^ 256) (h : keyS M = keyS N) : M = N := by
 have h1 := setLaw.inj (keyOf_set M) (by rw [h]; exact keyOf_set N)
 injection h1 with h1
 injection h1 with h1
 simp at h1
 exact wd_inj hM hN (fun j hj => by
  rcases (show j = 0 ∨ j = 1 ∨ j = 2 ∨ j = 3 by omega) with rfl | rfl | rfl | rfl
  ·exact h1.1
  ·exact h1.2.1
  ·exact h1.2.2.1
  ·exact h1.2.2.2)
end Go.Proofs.YtknpkndiflodbaaGreatDoor.Tb
namespace Go.Proofs.YtknpkndiflodbaaGreatDoor.Tb
open Go Go.RowKit Go.Proofs Go.Maps Mx
theorem notM_eq {s : Nat} (h : s < 2 ^ 256) : notM s = 2 ^ 256 - 1 - s := by
 apply Nat.eq_of_testBit_eq
 intro i
 rw [testBit_not s i h]
 unfold notM fullM
 rw [Nat.testBit_xor, Nat.testBit_two_pow_sub_one]
 by_cases hi : i < 256
 ·simp [hi]
 ·rw [Nat.testBit_lt_two_pow (Nat.lt_of_lt_of_le h (Nat.pow_le_pow_right (by omega) (by omega)))]
  simp [hi]
theorem parts_len {l : List Nat} (h : Parts l) : l.length <= 256 := by
 have h1 : (l.map leastF).Nodup := by
  rw [List.nodup_iff_pairwise_ne, List.pairwise_map]
  refine List.Pairwise.imp_of_mem ?_ h.2
  intro a b ha hb hab e
  have h1 := leastF_bit (h.1 a ha).1 (h.1 a ha).2
  have h2 := leastF_bit (h.1 b hb).1 (h.1 b hb).2
  rw [e] at h1
  exact (apart_iff _ _).1 hab _ ⟨h1, h2⟩
 have h2 := nodup_le (l.map leastF) (List.range 256) h1 (fun x hx => by
  obtain ⟨M, _, rfl⟩ := List.mem_map.1 hx
  unfold leastF
  cases h : (List.range 256).find? fun b => M.testBit b with
  | none => simp
  | some b => have := List.mem_of_find?_eq_some h; simpa using this)
 simpa using h2
theorem putV_set (f : Lit -> Option Value) {M N : Nat} (v : Value) (hM : M < 2 ^ 256) (hN : N < 2 ^ 256) : putV f (keyS M) v (keyS N) = if N = M then some v else f (keyS N) := by
 by_cases e : N = M
 ·subst e
  rw [if_pos rfl]
  exact putV_same f v (setLaw.str (keyOf_set N) |> fun ⟨_, h⟩ => by rw [h]; trivial)
 ·rw [if_neg e]
  exact putV_other f v (fun h => e (keyS_inj hN hM h))
structure MetS (f : Lit -> Option Value) (next : List Nat) (c : Nat) : Prop where
 yes : ∀ x ∈ next, ∃ n : Int, 1 <= n /\ n <= c /\ f (keyS x) = some (.int .i64 n)
 no : ∀ x, x < 2 ^ 256 -> x ≠ 0 -> x ∉ next -> f (keyS x) = none
 zero : f (keyS 0) = none ∨ ∃ n : Int, 0 <= n /\ n <= c /\ f (keyS 0) = some (.int .i64 n)
 lt : ∀ x ∈ next, x < 2 ^ 256 /\ x ≠ 0
theorem two256 : 0 < 2 ^ 256 := Nat.two_pow_pos _
theorem MetS.start : MetS (fun _ => none) [] 0 := ⟨by simp, fun _ _ _ _ => rfl, .inl rfl, by simp⟩
theorem MetS.val {f : Lit -> Option Value} {next : List Nat} {c : Nat} (h : MetS f next c) (x : Nat) (hx : x < 2 ^ 256) : ∃ n : Int, 0 <= n /\ n <= c /\ (f (keyS x)).getD (.int .i64 0) = .int .i64 n /\ (x ≠ 0 -> (x ∈ next ↔ n ≠ 0)) := by
 by_cases h0 : x = 0
 ·subst h0
  rcases h.zero with h1 | ⟨n, h1, h2, h3⟩
  ·exact ⟨0, by omega, by omega, by rw [h1]; rfl, fun h => absurd rfl h⟩
  ·exact ⟨n, h1, h2, by rw [h3]; rfl, fun h => absurd rfl h⟩
 ·by_cases hm : x ∈ next
  ·obtain ⟨n, h1, h2, h3⟩ := h.yes x hm
   exact ⟨n, by omega, h2, by rw [h3]; rfl, fun _ => ⟨fun _ => by omega, fun _ => hm⟩⟩
  ·exact ⟨0, by omega, by omega, by rw [h.no x hx h0 hm]; rfl, fun _ => ⟨fun h => absurd h hm, fun h => absurd rfl h⟩⟩
theorem MetS.step {f : Lit -> Option Value} {next : List Nat} {c : Nat} (h : MetS f next c) (x : Nat) (hx : x < 2 ^ 256) {n : Int} (h0 : 0 <= n) (hc : n <= c) (hn : x ≠ 0 -> (x ∈ next ↔ n ≠ 0)) :
  MetS (putV f (keyS x) (.int .i64 (n + 1))) (addF next x) (c + 1) := by
 have hsub : ∀ y ∈ next, y ∈ addF next x := fun y hy => by unfold addF; split <;> simp [hy]
 refine ⟨fun y hy => ?_, fun y hy hy0 hyn => ?_, ?_, fun y hy => ?_⟩
 ·have hy2 : y < 2 ^ 256 := by
   rcases addF_mem hy with h1 | rfl
   ·exact (h.lt y h1).1
   ·exact hx
  rw [putV_set f _ hx hy2]
  by_cases e : y = x
  ·rw [if_pos e]; exact ⟨n + 1, by omega, by omega, rfl⟩
  ·rw [if_neg e]
   rcases addF_mem hy with h1 | h1
   ·obtain ⟨m, k1, k2, k3⟩ := h.yes y h1; exact ⟨m, k1, by omega, k3⟩
   ·exact absurd h1 e
 ·rw [putV_set f _ hx hy]
  have hyn2 : y ∉ next := fun h1 => hyn (hsub y h1)
  by_cases e : y = x
  ·subst e
   exfalso
   apply hyn
   unfold addF
   rw [if_neg (by simp [hy0, hyn2])]
   simp
  ·rw [if_neg e]; exact h.no y hy hy0 hyn2
 ·rw [putV_set f _ hx two256]
  by_cases e : 0 = x
  ·rw [if_pos e]; exact .inr ⟨n + 1, by omega, by omega, rfl⟩
  ·rw [if_neg e]
   rcases h.zero with h1 | ⟨m, k1, k2, k3⟩
   ·exact .inl h1
   ·exact .inr ⟨m, k1, by omega, k3⟩
 ·unfold addF at hy
  split at hy
  ·exact h.lt y hy
  ·rename_i hne
   simp only [not_or] at hne
   rcases List.mem_append.1 hy with h1 | h1
   ·exact h.lt y h1
   ·rw [List.mem_singleton] at h1; subst h1; exact ⟨hx, hne.1⟩
theorem infoSet : (Tryz.prog.info? 26).map (fun i => (i.zero, i.size, i.bytes)) = some (some (.agg #[.int .u64 0, .int .u64 0, .int .u64 0, .int .u64 0]), 4, 32) := by kernel_rfl
end Go.Proofs.YtknpkndiflodbaaGreatDoor.Tb
namespace Go.Proofs.YtknpkndiflodbaaGreatDoor.Tb
open Go Go.RowKit Go.Proofs Mx Go.Shelf
attribute [local go_sem] Oper.semAt_some
theorem bytesOf_head (M : Nat) : (bytesOf M).head? = ((List.range 256).find? fun b => M.testBit b).map UInt8.ofNat := by
 unfold bytesOf bytesTo
 rw [List.head?_map, List.head?_filter]
theorem leastF_lt (M : Nat) : leastF M < 256 := by
 unfold leastF
 cases h : (List.range 256).find? fun b => M.testBit b with
 | none => decide
 | some b => have := List.mem_of_find?_eq_some h; simpa using this
theorem byteK_least (M : Nat) (h : 0 < (bytesOf M).length) : ((byteK M 0).toNat : Int) = (leastF M : Int) := by
 have h1 := bytesOf_head M
 unfold byteK leastF
 cases hb : bytesOf M with
 | nil => rw [hb] at h; simp at h
 | cons b t =>
  rw [hb] at h1
  cases hf : (List.range 256).find? fun b => M.testBit b with
  | none => rw [hf] at h1; simp at h1
  | some c =>
   rw [hf] at h1
   have hc : c < 256 := by have := List.mem_of_find?_eq_some hf; simpa using this
   simp at h1
   subst h1
   simp
   omega
theorem least_none (M : Nat) (h : (bytesOf M).length = 0) : leastF M = 0 := by
 have h1 := bytesOf_head M
 have : bytesOf M = [] := List.eq_nil_of_length_eq_zero h
 rw [this] at h1
 unfold leastF
 cases hf : (List.range 256).find? fun b => M.testBit b with
 | none => rfl
 | some c => rw [hf] at h1; simp at h1
def LeastI (w : World) (k : Nat) (W : World) : Prop := k = 0 /\ Blk W (w.heap.size + 1) 5 #[.int .u8 0] /\ Blk W (w.heap.size + 1 + 1) 4 #[.bool false] /\ Grew w W
def LeastX (M : Nat) (w : World) (c : Code) (k : Nat) (W : World) : Prop := (c = .ret /\ 0 < (bytesOf M).length) /\ Blk W (w.heap.size + 1) 5 #[.int .u8 ((byteK M 0).toNat : Int)] /\ Blk W (w.heap.size + 1 + 1) 4 #[.bool true] /\ Grew w W
theorem least_any (M : Nat) (w : World) (hT : Bru w) (h6 : LB <= w.heap.size) :
  Calls Tryz.prog 94 #[setV M] w fun e w' => (∃ b, e = .returned (.tuple #[.int .u8 (leastF M : Int), .bool b])) /\ Grew w w' := by
 refine (callsIn_wide (n := 5)).1 ?_
 have hro : Fence.wide.round = none := rfl
 have hby := bytes_any M
 unfold setV at hby ⊢
 refine callsIn_of_wp_marks Tryz.func94 rfl trivial ?_ hro
 simp only [Tryz.ntmps94, List.size_toArray, List.length_cons, List.length_nil, Nat.reduceAdd, Nat.reduceSub, Array.replicate_succ, Array.replicate_zero, List.push_toArray, List.append_toArray, List.nil_append, List.cons_append]
 gi_wp2_with (refine ⟨trivial, ?_⟩; gi_at_call 113; refine (callsIn_mk (hby _)).mono ?_; rintro e w1 ⟨rfl, rfl⟩)
 obtain ⟨w1, hw1⟩ : ∃ w1, ((((w.alloc (.cells #[.int .u64 (wd M 0), .int .u64 (wd M 1), .int .u64 (wd M 2), .int .u64 (wd M 3)] 26)).alloc (.cells #[.int .u8 0] 5)).alloc (.cells #[.bool false] 4)).alloc (.cells (setC M) 26)) = w1 := ⟨_, rfl⟩
 have hl1 : Blk w1 (w.heap.size + 1) 5 #[.int .u8 0] := by rw [<- hw1]; exact ((Blk.new_ (by simp) _ _).alloc _).alloc _
 have hl2 : Blk w1 (w.heap.size + 1 + 1) 4 #[.bool false] := by rw [<- hw1]; exact (Blk.new_ (by simp) _ _).alloc _
 have hbs : Blk w1 (w.heap.size + 1 + 1 + 1) 26 (setC M) := by rw [<- hw1]; exact Blk.new_ (by simp) _ _
 have hG1 : Grew w w1 := by rw [<- hw1]; exact ((((Grew.refl w).alloc _).alloc _).alloc _).alloc _
 have hB1 := hG1.below
 have hs1 : w.heap.size + 1 + 1 + 1 < w1.heap.size := hbs.lt
 have hI0 : LeastI w 0 w1 := ⟨rfl, hl1, hl2, hG1⟩
 rw [hw1]
 clear hw1 hby
 refine wpIn_rangeFunc_ownP hro (by decide) (gf := 140) (lb := #[.pointer (some ⟨w.heap.size + 1 + 1 + 1, 0, none⟩)]) rfl trivial (enters_of Tryz.func140 (by kernel_rfl) rfl)
  (bytes_iter M 4 w.heap.size (w.heap.size + 1 + 1 + 1) (by decide) w1 (hT.below hB1 h6) h6 hB1.size hbs) belowK_t (belowK_b hB1.size) (Below.refl _ _) (fun _ _ => rfl)
  (LeastI w) (LeastX M w)
  ⟨fun o h => ⟨h.1, h.2.1.alloc _, h.2.2.1.alloc _, h.2.2.2.alloc _⟩, fun o' h hB _ _ => ⟨h.1, h.2.1.putObj (by omega) _, h.2.2.1.putObj (by omega) _, h.2.2.2.putObj (by omega) _⟩⟩
  (fun c => ⟨fun o h => ⟨h.1, h.2.1.alloc _, h.2.2.1.alloc _, h.2.2.2.alloc _⟩, fun o' h hB _ _ => ⟨h.1, h.2.1.putObj (by omega) _, h.2.2.1.putObj (by omega) _, h.2.2.2.putObj (by omega) _⟩⟩)
  hI0
  (fun k => { tmps := #[.agg #[.int .u64 (wd M 0), .int .u64 (wd M 1), .int .u64 (wd M 2), .int .u64 (wd M 3)], .pointer (some ⟨w.heap.size, 0, none⟩), .pointer (some ⟨w.heap.size + 1, 0, none⟩), .pointer (some ⟨w.heap.size + 1 + 1, 0, none⟩), .int .u8 ((byteK M k).toNat : Int), .agg #[.int .u64 (wd M 0), .int .u64 (wd M 1), .int .u64 (wd M 2), .int .u64 (wd M 3)], .func (.func 140) #[] #[.pointer (some ⟨w.heap.size + 1 + 1 + 1, 0, none⟩)], .int .u8 ((byteK M k).toNat : Int), undef], defers := [] }) ?assign ?body ?done ?stop
 case assign =>
  intro l k W K hk hK
  gi_wp2
  exact hK
 case body =>
  rintro l k W ⟨rfl, hb1, hb2, hG⟩ hk
  have c1 := hb1.cell 0
  have c2 := hb2.cell 0
  have f1 := hb1.frozen 0
  have f2 := hb2.frozen 0
  simp at c1 c2
  have H := Hd (An hb1 (An hb2 hG))
  clear hb1 hb2 hG hI0 hl1 hl2 hbs
  obtain ⟨b, hb⟩ : ∃ b, ((byteK M 0).toNat : Int) = b := ⟨_, rfl⟩
  rw [hb]
  have HB := Hd hb
  clear hb
  gi_wp2
  refine ⟨(KeepsOthers.setCell _ _ _).trans (KeepsOthers.setCell _ _ _), ⟨rfl, hk⟩, ?_, ?_, ?_⟩
  ·rw [HB.out]; exact (H.out.1.set_ 0 (.int .u8 b)).far (p := ⟨w.heap.size + 1 + 1, 0, none⟩) (by simp) _
  ·exact (H.out.2.1.far (p := ⟨w.heap.size + 1, 0, none⟩) (by simp) _).set_ 0 (.bool true)
  ·exact (H.out.2.2.setCell (p := ⟨w.heap.size + 1, 0, none⟩) (by simp) _).setCell (p := ⟨w.heap.size + 1 + 1, 0, none⟩) (by simp; omega) _
 case done =>
  rintro D W hD ⟨h0, hb1, hb2, hG⟩ hK
  have c1 := hb1.cell 0
  have c2 := hb2.cell 0
  have f1 := hb1.frozen 0
  have f2 := hb2.frozen 0
  simp at c1 c2
  have hz := least_none M h0
  have H := Hd (An hb1 (An hb2 hG))
  clear hb1 hb2 hG hI0 hl1 hl2 hbs
  gi_wp2
  have hK' := (KeepsOthers.trans (KeepsOthers.setCell W ⟨w.heap.size + 1, 0, none⟩ (.int .u8 0)) (KeepsOthers.setCell _ ⟨w.heap.size + 1 + 1, 0, none⟩ (.bool false))).same D _ hK rfl
  have h1' := ((H.out.1.set_ 0 (.int .u8 0)).far (p := ⟨w.heap.size + 1 + 1, 0, none⟩) (by simp) (.bool false)).cell 0
  have h2' := ((H.out.2.1.far (p := ⟨w.heap.size + 1, 0, none⟩) (by simp) (.int .u8 0)).set_ 0 (.bool false)).cell 0
  have hc1 := cell_kept h1' (grownBy_putObj' _ D (.deferred none)) (fun r e => by cases e; exact ⟨_, hK', rfl⟩)
  have hc2 := cell_kept h2' (grownBy_putObj' _ D (.deferred none)) (fun r e => by cases e; exact ⟨_, hK', rfl⟩)
  simp at hc1 hc2
  refine ⟨by simp, .inl ⟨_, _, rfl, run_takeDeferred hK', ?_⟩⟩
  refine ⟨.tuple #[.int .u8 (leastF M : Int), .bool false], ?_, ⟨_, rfl⟩, ((H.out.2.2.setCell (p := ⟨w.heap.size + 1, 0, none⟩) (by simp) _).setCell (p := ⟨w.heap.size + 1 + 1, 0, none⟩) (by simp; omega) _).putObj (by omega) _⟩
  simp [results, Tryz.f94, go_sem, hc1, hc2, hz]
 case stop =>
  rintro D c k W hD _ ⟨⟨rfl, hpos⟩, hb1, hb2, hG⟩ hK
  have c1 := hb1.cell 0
  have c2 := hb2.cell 0
  simp at c1 c2
  have hz := byteK_least M hpos
  gi_wp2
  have hc1 := cell_kept c1 (grownBy_putObj' _ D (.deferred none)) (fun r e => by cases e; exact ⟨_, hK, rfl⟩)
  have hc2 := cell_kept c2 (grownBy_putObj' _ D (.deferred none)) (fun r e => by cases e; exact ⟨_, hK, rfl⟩)
  refine ⟨by simp, .inl ⟨_, _, rfl, run_takeDeferred hK, ?_⟩⟩
  refine ⟨.tuple #[.int .u8 (leastF M : Int), .bool true], ?_, ⟨_, rfl⟩, hG.putObj (by omega) _⟩
  simp [results, Tryz.f94, go_sem, hc1, hc2, hz]
end Go.Proofs.YtknpkndiflodbaaGreatDoor.Tb
namespace Go.Proofs.YtknpkndiflodbaaGreatDoor.Tb
open Go Go.RowKit Go.Proofs Go.Sort Go.Shelf Mx
theorem sorted_of (d : Array It) (l : List It) (hp : PermIn 0 l.length l.toArray d) (hs : SortedIn (ltOf cfIt) 0 l.length d) : d.toList = sortIt l := by
 obtain ⟨h1, _, h2⟩ := hp
 have e1 : d.size = l.length := by simpa using h1
 refine sortIt_unique ?_ ?_
 ·have h3 : (d.extract 0 l.length).toList = d.toList := by rw [<- e1]; simp
  have h4 : (l.toArray.extract 0 l.length).toList = l := by simp
  rw [h3, h4] at h2
  exact h2
 ·rw [List.pairwise_iff_getElem]
  intro i j hi hj hij
  have h3 := hs i j (Nat.zero_le _) hij (by rw [<- e1]; simpa using hj)
  rw [lt_cfIt] at h3
  have ei : d[i]! = d.toList[i] := by rw [getElem!_pos d i (by simpa using hi)]; simp
  have ej : d[j]! = d.toList[j] := by rw [getElem!_pos d j (by simpa using hj)]; simp
  rw [ei, ej] at h3
  simpa using h3
theorem sort_any (l : List It) (B : Nat) (v : Value) (w : World) (h : w.ownsRow B 53 2 v l.length (flatK encIt l)) (hmax : l.length < 4611686018427387904) :
  Calls Tryz.prog 81 #[v, .func (.func 82) #[] #[]] w fun e w' => e = .returned (.tuple #[]) /\ w'.ownsRow B 53 2 v (sortIt l).length (flatK encIt (sortIt l)) /\ w.grownBy w' v.ownBlock := by
 rcases h.2 with ⟨rfl, h0⟩ | ⟨g, cap, cur, rfl, hBg, _⟩
 ·have hl : l = [] := List.eq_nil_of_length_eq_zero h0
  subst hl
  exact (AnyF.slices_SortFunc_none Tryz.sortItems none 0 _ w).mono fun _ _ ⟨he, hw⟩ => ⟨he, by rw [hw]; exact h, by rw [hw]; exact grown_refl _ _⟩
 ·have hg := (h.lt g rfl).2
  have eg : ∀ args w, (callFunc 82 args).run Tryz.prog w = .ok (.enter 82 args) w := enters_of Tryz.func82 (by kernel_rfl) rfl
  have hH := own_holds encIt_len (by decide) h rfl
  have hcmp : CmpLays Tryz.prog 82 #[] encIt 2 cfIt g 0 l.toArray.size w := fun _ _ _ _ x y => order_any x y _
  have hcon := AnyQ.slices_SortFunc Tryz.sortItems 2 Tryz.isAgg53 Tryz.sizeOf53 encIt encIt_len encIt_one cfIt swo_cfIt 82 #[] g 0 cap l.toArray w eg hcmp hH hg (by simpa using hmax)
  refine hcon.mono ?_
  rintro e w' ⟨rfl, d, n, os, hp, hs, rfl⟩
  have hd : d.toList = sortIt l := sorted_of d l (by simpa using hp) (by simpa using hs)
  have hsz : d.size = l.length := by have := hp.1; simpa using this
  have hso := sorted_own encIt_len (by decide) h n d hsz os
  rw [hd] at hso
  have hlen : (sortIt l).length = l.length := (sortIt_perm l).length_eq
  refine ⟨rfl, ?_, hso.2⟩
  rw [hlen]
  exact hso.1
end Go.Proofs.YtknpkndiflodbaaGreatDoor.Tb
namespace Go.Proofs.YtknpkndiflodbaaGreatDoor.Tb
open Go Go.RowKit Go.Proofs Go.Sort Go.Shelf Mx
def cfSet (a b : Nat) : Int := (leastF a : Int) - (leastF b : Int)
theorem lt_cfSet (x y : Nat) : ltOf cfSet x y = decide (leastF x < leastF y) := by
 unfold ltOf cfSet
 by_cases h : leastF x < leastF y
 ·simp [h]; omega
 ·simp [h]; omega
theorem swo_cfSet : SWO (ltOf cfSet) where
 irrefl x := by rw [lt_cfSet]; simp
 trans x y z h k := by rw [lt_cfSet] at *; simp at *; omega
 ntrans x y z h k := by rw [lt_cfSet] at *; simp at *; omega
theorem Bru.grown {w w' : World} {g : Nat} (h : Bru w) (hb : w.grownBy w' (some g)) (hg : LB <= g) (hw : LB <= w.heap.size) : Bru w' :=
 h.below (B := LB) ⟨hb.os, hb.tape, hb.output, hb.size, fun k hk => hb.block k (by omega) (by intro e; injection e with e; omega)⟩ (Nat.le_refl _)
theorem splitcmp_any (M N : Nat) (w : World) (hT : Bru w) (h6 : LB <= w.heap.size) :
  Calls Tryz.prog 93 #[setV M, setV N] w fun e w' => e = .returned (.int .i64 (cfSet M N)) /\ Grew w w' := by
 have h1 := fun W hT h6 => least_any M W hT h6
 have h2 := fun W hT h6 => least_any N W hT h6
 have b1 := leastF_lt M
 have b2 := leastF_lt N
 unfold cfSet
 generalize leastF M = x at *
 generalize leastF N = y at *
 unfold setV at h1 h2 ⊢
 have HT := Hd (An hT h6)
 clear hT h6
 go_enter Tryz.func93, Tryz.ntmps93
 go_wp2_with fail
 have hG0 : Grew w ((w.alloc (.cells #[.int .u64 (wd M 0), .int .u64 (wd M 1), .int .u64 (wd M 2), .int .u64 (wd M 3)] 26)).alloc (.cells #[.int .u64 (wd N 0), .int .u64 (wd N 1), .int .u64 (wd N 2), .int .u64 (wd N 3)] 26)) := ((Grew.refl w).alloc _).alloc _
 have hB1 : Blk ((w.alloc (.cells #[.int .u64 (wd M 0), .int .u64 (wd M 1), .int .u64 (wd M 2), .int .u64 (wd M 3)] 26)).alloc (.cells #[.int .u64 (wd N 0), .int .u64 (wd N 1), .int .u64 (wd N 2), .int .u64 (wd N 3)] 26)) (w.heap.size + 1) 26 #[.int .u64 (wd N 0), .int .u64 (wd N 1), .int .u64 (wd N 2), .int .u64 (wd N 3)] := Blk.new_ (by simp) _ _
 generalize ((w.alloc (.cells #[.int .u64 (wd M 0), .int .u64 (wd M 1), .int .u64 (wd M 2), .int .u64 (wd M 3)] 26)).alloc (.cells #[.int .u64 (wd N 0), .int .u64 (wd N 1), .int .u64 (wd N 2), .int .u64 (wd N 3)] 26)) = w2 at hG0 hB1 ⊢
 refine (h1 _ (HT.out.1.below hG0.below HT.out.2) (Nat.le_trans HT.out.2 hG0.below.size)).mono ?_
 rintro e w3 ⟨⟨p, rfl⟩, hg3⟩
 have hG3 := hG0.trans hg3
 obtain ⟨f0, f1, f2, f3, ff⟩ := (hB1.below hg3.below hB1.lt).facts4
 have H3 := Hd hG3
 clear hG0 hB1 hg3 hG3
 go_wp2_with fail
 refine (h2 _ (HT.out.1.below H3.out.below HT.out.2) (Nat.le_trans HT.out.2 H3.out.below.size)).mono ?_
 rintro e w4 ⟨⟨q, rfl⟩, hg4⟩
 have H4 := Hd (H3.out.trans hg4)
 clear hg4 h1 h2
 go_wp2_with fail
 go_ret
 exact ⟨rfl, H4.out⟩
theorem sortedS_of (d : Array Nat) (l : List Nat) (hl : Parts l) (hp : PermIn 0 l.length l.toArray d) (hs : SortedIn (ltOf cfSet) 0 l.length d) : d.toList = l.foldr insSet [] := by
 obtain ⟨h1, _, h2⟩ := hp
 have e1 : d.size = l.length := by simpa using h1
 refine sortSet_unique hl ?_ ?_
 ·have h3 : (d.extract 0 l.length).toList = d.toList := by rw [<- e1]; simp
  have h4 : (l.toArray.extract 0 l.length).toList = l := by simp
  rw [h3, h4] at h2
  exact h2
 ·rw [List.pairwise_iff_getElem]
  intro i j hi hj hij
  have h3 := hs i j (Nat.zero_le _) hij (by rw [<- e1]; simpa using hj)
  rw [lt_cfSet] at h3
  have ei : d[i]! = d.toList[i] := by rw [getElem!_pos d i (by simpa using hi)]; simp
  have ej : d[j]! = d.toList[j] := by rw [getElem!_pos d j (by simpa using hj)]; simp
  rw [ei, ej] at h3
  simpa using h3
theorem encSet_one (M : Nat) : ∀ u ∈ encSet M, u.oneCell' = true := by
 intro u hu
 simp [encSet] at hu
 rcases hu with rfl | rfl | rfl | rfl <;> rfl
theorem sortSets_any (l : List Nat) (hl : Parts l) (B : Nat) (v : Value) (w : World) (h : w.ownsRow B 26 4 v l.length (flatK encSet l)) (hT : Bru w) (hB : LB <= B) :
  Calls Tryz.prog 92 #[v, .func (.func 93) #[] #[]] w fun e w' => e = .returned (.tuple #[]) /\ w'.ownsRow B 26 4 v l.length (flatK encSet (l.foldr insSet [])) /\ w.grownBy w' v.ownBlock := by
 have hmax := parts_len hl
 rcases h.2 with ⟨rfl, h0⟩ | ⟨g, cap, cur, rfl, hBg, _⟩
 ·have hl : l = [] := List.eq_nil_of_length_eq_zero h0
  subst hl
  exact (AnyF.slices_SortFunc_none Tryz.sortSets none 0 _ w).mono fun _ _ ⟨he, hw⟩ => ⟨he, by rw [hw]; exact h, by rw [hw]; exact grown_refl _ _⟩
 ·have hg := (h.lt g rfl).2
  have eg : ∀ args w, (callFunc 93 args).run Tryz.prog w = .ok (.enter 93 args) w := enters_of Tryz.func93 (by kernel_rfl) rfl
  have hH := own_holds encSet_len (by decide) h rfl
  have hcmp : CmpLays Tryz.prog 93 #[] encSet 4 cfSet g 0 l.toArray.size w := fun m os dk hdk x y => by
   have hgr := (sorted_own encSet_len (by decide) h m dk (by simpa using hdk) os).2
   exact splitcmp_any x y _ (hT.grown hgr (by omega) (by omega)) (by have := hgr.size; omega)
  have hcon := AnyQ.slices_SortFunc Tryz.sortSets 4 Tryz.isAgg26 Tryz.sizeOf26 encSet encSet_len encSet_one cfSet swo_cfSet 93 #[] g 0 cap l.toArray w eg hcmp hH hg (by simp; omega)
  refine hcon.mono ?_
  rintro e w' ⟨rfl, d, n, os, hp, hs, rfl⟩
  have hd : d.toList = l.foldr insSet [] := sortedS_of d l hl (by simpa using hp) (by simpa using hs)
  have hsz : d.size = l.length := by have := hp.1; simpa using this
  have hso := sorted_own encSet_len (by decide) h n d hsz os
  rw [hd] at hso
  exact ⟨rfl, hso.1, hso.2⟩
end Go.Proofs.YtknpkndiflodbaaGreatDoor.Tb
namespace Go.Proofs.YtknpkndiflodbaaGreatDoor.Tb
open Go Go.RowKit Go.Proofs Go.Maps Go.WideMaps Mx
def prodAt (g : Gr) (n : Int) : Option Pr := if 0 <= n then g.prods[n.toNat]? else none
def pB (g : Gr) (n : Int) : Bool := match prodAt g n with | some p => !decide (p.role = 11) | none => false
def fbB (g : Gr) (f : Int × Int × Int) : Bool :=
 match prodAt g f.1, prodAt g f.2.2 with
 | some p, some q => !decide (p.role = 11) && !decide (q.role = 11) && !decide (f.2.1 < 1) && !decide ((p.right.length : Int) < f.2.1) &&
  (match p.right[(f.2.1 - 1).toNat]? with | some s => decide (s.kind = 1) && decide (s.sort = q.left) | none => false)
 | _, _ => false
def forbidsB (g : Gr) : Bool := decide g.forbid.Nodup && g.forbid.all (fbB g)
theorem forbidsB_no {g : Gr} {f : Int × Int × Int} (hm : f ∈ g.forbid) (h : fbB g f = false) : forbidsB g = false := by
 unfold forbidsB
 cases h2 : g.forbid.all (fbB g) with
 | false => simp
 | true =>
  have h1 := List.all_eq_true.1 h2 f hm
  rw [h] at h1; exact absurd h1 (by simp)
theorem fb_arms (g : Gr) (f : Int × Int × Int) :
    (fbB g f = false /\ pB g f.1 = false) ∨ (fbB g f = false /\ pB g f.1 = true /\ pB g f.2.2 = false) ∨
    (∃ n m p q, f.1 = (n : Nat) /\ f.2.2 = (m : Nat) /\ g.prods[n]? = some p /\ g.prods[m]? = some q /\ pB g f.1 = true /\ pB g f.2.2 = true /\
      ((fbB g f = false /\ f.2.1 < 1) ∨ (fbB g f = false /\ 1 <= f.2.1 /\ (p.right.length : Int) < f.2.1) ∨
       (∃ k s, f.2.1 = (k : Nat) + 1 /\ p.right[k]? = some s /\ ((fbB g f = false /\ ¬ s.kind = 1) ∨ (fbB g f = false /\ s.kind = 1 /\ ¬ s.sort = q.left) ∨ (fbB g f = true /\ s.kind = 1 /\ s.sort = q.left))))) := by
  obtain ⟨a, b, c⟩ := f
  cases h1 : prodAt g a with
  | none => left; simp [fbB, pB, h1]
  | some p =>
    cases h2 : prodAt g c with
    | none =>
      by_cases hp : p.role = 11
      · left; simp [fbB, pB, h1, h2, hp]
      · right; left; simp [fbB, pB, h1, h2, hp]
    | some q =>
      by_cases hp : p.role = 11
      · left; simp [fbB, pB, h1, h2, hp]
      · by_cases hq : q.role = 11
        · right; left; simp [fbB, pB, h1, h2, hp, hq]
        · right; right
          have ha : 0 <= a := Classical.byContradiction fun h => by rw [prodAt, if_neg h] at h1; cases h1
          have hc : 0 <= c := Classical.byContradiction fun h => by rw [prodAt, if_neg h] at h2; cases h2
          have e1 := h1
          have e2 := h2
          rw [prodAt, if_pos ha] at e1
          rw [prodAt, if_pos hc] at e2
          refine ⟨a.toNat, c.toNat, p, q, by simp; omega, by simp; omega, e1, e2, by simp [pB, h1, hp], by simp [pB, h2, hq], ?_⟩
          by_cases hb : b < 1
          · left; exact ⟨by simp [fbB, h1, h2, hb], hb⟩
          · by_cases hb2 : (p.right.length : Int) < b
            · right; left; exact ⟨by simp [fbB, h1, h2, hb2], by simpa using hb, hb2⟩
            · right; right
              obtain ⟨k, rfl⟩ : ∃ k : Nat, b = k + 1 := ⟨(b - 1).toNat, by omega⟩
              have hk : k < p.right.length := by omega
              have hkk : ((k : Int) + 1 - 1).toNat = k := by omega
              obtain ⟨s, hs⟩ : ∃ s, p.right[k]? = some s := ⟨_, List.getElem?_eq_getElem hk⟩
              refine ⟨k, s, rfl, hs, ?_⟩
              have hv : fbB g (a, (k : Int) + 1, c) = (decide (s.kind = 1) && decide (s.sort = q.left)) := by
                unfold fbB
                simp only [h1, h2, hkk, hs, decide_eq_false hp, decide_eq_false hq, decide_eq_false hb, decide_eq_false hb2]
                rfl
              by_cases k1 : s.kind = 1
              · by_cases k2 : s.sort = q.left
                · right; right; exact ⟨by rw [hv, decide_eq_true k1, decide_eq_true k2]; rfl, k1, k2⟩
                · right; left; exact ⟨by rw [hv, decide_eq_false k2, Bool.and_false], k1, k2⟩
              · left; exact ⟨by rw [hv, decide_eq_false k1, Bool.false_and], k1⟩
theorem fbLaw : KeyLaw Tryz.prog 147 := deep_law_laid laidOut (m := 2) (by omega) (of_decide_eq_true (by kernel_rfl)) (by kernel_rfl) (by kernel_rfl)
def keyB (f : Int × Int × Int) : Lit := .string (keyBytes [.int .i64 f.1, .int .i64 f.2.1, .int .i64 f.2.2])
theorem fbKeyType : Tryz.prog.keyType 147 = true := by kernel_rfl
theorem fbCells : Tryz.prog.cellsOf 147 = 3 := by kernel_rfl
theorem keyOf_fb (f : Int × Int × Int) (h : FbOk f) : keyOf Tryz.prog 147 (.agg #[.int .i64 f.1, .int .i64 f.2.1, .int .i64 f.2.2]) = some (keyB f) := by
 obtain ⟨m0, hm0⟩ := typesSize
 unfold keyOf
 simp only [Tryz.underlying147]
 rw [if_pos (by simp [fbKeyType, Value.formed, Tryz.underlying147, fbCells]), hm0]
 unfold Program.keyLits
 simp only [Tryz.underlying147, Value.cells]
 rw [if_pos (by rw [fbCells]; exact ⟨rfl, by kernel_rfl⟩)]
 have h0 := i64_lit h.1
 have h1 := i64_lit h.2.1
 have h2 := i64_lit h.2.2
 simp [Program.keyLits, Tryz.underlying3, cwInt, h0, h1, h2, keyB]
theorem keyB_inj {x y : Int × Int × Int} (hx : FbOk x) (hy : FbOk y) (h : keyB x = keyB y) : x = y := by
 have h1 := fbLaw.inj (keyOf_fb x hx) (by rw [h]; exact keyOf_fb y hy)
 injection h1 with h1
 injection h1 with h1
 simp at h1
 exact Prod.ext h1.1 (Prod.ext h1.2.1 h1.2.2)
theorem fprod_any (D : Nat -> Prop) (g : Gr) (hN : g.prods.length <= 2000000) (w : World) (b : Nat) (pa : Option Addr) (pc : Nat) (h : w.cell? ⟨b, 1, none⟩ = some (.slice pa g.prods.length pc)) (hP : ProdsAt D w (.slice pa g.prods.length pc) g.prods) (n : Int) (r : Bool) (hr : pB g n = r) :
  Calls Tryz.prog 73 #[.int .i64 n, .pointer (some ⟨b, 0, none⟩)] w fun e w' => e = .returned (.bool r) /\ w' = w := by
 by_cases h0 : 0 <= n
 ·by_cases h1 : n < (g.prods.length : Int)
  ·obtain ⟨k, rfl⟩ : ∃ k : Nat, n = k := ⟨n.toNat, by omega⟩
   have hk : k < g.prods.length := by omega
   obtain ⟨p, hp⟩ : ∃ p, g.prods[k]? = some p := ⟨_, List.getElem?_eq_getElem hk⟩
   obtain ⟨cap, b2, o, vr, epv, hbl, hvr, hpc⟩ := hP.at_ hp
   injection epv with e1 e2 e3
   subst e1
   subst e3
   have f3 := hpc 3 _ rfl
   have hv : pB g k = !decide (p.role = 11) := by unfold pB prodAt; rw [if_pos (by omega)]; simp [hp]
   rw [hv] at hr
   clear hpc hP hvr hv
   by_cases c : p.role = 11
   ·have hrr : r = false := by rw [<- hr]; simp [c]
    clear hr
    rw [c] at f3
    go_enter Tryz.func73, Tryz.ntmps73
    go_wp2_with fail
    go_ret
    exact ⟨rfl, rfl⟩
   ·have hrr : r = true := by rw [<- hr]; simp [c]
    clear hr
    go_enter Tryz.func73, Tryz.ntmps73
    go_wp2_with fail
    go_ret
    exact ⟨ret_bool (by simp [c]), rfl⟩
  ·have hv : r = false := by
    rw [<- hr]; unfold pB prodAt
    rw [if_pos h0, List.getElem?_eq_none (by omega)]
   have hd : decide (n < (g.prods.length : Int)) = false := decide_eq_false h1
   clear hr h1 hP
   go_enter Tryz.func73, Tryz.ntmps73
   go_wp2_with fail
   go_ret
   exact ⟨by rw [hv]; rfl, rfl⟩
 ·have hv : r = false := by rw [<- hr]; unfold pB prodAt; rw [if_neg h0]
  have hd : decide (0 <= n) = false := decide_eq_false h0
  clear hr h0 hP
  go_enter Tryz.func73, Tryz.ntmps73
  go_wp2_with fail
  go_ret
  exact ⟨by rw [hv]; rfl, rfl⟩
def fbR (gb tb pb po sb so n k pl pc rl rc B : Nat) (sy : Sy) (j : Nat) (v : Value) (W : World) : Prop :=
 match j with
 | 0 => v = .pointer (some ⟨gb, 1, none⟩)
 | 1 => v = .slice (some ⟨pb, po, none⟩) pl pc
 | 2 => v = .pointer (some ⟨tb, 0, none⟩)
 | 3 => v = .int .i64 n
 | 4 => v = .pointer (some ⟨pb, po + n * 7, none⟩)
 | 5 => v = .pointer (some ⟨pb, po + n * 7 + 1, none⟩)
 | 6 => v = .slice (some ⟨sb, so, none⟩) rl rc
 | 7 => v = .pointer (some ⟨tb, 1, none⟩)
 | 8 => v = .int .i64 ((k : Int) + 1)
 | 9 => v = .int .i64 k
 | 10 => v = .pointer (some ⟨sb, so + k * 6, none⟩)
 | 11 => v = .agg #[.int .i64 sy.kind, .int .u64 (wd sy.set 0), .int .u64 (wd sy.set 1), .int .u64 (wd sy.set 2), .int .u64 (wd sy.set 3), .int .i64 sy.sort]
 | 12 => ∃ b, v = .pointer (some ⟨b, 0, none⟩) /\ Blk W b 28 #[.int .i64 0, .int .u64 0, .int .u64 0, .int .u64 0, .int .u64 0, .int .i64 0] /\ B <= b
 | _ => True
theorem fbR_stab (gb tb pb po sb so n k pl pc rl rc B : Nat) (sy : Sy) (j : Nat) (v : Value) (w w' : World) (h : fbR gb tb pb po sb so n k pl pc rl rc B sy j v w) (hb : Below w.heap.size w w') : fbR gb tb pb po sb so n k pl pc rl rc B sy j v w' := by
 unfold fbR at h ⊢
 split at h
 all_goals first | trivial | exact h | (obtain ⟨b, e, h1, h2⟩ := h; exact ⟨b, e, h1.below hb h1.lt, h2⟩)
theorem forbids_any (D : Nat -> Prop) (g : Gr) (hN : g.forbid.length <= 2000000) (hpm : g.prods.length <= 2000000) (hrm : ∀ p ∈ g.prods, p.right.length <= 2000000) (hF : ∀ f ∈ g.forbid, FbOk f) (w : World) (sv pv lv fv : Value) (hpl : ∃ pa pc, pv = .slice pa g.prods.length pc) (hP : ProdsAt D w pv g.prods) (hs : SliceK D encFb 3 w fv g.forbid) :
  Calls Tryz.prog 39 #[.agg #[sv, pv, .int .i64 g.start, fv, lv]] w fun e w' => e = .returned (.bool (forbidsB g)) /\ Below w.heap.size w w' := by
 obtain ⟨pa, pc, rfl⟩ := hpl
 obtain ⟨a, c, rfl, hc1, hc2, hk⟩ := hs
 have hmm := @run_makeMap Tryz.prog
 have hmf : ∀ (fn : Fn) (first cap : Array Value) (w : World), (Instr.makeFunc fn first cap).run Tryz.prog w = .ok (.func fn first cap) w := fun _ _ _ _ => rfl
 have HK := Hd (An hk (An hF (An hP hrm)))
 clear hk hF hP hrm
 go_enter Tryz.func39, Tryz.ntmps39
 go_wp2_with fail
 have hB1 : Blk ((w.alloc (.cells #[sv, .slice pa g.prods.length pc, .int .i64 g.start, .slice a g.forbid.length c, lv] 39)).alloc (.map #[] 0)) w.heap.size 39 #[sv, .slice pa g.prods.length pc, .int .i64 g.start, .slice a g.forbid.length c, lv] := (Blk.new _ _ _).alloc _
 have hM1 : MapV Tryz.prog 147 ((w.alloc (.cells #[sv, .slice pa g.prods.length pc, .int .i64 g.start, .slice a g.forbid.length c, lv] 39)).alloc (.map #[] 0)) (w.heap.size + 1) 0 (fun _ => none) := by
  have := MapV.made (w.alloc (.cells #[sv, .slice pa g.prods.length pc, .int .i64 g.start, .slice a g.forbid.length c, lv] 39)) Tryz.prog 147
  simpa using this
 have hb1 : Below w.heap.size w ((w.alloc (.cells #[sv, .slice pa g.prods.length pc, .int .i64 g.start, .slice a g.forbid.length c, lv] 39)).alloc (.map #[] 0)) := ((Below.refl _ w).alloc (Nat.le_refl _) _).alloc (by simp) _
 have hz1 : w.heap.size + 2 <= ((w.alloc (.cells #[sv, .slice pa g.prods.length pc, .int .i64 g.start, .slice a g.forbid.length c, lv] 39)).alloc (.map #[] 0)).heap.size := by simp
 generalize (w.alloc (.cells #[sv, .slice pa g.prods.length pc, .int .i64 g.start, .slice a g.forbid.length c, lv] 39)).alloc (.map #[] 0) = W1 at hB1 hM1 hb1 hz1 ⊢
 have H1 := Hd (An hB1 (An hM1 (An hb1 hz1)))
 clear hB1 hM1 hb1 hz1
 go_loopg [13] g.forbid.length (fun m v13 wr => ∃ (i : Nat) (f : Lit -> Option Value), i <= g.forbid.length /\ m = g.forbid.length - i /\ v13 = .int .i64 i /\ MapV Tryz.prog 147 wr (w.heap.size + 1) i f /\
  (∀ s, FbOk s -> f (keyB s) = if s ∈ g.forbid.take i then some (.int .i64 1) else none) /\ Below w.heap.size w wr /\ w.heap.size + 2 <= wr.heap.size /\ Blk wr w.heap.size 39 #[sv, .slice pa g.prods.length pc, .int .i64 g.start, .slice a g.forbid.length c, lv] /\ (g.forbid.take i).Nodup /\ ∀ s ∈ g.forbid.take i, fbB g s = true)
 case atStart => exact ⟨0, _, by omega, rfl, rfl, H1.out.2.1, (fun s _ => by simp), H1.out.2.2.1, H1.out.2.2.2, H1.out.1, by simp, by simp⟩
 case round =>
  obtain ⟨i, f, hi, hm, rfl, hM, hf, hb, hz, hB, hnd, heach⟩ := hrel
  by_cases hlt : i < g.forbid.length
  ·obtain ⟨⟨fp, fa, fc⟩, hsi⟩ : ∃ s, g.forbid[i]? = some s := ⟨_, List.getElem?_eq_getElem hlt⟩
   obtain ⟨kg, ko, rfl, hkD, hkr⟩ := HK.out.1 (by rintro h; rw [h] at hlt; simp at hlt)
   have up : ∀ {i : Nat} {u : Value}, w.cell? ⟨kg, i, none⟩ = some u -> wr.cell? ⟨kg, i, none⟩ = some u := fun h => (World.cell?_of_block (hb.block kg hkr.lt)).trans h
   have k0 := up (hkr.cells i _ hsi 0 _ rfl)
   have k1 := up (hkr.cells i _ hsi 1 _ rfl)
   have k2 := up (hkr.cells i _ hsi 2 _ rfl)
   simp only [Nat.add_zero] at k0
   have hmem := List.mem_of_getElem? hsi
   have hok := HK.out.2.1 _ hmem
   have hkey := keyOf_fb _ hok
   obtain ⟨cn, hcn⟩ : ∃ cn : Nat, (if (fp, fa, fc) ∈ g.forbid.take i then some (Value.int .i64 1) else none).getD (.int .i64 0) = .int .i64 (cn : Int) /\ (cn = 0 ∨ cn = 1) /\ (cn = 0 ↔ (fp, fa, fc) ∉ g.forbid.take i) := by
    by_cases h : (fp, fa, fc) ∈ g.forbid.take i
    ·exact ⟨1, by rw [if_pos h]; rfl, .inr rfl, by simp [h]⟩
    ·exact ⟨0, by rw [if_neg h]; rfl, .inl rfl, by simp [h]⟩
   obtain ⟨hcv, hc01, hcm⟩ := hcn
   have hval : (f (keyB (fp, fa, fc))).getD (.int .i64 0) = .int .i64 (cn : Int) := by rw [hf _ hok, hcv]
   have hi0 : (0 : Int) <= (i : Int) := by omega
   have hi1 : (i : Int) < (g.forbid.length : Int) := by omega
   have hmx : i < maxLen := by unfold maxLen; omega
   have hcn0 : (0 : Int) <= (cn : Int) := by omega
   have hcn1 : (cn : Int) <= 1 := by omega
   have hno : fbB g (fp, fa, fc) = false -> forbidsB g = false := fun h => forbidsB_no hmem h
   have hno2 : (fp, fa, fc) ∈ g.forbid.take i -> forbidsB g = false := fun h => by
    unfold forbidsB
    rw [decide_eq_false (nodup_again hsi h)]
    rfl
   have HR := Hd (An hm (An hf (An hb (An hB (An hsi (An hcm (An hnd (An heach (An hno (An hno2 (An hok (An hM (An hz hval)))))))))))))
   clear hm hf hb hB hsi hcv hcm hM hkr hnd heach hno hno2 hmem hok up hz hval
   go_upto_region 6 with fail
   have hbW : Below wr.heap.size wr (wr.alloc (.cells #[.int .i64 fp, .int .i64 fa, .int .i64 fc] 147)).drew := ((Below.refl _ wr).alloc (Nat.le_refl _) _).drew
   have hXW : Blk (wr.alloc (.cells #[.int .i64 fp, .int .i64 fa, .int .i64 fc] 147)).drew wr.heap.size 147 #[.int .i64 fp, .int .i64 fa, .int .i64 fc] := Blk.new _ _ _
   obtain ⟨w7, hw7⟩ : ∃ w7, (wr.alloc (.cells #[.int .i64 fp, .int .i64 fa, .int .i64 fc] 147)) = w7 := ⟨_, rfl⟩
   rw [hw7] at hbW hXW ⊢
   clear hw7
   have hz7 := HR.out.2.2.2.2.2.2.2.2.2.2.2.2.1
   have hM7 : MapV Tryz.prog 147 w7.drew (w.heap.size + 1) i f := HR.out.2.2.2.2.2.2.2.2.2.2.2.1.below hbW (by omega)
   have hB7 := HR.out.2.2.2.1.below hbW (by omega)
   have hb7 := HR.out.2.2.1.trans (hbW.mono HR.out.2.2.1.size)
   have htm : wr.heap.size ≠ w.heap.size + 1 := by omega
   have hsz7 := hbW.size
   have hxw : w.heap.size < wr.heap.size := by omega
   obtain ⟨v0, st, W1, he1, hcell, hst⟩ := hM7.entry fbLaw Tryz.underlying145 (z := .int .i64 0) (fun u => Tryz.zeroValue3 u) (by unfold maxLen; omega) hkey
   have hl1 := hM7.entry_look fbLaw Tryz.underlying145 (z := .int .i64 0) (fun u => Tryz.zeroValue3 u) (by unfold maxLen; omega) hkey he1
   have hl0 := hM7.lookup (Keyed.of_law fbLaw) Tryz.underlying145 (Tryz.zeroValue3 w7.drew) hkey
   rw [HR.out.2.2.2.2.2.2.2.2.2.2.2.2.2] at hl0 hl1
   obtain ⟨W2, he2, hm2, hg2⟩ := hst (.int .i64 (cn + 1))
   obtain ⟨tb, htbe⟩ : ∃ tb, wr.heap.size = tb := ⟨_, rfl⟩
   have HTB := Hd htbe
   rw [htbe] at hXW htm hxw ⊢
   obtain ⟨x0, x1, x2, _⟩ := hXW.facts3
   have y0 := (hcell ⟨tb, 0, none⟩ htm).trans x0
   have y1 := (hcell ⟨tb, 1, none⟩ htm).trans x1
   have y2 := (hcell ⟨tb, 2, none⟩ htm).trans x2
   have hX2 := hXW.grown hg2 (by intro e; injection e with e; exact htm e)
   have hB2 := hB7.grown hg2 (by simp)
   have hlk2 := hm2.lookup (Keyed.of_law fbLaw) Tryz.underlying145 (Tryz.zeroValue3 W2) hkey
   rw [putV_same f _ ((Keyed.of_law fbLaw).key hkey)] at hlk2
   have hlk2 : ∀ k, (Instr.lookup 145 (.map (some (w.heap.size + 1))) (.agg #[.int .i64 fp, .int .i64 fa, .int .i64 fc]) false).run Tryz.prog (W2.drewN k) = .ok (.int .i64 (cn + 1)) (W2.drewN k) := fun k => by
    have h1 := (show MapV Tryz.prog 147 (W2.drewN k) (w.heap.size + 1) (i + 1) _ from hm2).lookup (Keyed.of_law fbLaw) Tryz.underlying145 (Tryz.zeroValue3 (W2.drewN k)) hkey
    rw [putV_same f _ ((Keyed.of_law fbLaw).key hkey)] at h1
    exact h1
   have hb2 : Below w.heap.size w W2 := hb7.trans (below_of_grown hg2 hb7.size (Nat.le_succ _))
   have hz2 : w.heap.size + 2 <= W2.heap.size := by have := hg2.size; omega
   have T2 := Hd (An hm2 (An hb2 (An hB2 (An hX2 hz2))))
   have HL := Hd hlk2
   clear hbW hXW hM7 hB7 hb7 hst hcell hm2 hg2 hX2 hB2 htbe hlk2 hb2 hz2 hz7 hsz7
   apply via
   ·intro KV
    go_region
    all_goals (try go_simp)
    all_goals exact KV.out
   intros
   clear hl0 hl1 he1 he2 x0 x1 x2 y0 y1 y2
   obtain ⟨x0, x1, x2, _⟩ := T2.out.2.2.2.1.facts3
   have g1 := T2.out.2.2.1.cell 1
   simp at g1
   have hlk2 := HL.out
   have hbR : ∀ k, Below w.heap.size w (W2.drewN k) := fun k => below_drewN T2.out.2.1 k
   have HbR := Hd hbR
   clear hbR
   go_upto_region 7 with fail
   by_cases hcz : cn = 0
   ·subst hcz
    have hpk : ∀ k, ProdsAt (fun _ => True) (W2.drewN k) (.slice pa g.prods.length pc) g.prods := fun k => HK.out.2.2.1.keep fun q hq hl => ⟨trivial, T2.out.2.1.block q hl⟩
    have hcall : ∀ (n : Int) (r : Bool), pB g n = r -> ∀ k, Calls Tryz.prog 73 #[.int .i64 n, .pointer (some ⟨w.heap.size, 0, none⟩)] (W2.drewN k) fun e w' => e = .returned (.bool r) /\ w' = W2.drewN k := fun n r hr k => fprod_any (fun _ => True) g hpm (W2.drewN k) w.heap.size pa pc g1 (hpk k) n r hr
    have HC := Hd hcall
    clear hcall
    rcases fb_arms g (fp, fa, fc) with ⟨hh, p1⟩ | ⟨hh, p1, p2⟩ | ⟨n, m, p, q, e1, e2, hp, hq, p1, p2, hrest⟩
    ·have HC1 := Hd (HC.out fp false p1)
     have HV := Hd (HR.out.2.2.2.2.2.2.2.2.1 hh)
     clear hh p1
     go_quiet ((go_at_call 73; exact Calls.quiet_of_same (HC1.out _)))
     go_wp2_with fail
     go_ret
     exact ⟨by rw [HV.out]; rfl, HbR.out _⟩
    ·have HC1 := Hd (HC.out fp true p1)
     have HC2 := Hd (HC.out fc false p2)
     have HV := Hd (HR.out.2.2.2.2.2.2.2.2.1 hh)
     clear hh p1 p2
     go_quiet ((first | (go_at_call_of 73 (fp); exact Calls.quiet_of_same (HC1.out _)) | (go_at_call_of 73 (fc); exact Calls.quiet_of_same (HC2.out _))))
     go_wp2_with fail
     go_ret
     exact ⟨by rw [HV.out]; rfl, HbR.out _⟩
    ·have HC1 := Hd (HC.out fp true p1)
     have HC2 := Hd (HC.out fc true p2)
     clear p1 p2
     simp only at e1 e2
     subst e1
     subst e2
     obtain ⟨cap, pb, po, vr, epv, hbl, hvr, hpc⟩ := HK.out.2.2.1.at_ hp
     obtain ⟨cap2, pb2, po2, vr2, epv2, hbl2, hvr2, hpc2⟩ := HK.out.2.2.1.at_ hq
     injection epv with u1 u2 u3
     subst u1
     subst u3
     injection epv2 with u1 u2 u3
     injection u1 with u1
     injection u1 with u1 u4
     subst u1
     subst u4
     subst u3
     clear u2
     obtain ⟨ra, rc, rfl, hrc1, hrc2, hrk⟩ := hvr
     have up2 : ∀ {b i : Nat} {u : Value}, b < w.heap.size -> w.cell? ⟨b, i, none⟩ = some u -> W2.cell? ⟨b, i, none⟩ = some u := fun hb h => (World.cell?_of_block (T2.out.2.1.block _ hb)).trans h
     have v1 := up2 hbl (hpc 1 _ rfl)
     have v0 := up2 hbl (hpc2 0 _ rfl)
     simp only [Nat.add_zero] at v0
     have hrl := HK.out.2.2.2 p (List.mem_of_getElem? hp)
     have hn0 : (0 : Int) <= (n : Int) := by omega
     have hm0 : (0 : Int) <= (m : Int) := by omega
     have hn1 : (n : Int) < (g.prods.length : Int) := by have := (List.getElem?_eq_some_iff.1 hp).1; omega
     have hm1 : (m : Int) < (g.prods.length : Int) := by have := (List.getElem?_eq_some_iff.1 hq).1; omega
     clear hpc hpc2 hvr2 hp hq
     rcases hrest with ⟨hh, c1⟩ | ⟨hh, c1, c2⟩ | ⟨k, sy, e3, hsy, hrest⟩
     ·have HV := Hd (HR.out.2.2.2.2.2.2.2.2.1 hh)
      have d1 : decide (fa < 1) = true := decide_eq_true c1
      clear hh
      go_quiet ((first | (go_at_call_of 73 (n); exact Calls.quiet_of_same (HC1.out _)) | (go_at_call_of 73 (m); exact Calls.quiet_of_same (HC2.out _))))
      go_wp2_with fail
      go_ret
      exact ⟨by rw [HV.out]; rfl, HbR.out _⟩
     ·have HV := Hd (HR.out.2.2.2.2.2.2.2.2.1 hh)
      have d1 : decide (fa < 1) = false := decide_eq_false (by simp only at c1; omega)
      simp only at c2
      have d2 : decide ((p.right.length : Int) < fa) = true := decide_eq_true c2
      clear hh
      go_quiet ((first | (go_at_call_of 73 (n); exact Calls.quiet_of_same (HC1.out _)) | (go_at_call_of 73 (m); exact Calls.quiet_of_same (HC2.out _))))
      go_wp2_with fail
      go_ret
      exact ⟨by rw [HV.out]; rfl, HbR.out _⟩
     ·simp only at e3
      subst e3
      have hkl := (List.getElem?_eq_some_iff.1 hsy).1
      have d1 : decide ((k : Int) + 1 < 1) = false := decide_eq_false (by omega)
      have d2 : decide ((p.right.length : Int) < (k : Int) + 1) = false := decide_eq_false (by omega)
      obtain ⟨sb, so, rfl, hsD, hsr⟩ := hrk (by rintro h; rw [h] at hkl; simp at hkl)
      have s0 := up2 hsr.lt (hsr.cells k _ hsy 0 _ rfl)
      have s1 := up2 hsr.lt (hsr.cells k _ hsy 1 _ rfl)
      have s2 := up2 hsr.lt (hsr.cells k _ hsy 2 _ rfl)
      have s3 := up2 hsr.lt (hsr.cells k _ hsy 3 _ rfl)
      have s4 := up2 hsr.lt (hsr.cells k _ hsy 4 _ rfl)
      have s5 := up2 hsr.lt (hsr.cells k _ hsy 5 _ rfl)
      simp only [Nat.add_zero] at s0
      clear hsr up2 hsy
      have HREST := Hd hrest
      clear hrest
      go_quiet ((first | (go_at_call_of 73 (n); exact Calls.quiet_of_same (HC1.out _)) | (go_at_call_of 73 (m); exact Calls.quiet_of_same (HC2.out _))))
      go_upto_region 9 with fail
      generalize hw9 : World.drewN W2 _ = w9
      obtain ⟨nq, hw9⟩ : ∃ nq, World.drewN W2 nq = w9 := ⟨_, hw9⟩
      have hb9 := HbR.out nq
      have hX9 := T2.out.2.2.2.1.drewN nq
      have hB9 := T2.out.2.2.1.drewN nq
      have hM9 := T2.out.1.drewN nq
      rw [hw9] at hb9 hX9 hB9 hM9
      have hz9 : w.heap.size + 2 <= w9.heap.size := by rw [<- hw9]; exact T2.out.2.2.2.2
      have c9 : ∀ {a : Addr} {u : Value}, W2.cell? a = some u -> w9.cell? a = some u := fun h => by rw [<- hw9]; exact h
      have HF := Hd (show ∀ W, Below w9.heap.size w9.drew W -> W.cell? ⟨w.heap.size, 1, none⟩ = some (.slice (some ⟨pb, po, none⟩) g.prods.length pc) /\ W.cell? ⟨tb, 0, none⟩ = some (.int .i64 n) /\ W.cell? ⟨tb, 1, none⟩ = some (.int .i64 ((k : Int) + 1)) /\ W.cell? ⟨tb, 2, none⟩ = some (.int .i64 m) /\ W.cell? ⟨pb, po + n * 7 + 1, none⟩ = some (.slice (some ⟨sb, so, none⟩) p.right.length rc) /\ W.cell? ⟨pb, po + m * 7, none⟩ = some (.int .i64 q.left) /\
       W.cell? ⟨sb, so + k * 6, none⟩ = some (.int .i64 sy.kind) /\ W.cell? ⟨sb, so + k * 6 + 1, none⟩ = some (.int .u64 (wd sy.set 0)) /\ W.cell? ⟨sb, so + k * 6 + 2, none⟩ = some (.int .u64 (wd sy.set 1)) /\ W.cell? ⟨sb, so + k * 6 + 3, none⟩ = some (.int .u64 (wd sy.set 2)) /\ W.cell? ⟨sb, so + k * 6 + 4, none⟩ = some (.int .u64 (wd sy.set 3)) /\ W.cell? ⟨sb, so + k * 6 + 5, none⟩ = some (.int .i64 sy.sort) from fun W h => by
       have st : ∀ {b i : Nat} {u : Value}, w9.cell? ⟨b, i, none⟩ = some u -> W.cell? ⟨b, i, none⟩ = some u := fun {b i u} hc => by
        have hlt : b < w9.heap.size := World.block_lt_of_cell? _ _ hc
        exact (World.cell?_of_block (h.block b hlt)).trans hc
       exact ⟨st (c9 g1), st (c9 x0), st (c9 x1), st (c9 x2), st (c9 v1), st (c9 v0), st (c9 s0), st (c9 s1), st (c9 s2), st (c9 s3), st (c9 s4), st (c9 s5)⟩)
      have HZ := Hd (show ∀ W, Below w9.heap.size w9.drew W -> w9.heap.size <= W.heap.size from fun W h => h.size)
      have hk0 : (0 : Int) <= (k : Int) := by omega
      have hk1 : (k : Int) < (p.right.length : Int) := by omega
      have hwk : IntKind.i64.wrap (k : Int) = (k : Int) := IntWalk.i64_in _ (by omega)
      have hwk2 : IntKind.i64.wrap ((k : Int) + 1 - 1) = (k : Int) := by rw [show (k : Int) + 1 - 1 = k by omega]; exact hwk
      have T9 := Hd (An hb9 (An hX9 (An hB9 (An hM9 hz9))))
      clear hb9 hX9 hB9 hM9 hz9 c9 hw9 x0 x1 x2 g1 v1 v0 s0 s1 s2 s3 s4 s5 hlk2 hpk
      refine wp_region_conc 13 (fbR w.heap.size tb pb po sb so n k g.prods.length pc p.right.length rc w9.heap.size sy) (fun A W => Below A.heap.size A W) (fun _ _ => True) (by kernel_rfl) (by kernel_rfl) (by kernel_rfl) (by kernel_rfl) (Below.refl _ _) trivial (fun h k => h.trans (k.mono h.size)) ?_ ?_
      ·simp only [List.take_succ_cons, List.take_zero]
       refine ⟨?_, ?_, ?_, ?_, ?_, ?_, ?_, ?_, ?_, ?_, ?_, ?_, ?_, trivial⟩
       ·intro L T W hG hJ hLs hLi dq fq vq K hK
        have h1 := fq 1 (by decide)
        simp at h1
        go_simp
        exact hK _ _ (Below.refl _ W) (fun j u _ _ _ h => h) trivial rfl
       ·intro L T W hG hJ hLs hLi dq fq vq K hK
        have h1 := vq ⟨0, .data⟩ (by simp) rfl 59 rfl
        simp only [fbR] at h1
        simp at h1
        obtain ⟨f0, f1, f2, f3, f4, f5, f6, f7, f8, f9, f10, f11⟩ := HF.out W hG
        go_simp
        exact hK _ _ (Below.refl _ W) (fun j u _ _ _ h => h) trivial rfl
       ·intro L T W hG hJ hLs hLi dq fq vq K hK
        have h1 := fq 6 (by decide)
        simp at h1
        go_simp
        exact hK _ _ (Below.refl _ W) (fun j u _ _ _ h => h) trivial rfl
       ·intro L T W hG hJ hLs hLi dq fq vq K hK
        have h1 := vq ⟨2, .data⟩ (by simp) rfl 61 rfl
        simp only [fbR] at h1
        simp at h1
        obtain ⟨f0, f1, f2, f3, f4, f5, f6, f7, f8, f9, f10, f11⟩ := HF.out W hG
        go_simp
        exact hK _ _ (Below.refl _ W) (fun j u _ _ _ h => h) trivial rfl
       ·intro L T W hG hJ hLs hLi dq fq vq K hK
        have h1 := vq ⟨1, .data⟩ (by simp) rfl 60 rfl
        have h2 := vq ⟨3, .data⟩ (by simp) rfl 62 rfl
        simp only [fbR] at h1 h2
        simp at h1 h2
        go_simp
        exact hK _ _ (Below.refl _ W) (fun j u _ _ _ h => h) trivial rfl
       ·intro L T W hG hJ hLs hLi dq fq vq K hK
        have h1 := vq ⟨4, .data⟩ (by simp) rfl 63 rfl
        simp only [fbR] at h1
        simp at h1
        go_simp
        exact hK _ _ (Below.refl _ W) (fun j u _ _ _ h => h) trivial rfl
       ·intro L T W hG hJ hLs hLi dq fq vq K hK
        have h1 := vq ⟨5, .data⟩ (by simp) rfl 64 rfl
        simp only [fbR] at h1
        simp at h1
        obtain ⟨f0, f1, f2, f3, f4, f5, f6, f7, f8, f9, f10, f11⟩ := HF.out W hG
        go_simp
        exact hK _ _ (Below.refl _ W) (fun j u _ _ _ h => h) trivial rfl
       ·intro L T W hG hJ hLs hLi dq fq vq K hK
        have h1 := fq 6 (by decide)
        simp at h1
        go_simp
        exact hK _ _ (Below.refl _ W) (fun j u _ _ _ h => h) trivial rfl
       ·intro L T W hG hJ hLs hLi dq fq vq K hK
        have h1 := vq ⟨7, .data⟩ (by simp) rfl 66 rfl
        simp only [fbR] at h1
        simp at h1
        obtain ⟨f0, f1, f2, f3, f4, f5, f6, f7, f8, f9, f10, f11⟩ := HF.out W hG
        go_simp
        exact hK _ _ (Below.refl _ W) (fun j u _ _ _ h => h) trivial rfl
       ·intro L T W hG hJ hLs hLi dq fq vq K hK
        have h1 := vq ⟨8, .data⟩ (by simp) rfl 67 rfl
        simp only [fbR] at h1
        simp at h1
        go_simp
        exact hK _ _ (Below.refl _ W) (fun j u _ _ _ h => h) trivial rfl
       ·intro L T W hG hJ hLs hLi dq fq vq K hK
        have h1 := vq ⟨6, .data⟩ (by simp) rfl 65 rfl
        have h2 := vq ⟨9, .data⟩ (by simp) rfl 68 rfl
        simp only [fbR] at h1 h2
        simp at h1 h2
        go_simp
        exact hK _ _ (Below.refl _ W) (fun j u _ _ _ h => h) trivial rfl
       ·intro L T W hG hJ hLs hLi dq fq vq K hK
        have h1 := vq ⟨10, .data⟩ (by simp) rfl 69 rfl
        simp only [fbR] at h1
        simp at h1
        obtain ⟨f0, f1, f2, f3, f4, f5, f6, f7, f8, f9, f10, f11⟩ := HF.out W hG
        go_simp
        exact hK _ _ (Below.refl _ W) (fun j u _ _ _ h => h) trivial rfl
       ·intro L T W hG hJ hLs hLi dq fq vq K hK
        go_simp
        have hbn := (Below.refl W.heap.size W).alloc (Nat.le_refl _) (.cells #[.int .i64 0, .int .u64 0, .int .u64 0, .int .u64 0, .int .u64 0, .int .i64 0] 28)
        exact hK _ _ hbn (fun j u _ _ _ h => fbR_stab _ _ _ _ _ _ _ _ _ _ _ _ _ _ j u _ _ h hbn) trivial ⟨_, rfl, Blk.new W _ _, HZ.out W hG⟩
      ·intro f9 W5 hG _ hR
       have e11 := hR 11 70 (by decide) rfl
       obtain ⟨yb, e12, k9, k10⟩ := hR 12 7 (by decide) rfl
       simp only [concDsts, List.take_succ_cons, List.take_zero, List.drop_succ_cons, List.drop_zero, List.filterMap_cons, List.filterMap_nil, List.foldl_cons, List.foldl_nil, List.setIfInBounds_toArray, List.set_cons_zero, List.set_cons_succ]
       simp only [fbR] at e11
       rw [e11, e12]
       clear e11 e12 hR
       generalize f9 59 = v59
       generalize f9 60 = v60
       generalize f9 61 = v61
       generalize f9 62 = v62
       generalize f9 63 = v63
       generalize f9 64 = v64
       generalize f9 65 = v65
       generalize f9 66 = v66
       generalize f9 67 = v67
       generalize f9 68 = v68
       generalize f9 69 = v69
       clear f9
       have hbz : Below w9.heap.size W5 ((((((W5.setCell ⟨yb, 0, none⟩ (.int .i64 sy.kind)).setCell ⟨yb, 1, none⟩ (.int .u64 (wd sy.set 0))).setCell ⟨yb, 2, none⟩ (.int .u64 (wd sy.set 1))).setCell ⟨yb, 3, none⟩ (.int .u64 (wd sy.set 2))).setCell ⟨yb, 4, none⟩ (.int .u64 (wd sy.set 3))).setCell ⟨yb, 5, none⟩ (.int .i64 sy.sort)) := (((((((Below.refl _ _).setCell k10 _).setCell k10 _).setCell k10 _).setCell k10 _).setCell k10 _).setCell k10 _)
       have hYz : Blk ((((((W5.setCell ⟨yb, 0, none⟩ (.int .i64 sy.kind)).setCell ⟨yb, 1, none⟩ (.int .u64 (wd sy.set 0))).setCell ⟨yb, 2, none⟩ (.int .u64 (wd sy.set 1))).setCell ⟨yb, 3, none⟩ (.int .u64 (wd sy.set 2))).setCell ⟨yb, 4, none⟩ (.int .u64 (wd sy.set 3))).setCell ⟨yb, 5, none⟩ (.int .i64 sy.sort)) yb 28 #[.int .i64 sy.kind, .int .u64 (wd sy.set 0), .int .u64 (wd sy.set 1), .int .u64 (wd sy.set 2), .int .u64 (wd sy.set 3), .int .i64 sy.sort] := ((((((k9.set_ 0 _).set_ 1 _).set_ 2 _).set_ 3 _).set_ 4 _).set_ 5 _)
       have y0 := k9.cell 0
       have y1 := k9.cell 1
       have y2 := k9.cell 2
       have y3 := k9.cell 3
       have y4 := k9.cell 4
       have y5 := k9.cell 5
       have yz := k9.frozen
       simp at y0 y1 y2 y3 y4 y5
       have HGz := Hd (An hG (An hbz hYz))
       clear hbz hYz hG
       go_upto_region 10 with fail
       have hG := HGz.out.1
       have hbz := HGz.out.2.1
       have hYz := HGz.out.2.2
       generalize ((((((W5.setCell ⟨yb, 0, none⟩ (.int .i64 sy.kind)).setCell ⟨yb, 1, none⟩ (.int .u64 (wd sy.set 0))).setCell ⟨yb, 2, none⟩ (.int .u64 (wd sy.set 1))).setCell ⟨yb, 3, none⟩ (.int .u64 (wd sy.set 2))).setCell ⟨yb, 4, none⟩ (.int .u64 (wd sy.set 3))).setCell ⟨yb, 5, none⟩ (.int .i64 sy.sort)) = wz at hbz hYz ⊢
       have hGz : Below w9.heap.size w9.drew wz := (show Below w9.heap.size w9.drew W5 from hG).trans hbz
       have hb9z : Below w9.heap.size w9 wz := (show Below w9.heap.size w9 w9.drew from (Below.refl _ _).drew).trans hGz
       have z0 := hYz.cell 0
       have z5 := hYz.cell 5
       simp at z0 z5
       obtain ⟨f0, f1, f2, f3, f4, f5, f6, f7, f8, f9, f10, f11⟩ := HF.out wz hGz
       have T10 := Hd (An (T9.out.1.trans (hb9z.mono T9.out.1.size)) (An (T9.out.2.2.2.1.below hb9z T9.out.2.2.2.1.lt) (An (T9.out.2.2.1.below hb9z T9.out.2.2.1.lt) (Nat.le_trans T9.out.2.2.2.2 hb9z.size))))
       have hbR2 : ∀ k, Below w.heap.size w (wz.drewN k) := fun k => below_drewN T10.out.1 k
       have HbR2 := Hd hbR2
       clear hbR2 hG hbz hYz hGz hb9z y0 y1 y2 y3 y4 y5 yz k9 k10 f2 f4 f6 f7 f8 f9 f10 f11
       rcases HREST.out with ⟨hh, c1⟩ | ⟨hh, c1, c2⟩ | ⟨hh, c1, c2⟩
       ·have HV := Hd (HR.out.2.2.2.2.2.2.2.2.1 hh)
        have hd1 : decide (sy.kind = 1) = false := decide_eq_false c1
        have hd2 : (sy.kind != 1) = true := by simpa using c1
        clear hh
        go_quiet (fail)
        go_wp2_with fail
        go_ret
        exact ⟨by rw [HV.out]; rfl, HbR2.out _⟩
       ·have HV := Hd (HR.out.2.2.2.2.2.2.2.2.1 hh)
        clear hh
        rw [c1] at z0
        go_quiet (fail)
        go_wp2_with fail
        go_ret
        exact ⟨by rw [HV.out]; rfl, HbR2.out _⟩
       ·have HV := Hd hh
        have hnm := HR.out.2.2.2.2.2.1.1 rfl
        have HD := Hd hnm
        clear hh hnm
        rw [c1] at z0
        rw [c2] at z5
        go_quiet (fail)
        go_wp2_with fail
        go_roundg (g.forbid.length - (i + 1))
        case measure => have := HR.out.1; omega
        case rel =>
         have htk : g.forbid.take (i + 1) = g.forbid.take i ++ [((n : Int), (k : Int) + 1, (m : Int))] := by rw [List.take_add_one, HR.out.2.2.2.2.1]; rfl
         refine ⟨i + 1, _, by omega, rfl, rfl, T10.out.2.1.drewN _, fun t ht => ?_, HbR2.out _, T10.out.2.2.2, T10.out.2.2.1.drewN _, ?_, fun t ht => ?_⟩
         ·by_cases e : t = ((n : Int), (k : Int) + 1, (m : Int))
          ·rw [e, putV_same _ _ ((Keyed.of_law fbLaw).key (keyOf_fb _ HR.out.2.2.2.2.2.2.2.2.2.2.1)), htk, if_pos (by simp)]
           rfl
          ·rw [putV_other _ _ (fun h => e (keyB_inj ht HR.out.2.2.2.2.2.2.2.2.2.2.1 h)), HR.out.2.1 t ht, htk]
           by_cases e2 : t ∈ g.forbid.take i
           ·rw [if_pos e2, if_pos (List.mem_append_left _ e2)]
           ·rw [if_neg e2, if_neg (fun h => (List.mem_append.1 h).elim e2 (fun h => e (by simpa using h)))]
         ·rw [htk, List.nodup_append]
          exact ⟨HR.out.2.2.2.2.2.2.1, by simp, fun a ha b hb => by simp at hb; subst hb; exact fun e => HD.out (e ▸ ha)⟩
         ·rw [htk] at ht
          rcases List.mem_append.1 ht with ht | ht
          ·exact HR.out.2.2.2.2.2.2.2.1 t ht
          ·simp at ht; subst ht; exact HV.out
   ·have hmem : (fp, fa, fc) ∈ g.forbid.take i := Classical.byContradiction fun h => hcz (HR.out.2.2.2.2.2.1.2 h)
    have HV := Hd (HR.out.2.2.2.2.2.2.2.2.2.1 hmem)
    have hc1 : cn = 1 := by omega
    subst hc1
    clear hmem
    go_quiet (fail)
    go_wp2_with fail
    go_ret
    exact ⟨by rw [HV.out]; rfl, HbR.out _⟩
  ·obtain rfl : i = g.forbid.length := by omega
   rw [List.take_length] at hnd heach
   have hv : forbidsB g = true := by
    unfold forbidsB
    rw [decide_eq_true hnd, List.all_eq_true.2 heach]
    rfl
   have HR := Hd (An hb hv)
   clear hb hB hM hf hm hnd heach hv hz
   go_wp2_with fail
   go_ret
   exact ⟨by rw [HR.out.2]; rfl, HR.out.1⟩
end Go.Proofs.YtknpkndiflodbaaGreatDoor.Tb
