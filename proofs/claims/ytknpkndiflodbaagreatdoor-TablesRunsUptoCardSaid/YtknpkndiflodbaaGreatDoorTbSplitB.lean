/-
  WALKS of package sets: Split, but for its sort.
  sets.Split's contract.
-/
import Derived.Test.YtknpkndiflodbaaGreatDoorTbSortA
import Derived.Test.YtknpkndiflodbaaGreatDoorRowsA
import Derived.Deep.RegionLaw
import Derived.Deep.RegionHeld3
import Derived.Carry
import Derived.WalkMore
set_option linter.unusedVariables false
set_option linter.unusedSimpArgs false
namespace Go.Proofs.YtknpkndiflodbaaGreatDoor.Tb
open Go Go.RowKit Go.Proofs Go.Maps Mx
attribute [local go_sem] eqSet guardSet
theorem setCells_blk (w : World) (M : Nat) : ∀ j u, (encSet M)[j]? = some u → (w.alloc (.cells #[.int .u64 (wd M 0), .int .u64 (wd M 1), .int .u64 (wd M 2), .int .u64 (wd M 3)] 26)).cell? ((⟨w.heap.size, 0, none⟩ : Addr).add j) = some u := by
  intro j u hj
  have hb : Blk (w.alloc (.cells #[.int .u64 (wd M 0), .int .u64 (wd M 1), .int .u64 (wd M 2), .int .u64 (wd M 3)] 26)) w.heap.size 26 #[.int .u64 (wd M 0), .int .u64 (wd M 1), .int .u64 (wd M 2), .int .u64 (wd M 3)] := Blk.new w _ _
  rw [addr_add_, Nat.zero_add, hb.cell j]
  simpa [encSet] using hj
theorem encSet_one' (M : Nat) : ∀ u ∈ encSet M, u.oneCell' = true := by
  intro u hu
  simp [encSet] at hu
  rcases hu with rfl | rfl | rfl | rfl <;> rfl
/-- Where the loops of Split stand: wr: where the round of the set s began. -/
structure SpW (s : Nat) (wr wq : World) (next : List Nat) (c : Nat) (f : Lit → Option Value) (v7 : Value) : Prop where
  own : wq.ownsRow (wr.heap.size + 2) 26 4 v7 next.length (flatK encSet next)
  map : MapV Tryz.prog 26 wq (wr.heap.size + 1) c f
  met : MetS f next c
  set : Blk wq wr.heap.size 26 #[.int .u64 (wd s 0), .int .u64 (wd s 1), .int .u64 (wd s 2), .int .u64 (wd s 3)]
  below : Below wr.heap.size wr wq
  size : wr.heap.size + 2 ≤ wq.heap.size
  len : next.length ≤ c
section
variable {s : Nat} {wr wq w' : World} {next : List Nat} {c : Nat} {f : Lit → Option Value} {v7 : Value}
theorem SpW.keep (h : SpW s wr wq next c f v7) (hb : Below wq.heap.size wq w') : SpW s wr w' next c f v7 :=
  ⟨row_below h.own hb, h.map.below hb h.map.lt, h.met, h.set.below hb h.set.lt, h.below.trans (hb.mono h.below.size), Nat.le_trans h.size hb.size, h.len⟩
theorem SpW.old (h : SpW s wr wq next c f v7) {x : Nat} (hx : x < 2 ^ 256) {n : Int} (h0 : 0 ≤ n) (hc : n ≤ c) (hn : x ≠ 0 → (x ∈ next ↔ n ≠ 0)) (hin : x = 0 ∨ x ∈ next)
    (hm : MapV Tryz.prog 26 w' (wr.heap.size + 1) (c + 1) (putV f (keyS x) (.int .i64 (n + 1)))) (hg : wq.grownBy w' (some (wr.heap.size + 1))) : SpW s wr w' (addF next x) (c + 1) (putV f (keyS x) (.int .i64 (n + 1))) v7 := by
  have he : addF next x = next := by unfold addF; rw [if_pos hin]
  have hst := h.met.step x hx h0 hc hn
  rw [he] at hst ⊢
  refine ⟨h.own.kept hg ?_, hm, hst, h.set.grown hg (by simp), ?_, Nat.le_trans h.size hg.size, Nat.le_succ_of_le h.len⟩
  · cases e : v7.ownBlock with
    | none => exact .inl rfl
    | some b => exact .inr (by have := (h.own.lt b e).1; intro e2; injection e2 with e2; omega)
  · exact h.below.trans (below_of_grown hg (by have := h.size; omega) (by omega))
/-- The map has it already; the row not yet. -/
theorem SpW.mid (h : SpW s wr wq next c f v7) {f' : Lit → Option Value} (hm : MapV Tryz.prog 26 w' (wr.heap.size + 1) (c + 1) f') (hg : wq.grownBy w' (some (wr.heap.size + 1))) :
    w'.ownsRow (wr.heap.size + 2) 26 4 v7 next.length (flatK encSet next) ∧ Blk w' wr.heap.size 26 #[.int .u64 (wd s 0), .int .u64 (wd s 1), .int .u64 (wd s 2), .int .u64 (wd s 3)] ∧ Below wr.heap.size wr w' := by
  refine ⟨h.own.kept hg ?_, h.set.grown hg (by simp), h.below.trans (below_of_grown hg (by have := h.size; omega) (by omega))⟩
  cases e : v7.ownBlock with
  | none => exact .inl rfl
  | some b => exact .inr (by have := (h.own.lt b e).1; intro e2; injection e2 with e2; omega)
end
theorem opt_of {α : Type} {D : Nat → Prop} {enc : α → List Value} {k n c : Nat} {w : World} {a : Option Addr} {l : List α} (h : SliceK D enc k w (.slice a n c) l) : OptK D enc k w a l := by
  obtain ⟨a', c', e, _, _, h⟩ := h
  injection e with e
  rw [e]
  exact h
set_option maxRecDepth 100000 in
set_option maxHeartbeats 8000000 in
theorem split_core (D : Nat → Prop) (l : List Nat) (hlt : ∀ s ∈ l, s < 2 ^ 256) (v : Value) (w : World) (hv : SliceK D encSet 4 w v l)
    (hsort : ∀ (parts : List Nat) (v : Value) (W : World), Parts parts → W.ownsRow w.heap.size 26 4 v parts.length (flatK encSet parts) → Below w.heap.size w W →
      Calls Tryz.prog 92 #[v, .func (.func 93) #[] #[]] W fun e W' => e = .returned (.tuple #[]) ∧ W'.ownsRow w.heap.size 26 4 v parts.length (flatK encSet (parts.foldr insSet [])) ∧ W.grownBy W' v.ownBlock) :
    Calls Tryz.prog 69 #[v] w fun e w' => ∃ v', e = .returned v' ∧ w'.ownsRow w.heap.size 26 4 v' (splitF l).length (flatK encSet (splitF l)) ∧ Below w.heap.size w w' := by
  obtain ⟨a, c, rfl, hc1, hc2, hk⟩ := hv
  have hmx : l.length ≤ 9223372036854775807 := by unfold maxLen at hc2; omega
  have hall := fun W => all_any W
  have HK := Lib.hid (And.intro hk (And.intro hlt hsort))
  clear hk hlt hsort
  have hmm := @run_makeMap Tryz.prog
  unfold setV at hall
  go_enter Tryz.func69, Tryz.ntmps69
  go_wp2_with fail
  refine (hall _).mono ?_
  rintro e w1 ⟨rfl, hb1⟩
  clear hall
  go_wp2_with fail
  have hown0 : (w1.alloc (.cells #[.int .u64 (wd fullM 0), .int .u64 (wd fullM 1), .int .u64 (wd fullM 2), .int .u64 (wd fullM 3)] 26)).ownsRow w.heap.size 26 4 (.slice (some ⟨w1.heap.size, 0, none⟩) 1 1) 1 (flatK encSet [2 ^ 256 - 1]) :=
    own_fresh w1 26 4 1 _ hb1.size rfl (by decide)
  have hbl0 : Below w.heap.size w (w1.alloc (.cells #[.int .u64 (wd fullM 0), .int .u64 (wd fullM 1), .int .u64 (wd fullM 2), .int .u64 (wd fullM 3)] 26)) := hb1.alloc hb1.size _
  generalize (w1.alloc (.cells #[.int .u64 (wd fullM 0), .int .u64 (wd fullM 1), .int .u64 (wd fullM 2), .int .u64 (wd fullM 3)] 26)) = w2 at hown0 hbl0 ⊢
  go_loopg [3, 16] l.length (fun m v3 v16 wr => ∃ (i : Nat) (parts : List Nat), i ≤ l.length ∧ m = l.length - i ∧ v16 = .int .i64 i ∧ parts = (l.take i).foldl splitStep [2 ^ 256 - 1] ∧ wr.ownsRow w.heap.size 26 4 v3 parts.length (flatK encSet parts) ∧ Below w.heap.size w wr)
  case atStart => exact ⟨0, _, by omega, rfl, rfl, rfl, hown0, hbl0⟩
  case round =>
    obtain ⟨i, parts, hi, hm, rfl, hparts, hown, hb⟩ := hrel
    have hPp : Parts parts := by rw [hparts]; exact parts_all _ _ (fun s hs => HK.out.2.1 s (List.mem_of_mem_take hs)) full_parts
    have hpl := parts_len hPp
    clear hown0 hbl0 hb1
    by_cases hlt : i < l.length
    · obtain ⟨s, hs⟩ : ∃ s, l[i]? = some s := ⟨_, List.getElem?_eq_getElem hlt⟩
      obtain ⟨kg, ko, rfl, _, hkr⟩ := HK.out.1 (by rintro rfl; simp at hlt)
      have k0 := hkr.cells i _ hs 0 _ rfl
      have k1 := hkr.cells i _ hs 1 _ rfl
      have k2 := hkr.cells i _ hs 2 _ rfl
      have k3 := hkr.cells i _ hs 3 _ rfl
      simp only [Nat.add_zero] at k0
      have k0 := (hb.cell (p := ⟨kg, ko + i * 4, none⟩) (World.block_lt_of_cell? _ _ k0)).trans k0
      have k1 := (hb.cell (p := ⟨kg, ko + i * 4 + 1, none⟩) (World.block_lt_of_cell? _ _ k1)).trans k1
      have k2 := (hb.cell (p := ⟨kg, ko + i * 4 + 2, none⟩) (World.block_lt_of_cell? _ _ k2)).trans k2
      have k3 := (hb.cell (p := ⟨kg, ko + i * 4 + 3, none⟩) (World.block_lt_of_cell? _ _ k3)).trans k3
      have hs256 := HK.out.2.1 s (List.mem_of_getElem? hs)
      have hnext : (l.take (i + 1)).foldl splitStep [2 ^ 256 - 1] = splitStep parts s := by
        rw [List.take_add_one, hs, hparts]; simp
      obtain ⟨pa, pc, rfl⟩ := own_shape hown
      have hi0 : (0 : Int) ≤ (i : Int) := by omega
      have hi1 : (i : Int) < (l.length : Int) := by omega
      have A := Lib.hid (And.intro hm (And.intro hown (And.intro hb (And.intro hnext (And.intro hs256 hPp)))))
      clear hm hown hb hnext hs hkr hPp hparts hs256
      obtain ⟨N, hN⟩ : ∃ N, parts.length = N := ⟨_, rfl⟩
      rw [hN] at hpl ⊢
      have HN := Lib.hid hN
      clear hN
      go_wp2_with fail
      have gs : Blk ((wr.alloc (.cells #[.int .u64 (wd s 0), .int .u64 (wd s 1), .int .u64 (wd s 2), .int .u64 (wd s 3)] 26)).alloc (.map #[] 0)) wr.heap.size 26 #[.int .u64 (wd s 0), .int .u64 (wd s 1), .int .u64 (wd s 2), .int .u64 (wd s 3)] := (Blk.new _ _ _).alloc _
      have gm := MapV.made (wr.alloc (.cells #[.int .u64 (wd s 0), .int .u64 (wd s 1), .int .u64 (wd s 2), .int .u64 (wd s 3)] 26)) Tryz.prog 26
      rw [World.size_alloc] at gm
      have gb : Below wr.heap.size wr ((wr.alloc (.cells #[.int .u64 (wd s 0), .int .u64 (wd s 1), .int .u64 (wd s 2), .int .u64 (wd s 3)] 26)).alloc (.map #[] 0)) := ((Below.refl _ wr).alloc (Nat.le_refl _) _).alloc (by simp) _
      have gz : wr.heap.size + 2 ≤ ((wr.alloc (.cells #[.int .u64 (wd s 0), .int .u64 (wd s 1), .int .u64 (wd s 2), .int .u64 (wd s 3)] 26)).alloc (.map #[] 0)).heap.size := by simp
      generalize ((wr.alloc (.cells #[.int .u64 (wd s 0), .int .u64 (wd s 1), .int .u64 (wd s 2), .int .u64 (wd s 3)] 26)).alloc (.map #[] 0)) = w3 at gs gm gb gz ⊢
      have hPK := opt_of (own_sliceK encSet_len A.out.2.1)
      have G := Lib.hid (And.intro gs (And.intro gm (And.intro gb (And.intro gz hPK))))
      clear gs gm gb gz hPK k0 k1 k2 k3
      obtain ⟨wo, rfl⟩ : ∃ wo : World, wo = wr := ⟨_, rfl⟩
      go_loopg [7, 23] N (fun m v7 v23 wq => ∃ (j : Nat) (next : List Nat) (f : Lit → Option Value), j ≤ N ∧ m = N - j ∧ v23 = .int .i64 j ∧ next = (parts.take j).foldl (fun nx p => cutF nx p s) [] ∧ SpW s wo wq next (2 * j) f v7)
      case atStart => exact ⟨0, [], _, by omega, rfl, rfl, rfl, ⟨World.ownsRow_nil _ _ _ _, G.out.2.1, MetS.start, G.out.1, G.out.2.2.1, G.out.2.2.2.1, by simp⟩⟩
      case round =>
        obtain ⟨j, next, f, hj, hm, rfl, hnx, hS⟩ := hrel
        obtain ⟨na, nc, rfl⟩ := own_shape hS.own
        by_cases hjN : j < N
        · have hjl : j < parts.length := by rw [HN.out]; exact hjN
          obtain ⟨p, hp⟩ : ∃ p, parts[j]? = some p := ⟨_, List.getElem?_eq_getElem hjl⟩
          have hpe : parts[j] = p := by rw [List.getElem?_eq_getElem hjl] at hp; injection hp
          obtain ⟨pg, po, rfl, _, hpgl, hpc⟩ := G.out.2.2.2.2.at_ hjl
          rw [hpe] at hpc
          have k0 := hpc 0 _ rfl
          have k1 := hpc 1 _ rfl
          have k2 := hpc 2 _ rfl
          have k3 := hpc 3 _ rfl
          simp only [Nat.add_zero] at k0
          have k0 := (hS.below.cell (p := ⟨pg, po + j * 4, none⟩) hpgl).trans k0
          have k1 := (hS.below.cell (p := ⟨pg, po + j * 4 + 1, none⟩) hpgl).trans k1
          have k2 := (hS.below.cell (p := ⟨pg, po + j * 4 + 2, none⟩) hpgl).trans k2
          have k3 := (hS.below.cell (p := ⟨pg, po + j * 4 + 3, none⟩) hpgl).trans k3
          have hp256 := (A.out.2.2.2.2.2.1 p (List.mem_of_getElem? hp)).2
          have hnext2 : (parts.take (j + 1)).foldl (fun nx p => cutF nx p s) [] = cutF next p s := by
            rw [List.take_add_one, hp, hnx]; simp
          have hj0 : (0 : Int) ≤ (j : Int) := by omega
          have hj1 : (j : Int) < (N : Int) := by omega
          have Q := Lib.hid (And.intro hm (And.intro hS (And.intro hnext2 hp256)))
          clear hm hS hnext2 hnx hp hpe hpc hpgl hjl hp256
          go_wp2_with fail
          have gs : Blk (wr.alloc (.cells #[.int .u64 (wd p 0), .int .u64 (wd p 1), .int .u64 (wd p 2), .int .u64 (wd p 3)] 26)) wo.heap.size 26 #[.int .u64 (wd s 0), .int .u64 (wd s 1), .int .u64 (wd s 2), .int .u64 (wd s 3)] := Q.out.2.1.set.alloc _
          have gp : Blk (wr.alloc (.cells #[.int .u64 (wd p 0), .int .u64 (wd p 1), .int .u64 (wd p 2), .int .u64 (wd p 3)] 26)) wr.heap.size 26 #[.int .u64 (wd p 0), .int .u64 (wd p 1), .int .u64 (wd p 2), .int .u64 (wd p 3)] := Blk.new _ _ _
          have gS : SpW s wo (wr.alloc (.cells #[.int .u64 (wd p 0), .int .u64 (wd p 1), .int .u64 (wd p 2), .int .u64 (wd p 3)] 26)).drew next (2 * j) f (.slice na next.length nc) := Q.out.2.1.keep ((Below.refl _ wr).alloc (Nat.le_refl _) _).drew
          generalize (wr.alloc (.cells #[.int .u64 (wd p 0), .int .u64 (wd p 1), .int .u64 (wd p 2), .int .u64 (wd p 3)] 26)) = w4 at gs gp gS ⊢
          generalize wr.heap.size = bp at gp ⊢
          have cs : ∀ W, Below w4.heap.size w4.drew W → ∀ i : Nat, W.cell? ⟨wo.heap.size, i, none⟩ = w4.cell? ⟨wo.heap.size, i, none⟩ := fun W h i => h.cell (p := ⟨wo.heap.size, i, none⟩) gs.lt
          have cp : ∀ W, Below w4.heap.size w4.drew W → ∀ i : Nat, W.cell? ⟨bp, i, none⟩ = w4.cell? ⟨bp, i, none⟩ := fun W h i => h.cell (p := ⟨bp, i, none⟩) gp.lt
          have s0 : ∀ W, Below w4.heap.size w4.drew W → W.cell? ⟨wo.heap.size, 0, none⟩ = some (.int .u64 (wd s 0)) := fun W h => (cs W h 0).trans (gs.cell 0)
          have s1 : ∀ W, Below w4.heap.size w4.drew W → W.cell? ⟨wo.heap.size, 1, none⟩ = some (.int .u64 (wd s 1)) := fun W h => (cs W h 1).trans (gs.cell 1)
          have s2 : ∀ W, Below w4.heap.size w4.drew W → W.cell? ⟨wo.heap.size, 2, none⟩ = some (.int .u64 (wd s 2)) := fun W h => (cs W h 2).trans (gs.cell 2)
          have s3 : ∀ W, Below w4.heap.size w4.drew W → W.cell? ⟨wo.heap.size, 3, none⟩ = some (.int .u64 (wd s 3)) := fun W h => (cs W h 3).trans (gs.cell 3)
          have p0 : ∀ W, Below w4.heap.size w4.drew W → W.cell? ⟨bp, 0, none⟩ = some (.int .u64 (wd p 0)) := fun W h => (cp W h 0).trans (gp.cell 0)
          have p1 : ∀ W, Below w4.heap.size w4.drew W → W.cell? ⟨bp, 1, none⟩ = some (.int .u64 (wd p 1)) := fun W h => (cp W h 1).trans (gp.cell 1)
          have p2 : ∀ W, Below w4.heap.size w4.drew W → W.cell? ⟨bp, 2, none⟩ = some (.int .u64 (wd p 2)) := fun W h => (cp W h 2).trans (gp.cell 2)
          have p3 : ∀ W, Below w4.heap.size w4.drew W → W.cell? ⟨bp, 3, none⟩ = some (.int .u64 (wd p 3)) := fun W h => (cp W h 3).trans (gp.cell 3)
          have hwE : p &&& notM s = p &&& (2 ^ 256 - 1 - s) := by rw [notM_eq A.out.2.2.2.2.1]
          obtain ⟨X, hX⟩ : ∃ X, p &&& s = X := ⟨_, rfl⟩
          obtain ⟨Y, hY⟩ : ∃ Y, p &&& notM s = Y := ⟨_, rfl⟩
          have hmeet : ∀ W, Below w4.heap.size w4.drew W → Calls Tryz.prog 90 #[.agg #[.int .u64 (wd p 0), .int .u64 (wd p 1), .int .u64 (wd p 2), .int .u64 (wd p 3)], .agg #[.int .u64 (wd s 0), .int .u64 (wd s 1), .int .u64 (wd s 2), .int .u64 (wd s 3)]] W fun e W' =>
              e = .returned (.agg #[.int .u64 (wd X 0), .int .u64 (wd X 1), .int .u64 (wd X 2), .int .u64 (wd X 3)]) ∧ Below w4.heap.size w4.drew W' := fun W h => (meet_any p s W).mono fun e W' ⟨he, hb⟩ => ⟨by rw [he, hX]; rfl, h.trans (hb.mono h.size)⟩
          have hwo : ∀ W, Below w4.heap.size w4.drew W → Calls Tryz.prog 91 #[.agg #[.int .u64 (wd p 0), .int .u64 (wd p 1), .int .u64 (wd p 2), .int .u64 (wd p 3)], .agg #[.int .u64 (wd s 0), .int .u64 (wd s 1), .int .u64 (wd s 2), .int .u64 (wd s 3)]] W fun e W' =>
              e = .returned (.agg #[.int .u64 (wd Y 0), .int .u64 (wd Y 1), .int .u64 (wd Y 2), .int .u64 (wd Y 3)]) ∧ Below w4.heap.size w4.drew W' := fun W h => (without_any p s W).mono fun e W' ⟨he, hb⟩ => ⟨by rw [he, hY]; rfl, h.trans (hb.mono h.size)⟩
          have hcut : cutF next p s = addF (addF next X) Y := by rw [cutF_eq, ← hwE, hX, hY]
          have hX256 : X < 2 ^ 256 := by rw [← hX]; exact Nat.lt_of_le_of_lt Nat.and_le_left Q.out.2.2.2
          have hY256 : Y < 2 ^ 256 := by rw [← hY]; exact Nat.lt_of_le_of_lt Nat.and_le_left Q.out.2.2.2
          have hU : Below w4.heap.size w4.drew w4.drew := Below.refl _ _
          have R := Lib.hid (And.intro gS (And.intro hcut (And.intro hX256 hY256)))
          clear gs gp gS cs cp hwE hX hY hcut hX256 hY256
          clear k0 k1 k2 k3
          have mkS : ∀ W, Below w4.heap.size w4.drew W → (W.cell? ⟨wo.heap.size, 0, none⟩ = some (.int .u64 (wd s 0)) ∧ W.cell? ⟨wo.heap.size, 1, none⟩ = some (.int .u64 (wd s 1)) ∧ W.cell? ⟨wo.heap.size, 2, none⟩ = some (.int .u64 (wd s 2)) ∧ W.cell? ⟨wo.heap.size, 3, none⟩ = some (.int .u64 (wd s 3))) ∧
              (W.cell? ⟨bp, 0, none⟩ = some (.int .u64 (wd p 0)) ∧ W.cell? ⟨bp, 1, none⟩ = some (.int .u64 (wd p 1)) ∧ W.cell? ⟨bp, 2, none⟩ = some (.int .u64 (wd p 2)) ∧ W.cell? ⟨bp, 3, none⟩ = some (.int .u64 (wd p 3))) ∧ Below w4.heap.size w4.drew W :=
            fun W h => ⟨⟨s0 W h, s1 W h, s2 W h, s3 W h⟩, ⟨p0 W h, p1 W h, p2 W h, p3 W h⟩, h⟩
          have MK := Lib.hid mkS
          have AL := Lib.hid (show ∀ W o, Below w4.heap.size w4.drew W → Below w4.heap.size w4.drew (W.alloc o) from fun W o h => h.alloc h.size o)
          clear mkS
          clear s0 s1 s2 s3 p0 p1 p2 p3
          apply via
          · intro KV
            go_region_held3 (fun W => (W.cell? ⟨wo.heap.size, 0, none⟩ = some (.int .u64 (wd s 0)) ∧ W.cell? ⟨wo.heap.size, 1, none⟩ = some (.int .u64 (wd s 1)) ∧ W.cell? ⟨wo.heap.size, 2, none⟩ = some (.int .u64 (wd s 2)) ∧ W.cell? ⟨wo.heap.size, 3, none⟩ = some (.int .u64 (wd s 3))) ∧
              (W.cell? ⟨bp, 0, none⟩ = some (.int .u64 (wd p 0)) ∧ W.cell? ⟨bp, 1, none⟩ = some (.int .u64 (wd p 1)) ∧ W.cell? ⟨bp, 2, none⟩ = some (.int .u64 (wd p 2)) ∧ W.cell? ⟨bp, 3, none⟩ = some (.int .u64 (wd p 3))) ∧ Below w4.heap.size w4.drew W)
              (first
                | exact MK.out _ hU
                | exact MK.out _ (by assumption)
                | exact MK.out _ (AL.out _ _ (by assumption)))
              (first
                | (go_at_call 90; refine (hmeet _ (by assumption)).mono ?_; rintro e w5 ⟨rfl, hb5⟩)
                | (go_at_call 91; refine (hwo _ (by assumption)).mono ?_; rintro e w5 ⟨rfl, hb5⟩))
            all_goals (try go_simp)
            all_goals revert w5
            all_goals exact KV.out
          · intro w5 hb5
            intros
            clear hmeet hwo hU MK AL
            have gB : Blk (w5.alloc (.cells #[.int .u64 (wd X 0), .int .u64 (wd X 1), .int .u64 (wd X 2), .int .u64 (wd X 3), .int .u64 (wd Y 0), .int .u64 (wd Y 1), .int .u64 (wd Y 2), .int .u64 (wd Y 3)] 26)) w5.heap.size 26 #[.int .u64 (wd X 0), .int .u64 (wd X 1), .int .u64 (wd X 2), .int .u64 (wd X 3), .int .u64 (wd Y 0), .int .u64 (wd Y 1), .int .u64 (wd Y 2), .int .u64 (wd Y 3)] := Blk.new _ _ _
            have gS6 := R.out.1.keep (hb5.alloc hb5.size (.cells #[.int .u64 (wd X 0), .int .u64 (wd X 1), .int .u64 (wd X 2), .int .u64 (wd X 3), .int .u64 (wd Y 0), .int .u64 (wd Y 1), .int .u64 (wd Y 2), .int .u64 (wd Y 3)] 26))
            have gx : ∀ b, (Value.slice na next.length nc).ownBlock = some b → b ≠ w5.heap.size := fun b hb => by
              have h1 := (R.out.1.own.lt b hb).2
              have h2 := hb5.size
              omega
            generalize (w5.alloc (.cells #[.int .u64 (wd X 0), .int .u64 (wd X 1), .int .u64 (wd X 2), .int .u64 (wd X 3), .int .u64 (wd Y 0), .int .u64 (wd Y 1), .int .u64 (wd Y 2), .int .u64 (wd Y 3)] 26)) = w6 at *
            have hxbo : wo.heap.size + 2 ≤ w5.heap.size := by have h1 := R.out.1.size; have h2 := hb5.size; omega
            generalize w5.heap.size = xb at *
            have G6 := Lib.hid (And.intro gB (And.intro gS6 gx))
            clear gB gS6 gx hb5
            rename_i hjunk
            clear hjunk
            go_wp2_with fail
            go_loopg [7, 35] 2 (fun m v7 v35 wt => ∃ (k : Nat) (nx : List Nat) (f' : Lit → Option Value), k ≤ 2 ∧ m = 2 - k ∧ v35 = .int .i64 k ∧ nx = ([X, Y].take k).foldl addF next ∧ SpW s wo wt nx (2 * j + k) f' v7 ∧
              Blk wt xb 26 #[.int .u64 (wd X 0), .int .u64 (wd X 1), .int .u64 (wd X 2), .int .u64 (wd X 3), .int .u64 (wd Y 0), .int .u64 (wd Y 1), .int .u64 (wd Y 2), .int .u64 (wd Y 3)] ∧ ∀ b, v7.ownBlock = some b → b ≠ xb)
            case atStart => exact ⟨0, next, f, by omega, rfl, rfl, rfl, G6.out.2.1, G6.out.1, G6.out.2.2⟩
            case round =>
              obtain ⟨k, nx, f', hk, hm, rfl, hnx, hS, hB, hne⟩ := hrel
              obtain ⟨ma, mc, rfl⟩ := own_shape hS.own
              by_cases hk2 : k < 2
              · obtain ⟨x, hx256, hfold, c0, c1, c2, c3⟩ : ∃ x, x < 2 ^ 256 ∧ ([X, Y].take (k + 1)).foldl addF next = addF nx x ∧ wr.cell? ⟨xb, k * 4, none⟩ = some (.int .u64 (wd x 0)) ∧ wr.cell? ⟨xb, k * 4 + 1, none⟩ = some (.int .u64 (wd x 1)) ∧
                    wr.cell? ⟨xb, k * 4 + 2, none⟩ = some (.int .u64 (wd x 2)) ∧ wr.cell? ⟨xb, k * 4 + 3, none⟩ = some (.int .u64 (wd x 3)) := by
                  rcases (show k = 0 ∨ k = 1 by omega) with rfl | rfl
                  · exact ⟨X, R.out.2.2.1, by rw [hnx]; rfl, hB.cell 0, hB.cell 1, hB.cell 2, hB.cell 3⟩
                  · exact ⟨Y, R.out.2.2.2, by rw [hnx]; rfl, hB.cell 4, hB.cell 5, hB.cell 6, hB.cell 7⟩
                obtain ⟨n, hn0, hnc, hval, hin⟩ := hS.met.val x hx256
                have hz := wd_zero_iff x hx256
                have hk0 : (0 : Int) ≤ (k : Int) := by omega
                have hk1 : (k : Int) < 2 := by omega
                have hlen := hS.len
                have T := Lib.hid (And.intro hm (And.intro hS (And.intro hB (And.intro hne (And.intro hnx (And.intro hfold (And.intro hin (And.intro hx256 hz))))))))
                clear hm hS hB hne hnx hfold hin hx256 hz
                obtain ⟨wt, rfl⟩ : ∃ wt : World, wt = wr := ⟨_, rfl⟩
                go_wp2_with fail
                have hbW : Below wt.heap.size wt (wt.alloc (.cells #[.int .u64 (wd x 0), .int .u64 (wd x 1), .int .u64 (wd x 2), .int .u64 (wd x 3)] 26)).drew := ((Below.refl _ wt).alloc (Nat.le_refl _) _).drew
                have hXW : Blk (wt.alloc (.cells #[.int .u64 (wd x 0), .int .u64 (wd x 1), .int .u64 (wd x 2), .int .u64 (wd x 3)] 26)).drew wt.heap.size 26 #[.int .u64 (wd x 0), .int .u64 (wd x 1), .int .u64 (wd x 2), .int .u64 (wd x 3)] := Blk.new _ _ _
                have hSW := T.out.2.1.keep hbW
                have hBW := T.out.2.2.1.below hbW T.out.2.2.1.lt
                have hxw : xb < wt.heap.size := T.out.2.2.1.lt
                obtain ⟨w7, hw7⟩ : ∃ w7, (wt.alloc (.cells #[.int .u64 (wd x 0), .int .u64 (wd x 1), .int .u64 (wd x 2), .int .u64 (wd x 3)] 26)) = w7 := ⟨_, rfl⟩
                rw [hw7] at hbW hXW hSW hBW ⊢
                clear hw7
                have htb : wo.heap.size + 2 ≤ wt.heap.size := T.out.2.1.size
                have htm : wt.heap.size ≠ wo.heap.size + 1 := by omega
                obtain ⟨tb, htbe⟩ : ∃ tb, wt.heap.size = tb := ⟨_, rfl⟩
                rw [htbe] at hXW htm hxw ⊢
                obtain ⟨v0, st, W1, he1, hcell, hst⟩ := hSW.map.entry setLaw Tryz.underlying169 (z := .int .i64 0) (fun u => Tryz.zeroValue3 u) (by unfold maxLen; omega) (keyOf_set x)
                have hl1 := hSW.map.entry_look setLaw Tryz.underlying169 (z := .int .i64 0) (fun u => Tryz.zeroValue3 u) (by unfold maxLen; omega) (keyOf_set x) he1
                have hl0 := hSW.map.lookup (Keyed.of_law setLaw) Tryz.underlying169 (Tryz.zeroValue3 w7.drew) (keyOf_set x)
                rw [hval] at hl0 hl1
                obtain ⟨W2, he2, hm2, hg2⟩ := hst (.int .i64 (n + 1))
                obtain ⟨x0, x1, x2, x3, _⟩ := hXW.facts4
                have y0 := (hcell ⟨tb, 0, none⟩ htm).trans x0
                have y1 := (hcell ⟨tb, 1, none⟩ htm).trans x1
                have y2 := (hcell ⟨tb, 2, none⟩ htm).trans x2
                have y3 := (hcell ⟨tb, 3, none⟩ htm).trans x3
                have hX2 := hXW.grown hg2 (by intro e; injection e with e; exact htm e)
                have hB2 := hBW.grown hg2 (by intro e; injection e with e; omega)
                obtain ⟨z0, z1, z2, z3, _⟩ := hX2.facts4
                have T2 := Lib.hid (And.intro hSW (And.intro hm2 (And.intro hg2 hB2)))
                clear hbW hXW hSW hBW hst hcell hm2 hg2 hX2 hB2 htbe
                apply via
                · intro KV
                  go_region
                  all_goals (try go_simp)
                  all_goals exact KV.out
                intros
                clear hl0 hl1 he1 he2 x0 x1 x2 x3 y0 y1 y2 y3
                by_cases hx0 : x = 0
                · have hd : decide (wd x 0 = 0 ∧ wd x 1 = 0 ∧ wd x 2 = 0 ∧ wd x 3 = 0) = true := decide_eq_true (T.out.2.2.2.2.2.2.2.2.2 hx0)
                  have HX := Lib.hid hx0
                  clear hx0
                  go_wp2_with fail
                  go_roundg (2 - (k + 1))
                  case measure => have := T.out.1; omega
                  case rel => exact ⟨k + 1, addF nx x, _, by omega, rfl, rfl, T.out.2.2.2.2.2.1.symm, T2.out.1.old T.out.2.2.2.2.2.2.2.1 hn0 hnc T.out.2.2.2.2.2.2.1 (.inl HX.out) T2.out.2.1 T2.out.2.2.1, T2.out.2.2.2, T.out.2.2.2.1⟩
                · have hd : decide (wd x 0 = 0 ∧ wd x 1 = 0 ∧ wd x 2 = 0 ∧ wd x 3 = 0) = false := by rw [decide_eq_false_iff_not]; exact fun h => hx0 (T.out.2.2.2.2.2.2.2.2.1 h)
                  have hput : putV f' (keyS x) (.int .i64 (n + 1)) (keyS x) = some (.int .i64 (n + 1)) := putV_same f' _ ((Keyed.of_law setLaw).key (keyOf_set x))
                  have hmap2 : MapV Tryz.prog 26 W2 (wo.heap.size + 1) (2 * j + k + 1) (putV f' (keyS x) (.int .i64 (n + 1))) := T2.out.2.1
                  have hlk := hmap2.lookup (Keyed.of_law setLaw) Tryz.underlying169 (Tryz.zeroValue3 W2) (keyOf_set x)
                  rw [hput] at hlk
                  have hlk : (Instr.lookup 169 (.map (some (wo.heap.size + 1))) (.agg #[.int .u64 (wd x 0), .int .u64 (wd x 1), .int .u64 (wd x 2), .int .u64 (wd x 3)]) false).run Tryz.prog W2 = .ok (.int .i64 (n + 1)) W2 := hlk
                  have HM2 := Lib.hid hmap2
                  clear hmap2 hput
                  have HX := Lib.hid hx0
                  clear hx0
                  by_cases hn : n = 0
                  · have hni : x ∉ nx := fun h => (T.out.2.2.2.2.2.2.1 HX.out).1 h hn
                    have hn1 : ((n + 1 : Int) == 1) = true := by simp; omega
                    obtain ⟨m1, m2, m3⟩ := T2.out.1.mid T2.out.2.1 T2.out.2.2.1
                    have hsz2 : wo.heap.size + 2 ≤ W2.heap.size := Nat.le_trans T2.out.1.size T2.out.2.2.1.size
                    have hxl : xb < W2.heap.size := T2.out.2.2.2.lt
                    have hadd : addF nx x = nx ++ [x] := by unfold addF; rw [if_neg (fun h => h.elim HX.out hni)]
                    have M := Lib.hid (And.intro m1 (And.intro m2 (And.intro m3 (And.intro hni (And.intro hn hadd)))))
                    clear m1 m2 m3 hni hn hadd
                    obtain ⟨i0, hi, hz0, hz1, hz2⟩ := info_parts infoSet
                    go_wp2_with (first
                      | (at_builtin; go_loud (refine wpList_append_ownF _ rfl _ _ 137 rfl (wo.heap.size + 2) 26 i0 (.agg #[.int .u64 0, .int .u64 0, .int .u64 0, .int .u64 0]) 4 32 Tryz.underlying137 hi hz0 hz1 hz2 rfl (by decide) _ nx.length _ rfl (M.out.1.alloc _) ⟨W2.heap.size, 0, none⟩ 1 1 (encSet x) rfl rfl ?c1 ?c2 ?c3 ?c4 ?c5 ?_)))
                    case c1 => exact setCells_blk W2 x
                    case c2 => exact encSet_one' x
                    case c3 => unfold maxLen; omega
                    case c4 => omega
                    case c5 => simp; omega
                    intro v' w8 hown8 hg8 hfr8
                    have hg28 : W2.grownBy w8 (Value.slice ma nx.length mc).ownBlock := World.grownBy.trans (World.grownBy_alloc _ _ _) hg8
                    have hm8 := HM2.out.grown hg28 (by intro e; have := M.out.1.lt _ e.symm; omega)
                    have hs8 := M.out.2.1.grown hg28 (by intro e; have := M.out.1.lt _ e.symm; omega)
                    have hb8 := T2.out.2.2.2.grown hg28 (by intro e; exact T.out.2.2.2.1 _ e.symm rfl)
                    have hbl8 : Below wo.heap.size W2 w8 := ⟨hg28.os, hg28.tape, hg28.output, hg28.size, fun q hq => hg28.block q (by omega) (by intro e; have := (M.out.1.lt _ e.symm).1; omega)⟩
                    have hne8 : ∀ b, v'.ownBlock = some b → b ≠ xb := fun b hb => by
                      rcases hfr8 b hb with h | h
                      · exact T.out.2.2.2.1 b h
                      · first | omega | (simp at h; omega)
                    have hsp : SpW s wo w8 (addF nx x) (2 * j + k + 1) (putV f' (keyS x) (.int .i64 (n + 1))) v' := by
                      refine ⟨?_, hm8, T2.out.1.met.step x T.out.2.2.2.2.2.2.2.1 hn0 hnc T.out.2.2.2.2.2.2.1, hs8, M.out.2.2.1.trans hbl8, Nat.le_trans hsz2 hg28.size, ?_⟩
                      · rw [M.out.2.2.2.2.2, ← flatK_snoc, List.length_append]; exact hown8
                      · rw [M.out.2.2.2.2.2, List.length_append]; simp; omega
                    have F8 := Lib.hid (And.intro hsp (And.intro hb8 hne8))
                    clear hown8 hg8 hfr8 hg28 hm8 hs8 hb8 hbl8 hne8 hsp
                    go_wp2_with fail
                    go_roundg (2 - (k + 1))
                    case measure => have := T.out.1; omega
                    case rel => exact ⟨k + 1, addF nx x, _, by omega, rfl, rfl, T.out.2.2.2.2.2.1.symm, F8.out.1, F8.out.2.1, F8.out.2.2⟩
                  · have hi : x ∈ nx := (T.out.2.2.2.2.2.2.1 HX.out).2 hn
                    have hn1 : ((n + 1 : Int) == 1) = false := by simp; omega
                    have HI := Lib.hid hi
                    clear hi
                    go_wp2_with fail
                    go_roundg (2 - (k + 1))
                    case measure => have := T.out.1; omega
                    case rel => exact ⟨k + 1, addF nx x, _, by omega, rfl, rfl, T.out.2.2.2.2.2.1.symm, T2.out.1.old T.out.2.2.2.2.2.2.2.1 hn0 hnc T.out.2.2.2.2.2.2.1 (.inr HI.out) T2.out.2.1 T2.out.2.2.1, T2.out.2.2.2, T.out.2.2.2.1⟩
              · obtain rfl : k = 2 := by omega
                have T := Lib.hid (And.intro hnx hS)
                clear hnx hS hB hne hm
                go_wp2_with fail
                go_roundg (N - (j + 1))
                case measure => have := Q.out.1; omega
                case rel =>
                  refine ⟨j + 1, nx, f', by omega, rfl, rfl, ?_, ?_⟩
                  · rw [Q.out.2.2.1, R.out.2.1, T.out.1]; rfl
                  · rw [show 2 * (j + 1) = 2 * j + 2 by omega]; exact T.out.2
        · obtain rfl : j = N := by omega
          have Q := Lib.hid (And.intro hnx hS)
          clear hnx hS hm
          go_wp2_with fail
          go_roundg (l.length - (i + 1))
          case measure => have := A.out.1; omega
          case rel =>
            refine ⟨i + 1, next, by omega, rfl, rfl, ?_, own_low Q.out.2.own (by have := A.out.2.2.1.size; omega), A.out.2.2.1.trans (Q.out.2.below.mono A.out.2.2.1.size)⟩
            rw [A.out.2.2.2.1, splitStep_eq, Q.out.1, ← HN.out, List.take_length]
    · obtain rfl : i = l.length := by omega
      rw [List.take_length] at hparts
      obtain ⟨pa, pc, rfl⟩ := own_shape hown
      have A := Lib.hid (And.intro hparts (And.intro hown (And.intro hb hPp)))
      clear hm hown hb hPp hparts
      obtain ⟨N, hN⟩ : ∃ N, parts.length = N := ⟨_, rfl⟩
      rw [hN] at hpl ⊢
      have HN := Lib.hid hN
      clear hN
      go_wp2_with fail
      have hcall := HK.out.2.2 parts _ _ A.out.2.2.2 A.out.2.1 A.out.2.2.1
      rw [HN.out] at hcall
      refine hcall.mono ?_
      rintro e w3 ⟨rfl, ho3, hg3⟩
      clear hcall
      have H3 := Lib.hid (And.intro ho3 hg3)
      clear ho3 hg3
      go_wp2_with fail
      go_ret
      have hsp : splitF l = parts.foldr insSet [] := by unfold splitF; rw [← A.out.1]
      have hspl : (parts.foldr insSet []).length = N := by rw [(sortSet_perm parts).length_eq, HN.out]
      refine ⟨_, rfl, ?_, ?_⟩
      · rw [hsp, hspl]; exact H3.out.1
      · exact A.out.2.2.1.trans ⟨H3.out.2.os, H3.out.2.tape, H3.out.2.output, H3.out.2.size, fun k hk => H3.out.2.block k (by have := A.out.2.2.1.size; omega) (by intro e; have := A.out.2.1.lt k (by rw [HN.out]; exact e.symm); omega)⟩
end Go.Proofs.YtknpkndiflodbaaGreatDoor.Tb
set_option linter.unusedVariables false
namespace Go.Proofs.YtknpkndiflodbaaGreatDoor.Tb
open Go Go.RowKit Go.Proofs Mx
theorem split_any (D : Nat → Prop) (l : List Nat) (hlt : ∀ s ∈ l, s < 2 ^ 256) (v : Value) (w : World) (hv : SliceK D encSet 4 w v l) (hT : Bru w) (h6 : LB ≤ w.heap.size) :
    Calls Tryz.prog 69 #[v] w fun e w' => ∃ v', e = .returned v' ∧ w'.ownsRow w.heap.size 26 4 v' (splitF l).length (flatK encSet (splitF l)) ∧ Below w.heap.size w w' :=
  split_core D l hlt v w hv (fun parts v W hp ho hb => sortSets_any parts hp w.heap.size v W ho (hT.below hb h6) h6)
theorem splitF_parts {l : List Nat} (h : ∀ s ∈ l, s < 2 ^ 256) : Parts (l.foldl splitStep [2 ^ 256 - 1]) := parts_all l _ h full_parts
theorem splitF_len {l : List Nat} (h : ∀ s ∈ l, s < 2 ^ 256) : (splitF l).length ≤ 256 := by
  unfold splitF
  rw [(sortSet_perm _).length_eq]
  exact parts_len (splitF_parts h)
theorem splitF_lt {l : List Nat} (h : ∀ s ∈ l, s < 2 ^ 256) : ∀ c ∈ splitF l, c < 2 ^ 256 ∧ c ≠ 0 := fun c hc => by
  have h1 := (sortSet_perm (l.foldl splitStep [2 ^ 256 - 1])).mem_iff.1 hc
  have h2 := (splitF_parts h).1 c h1
  exact ⟨h2.2, h2.1⟩
end Go.Proofs.YtknpkndiflodbaaGreatDoor.Tb
