/-
  TablesLong, walked.
-/
import Derived.Test.YtknpkndiflodbaaGreatDoorTbWorks
import Derived.Test.YtknpkndiflodbaaGreatDoorTbLong
set_option linter.unusedVariables false
set_option linter.unusedSimpArgs false
namespace Go.Proofs.YtknpkndiflodbaaGreatDoor.Tb
open Go Go.RowKit Go.Proofs Go.Maps Mx
def pL0 : Pr := prG [setS sAB, sortS 0]
def rL (i : Nat) : List Sy := setS sA :: List.replicate i (setS sAB)
def pL1 (i : Nat) : Pr := prG (rL i)
theorem long_eq (n : Nat) : longG n = ⟨[[83]], [pL0, pL1 n], 0, [], []⟩ := rfl
def cL0 : Array Value := (flatK encSy [setS sAB, sortS 0]).toArray
def sl (b n : Nat) : Value := .slice (some ⟨b, 0, none⟩) n n
def prL (ub : Nat) (u1 : Value) : Array Value := (encPr (sl ub 2, pL0) ++ encPr (u1, pL1 0)).toArray
/-- While the grammar is laid out. -/
def lgR (B : Nat) (j : Nat) (v : Value) (W : World) : Prop :=
  match j with
  | 0 => ∃ sb, v = sl sb 1 ∧ Blk W sb 9 #[.string ⟨#[83]⟩] ∧ B ≤ sb
  | 1 => v = symV (setS sAB)
  | 2 => v = symV (sortS 0)
  | 3 => ∃ ub, v = sl ub 2 ∧ Blk W ub 28 cL0 ∧ B ≤ ub
  | 4 => ∃ ub, v = prV (sl ub 2) pL0 ∧ Blk W ub 28 cL0 ∧ B ≤ ub
  | 5 => v = symV (setS sA)
  | 6 => ∃ rb, v = sl rb 1 ∧ Blk W rb 28 (flatK encSy [setS sA]).toArray ∧ B ≤ rb
  | 7 => ∃ rb, v = prV (sl rb 1) (pL1 0) ∧ Blk W rb 28 (flatK encSy [setS sA]).toArray ∧ B ≤ rb
  | 8 => ∃ pb ub rb, v = sl pb 2 ∧ Blk W pb 34 (prL ub (sl rb 1)) ∧ Blk W ub 28 cL0 ∧ Blk W rb 28 (flatK encSy [setS sA]).toArray ∧ B ≤ pb ∧ B ≤ ub ∧ B ≤ rb
  | 9 => ∃ sb pb ub rb, v = grV (sl sb 1) (sl pb 2) (.slice none 0 0) (.slice none 0 0) 0 ∧ Blk W sb 9 #[.string ⟨#[83]⟩] ∧ Blk W pb 34 (prL ub (sl rb 1)) ∧ Blk W ub 28 cL0 ∧ Blk W rb 28 (flatK encSy [setS sA]).toArray ∧ B ≤ sb ∧ B ≤ pb ∧ B ≤ ub ∧ B ≤ rb
  | 10 => ∃ gb, v = .pointer (some ⟨gb, 0, none⟩) ∧ Blk W gb 39 #[.slice none 0 0, .slice none 0 0, .int .i64 0, .slice none 0 0, .slice none 0 0] ∧ B ≤ gb
  | _ => True
theorem lgR_stab (B j : Nat) (v : Value) (w w' : World) (h : lgR B j v w) (hb : Below w.heap.size w w') : lgR B j v w' := by
  have bl : ∀ {g : Nat} {t : TypeId} {cs : Array Value}, Blk w g t cs → Blk w' g t cs := fun h => h.below hb h.lt
  unfold lgR at h ⊢
  split at h
  · obtain ⟨b, e, h1, h2⟩ := h; exact ⟨b, e, bl h1, h2⟩
  · exact h
  · exact h
  · obtain ⟨b, e, h1, h2⟩ := h; exact ⟨b, e, bl h1, h2⟩
  · obtain ⟨b, e, h1, h2⟩ := h; exact ⟨b, e, bl h1, h2⟩
  · exact h
  · obtain ⟨b, e, h1, h2⟩ := h; exact ⟨b, e, bl h1, h2⟩
  · obtain ⟨b, e, h1, h2⟩ := h; exact ⟨b, e, bl h1, h2⟩
  · obtain ⟨pb, ub, rb, e, h1, h2, h3, h4⟩ := h; exact ⟨pb, ub, rb, e, bl h1, bl h2, bl h3, h4⟩
  · obtain ⟨sb, pb, ub, rb, e, h0, h1, h2, h3, h4⟩ := h; exact ⟨sb, pb, ub, rb, e, bl h0, bl h1, bl h2, bl h3, h4⟩
  · obtain ⟨b, e, h1, h2⟩ := h; exact ⟨b, e, bl h1, h2⟩
  · trivial
/-- While symbols are put behind. -/
structure LongW (w0 : World) (B sb gb pb ub i : Nat) (u1 : Value) (W : World) : Prop where
  gr : Blk W gb 39 #[sl sb 1, sl pb 2, .int .i64 0, .slice none 0 0, .slice none 0 0]
  so : Blk W sb 9 #[.string ⟨#[83]⟩]
  pr : Blk W pb 34 (prL ub u1)
  u0 : Blk W ub 28 cL0
  row : W.ownsRow B 28 6 u1 (i + 1) (flatK encSy (rL i))
  ne : some ub ≠ u1.ownBlock
  bel : Below w0.heap.size w0 W
  lo : w0.heap.size ≤ B
  lp : w0.heap.size ≤ pb
/-- While one symbol is put behind. -/
def apR (gb pb : Nat) (u1 : Value) (i B B0 : Nat) (j : Nat) (v : Value) (W : World) : Prop :=
  match j with
  | 0 => v = .pointer (some ⟨gb, 1, none⟩)
  | 1 => v = .slice (some ⟨pb, 0, none⟩) 2 2
  | 2 => v = .pointer (some ⟨gb, 1, none⟩)
  | 3 => v = .slice (some ⟨pb, 0, none⟩) 2 2
  | 4 => v = .pointer (some ⟨pb, 7, none⟩)
  | 5 => v = .pointer (some ⟨pb, 8, none⟩)
  | 6 => v = u1
  | 7 => v = symV (setS sAB)
  | 8 => ∃ nb, v = .slice (some ⟨nb, 0, none⟩) 1 1 ∧ Blk W nb 28 (encSy (setS sAB)).toArray ∧ B0 ≤ nb
  | 9 => W.ownsRow B 28 6 v (i + 1 + 1) (flatK encSy (rL i) ++ encSy (setS sAB)) ∧ ∀ b, v.ownBlock = some b → u1.ownBlock = some b ∨ B0 ≤ b
  | _ => True
theorem apR_low {gb pb : Nat} {u1 : Value} {i B B0 : Nat} (j : Nat) (v : Value) {W W' : World} (h : apR gb pb u1 i B B0 j v W) (hb : Below W.heap.size W W') : apR gb pb u1 i B B0 j v W' := by
  unfold apR at h ⊢
  split at h <;> first | exact h | skip
  · obtain ⟨nb, e, h1, h2⟩ := h
    exact ⟨nb, e, h1.below hb h1.lt, h2⟩
  · exact ⟨row_below h.1 hb, h.2⟩
theorem apR_grown {gb pb : Nat} {u1 : Value} {i B B0 : Nat} (j : Nat) (v : Value) {W W' : World} (h : apR gb pb u1 i B B0 j v W) (hj : j ≠ 9) (hb : W.grownBy W' u1.ownBlock) (hlt : ∀ b, u1.ownBlock = some b → b < B0) :
    apR gb pb u1 i B B0 j v W' := by
  unfold apR at h ⊢
  split at h <;> first | exact h | exact absurd rfl hj | skip
  obtain ⟨nb, e, h1, h2⟩ := h
  exact ⟨nb, e, h1.grown hb (by intro e; have := hlt nb e.symm; omega), h2⟩
theorem grown_of_below {w w' : World} (h : Below w.heap.size w w') (row : Option Nat) : w.grownBy w' row := ⟨h.os, h.tape, h.output, h.size, fun b hb _ => h.block b hb⟩
theorem infoSym : (Tryz.prog.info? 28).map (fun i => (i.zero, i.size, i.bytes)) = some (some (.agg #[.int .i64 0, .int .u64 0, .int .u64 0, .int .u64 0, .int .u64 0, .int .i64 0]), 6, 48) := by kernel_rfl
theorem encSy_one (s : Sy) : ∀ u ∈ encSy s, u.oneCell' = true := by
  intro u hu; simp [encSy] at hu; rcases hu with rfl | rfl | rfl | rfl | rfl | rfl <;> rfl
theorem rL_succ (i : Nat) : rL (i + 1) = rL i ++ [setS sAB] := by simp [rL, List.replicate_succ']
theorem blk_ne {W : World} {a b : Nat} {t u : TypeId} {cs ds : Array Value} (h : Blk W a t cs) (k : Blk W b u ds) (hne : t ≠ u ∨ cs.size ≠ ds.size) : a ≠ b := by
  rintro rfl
  unfold Blk at h k
  rw [h] at k
  injection k with k
  injection k with k1 k2 _
  rcases hne with h1 | h1
  · exact h1 k2
  · exact h1 (by rw [k1])
theorem blk_own {W : World} {B b k : Nat} {t : TypeId} {cs : List Value} (h : Blk W b t cs.toArray) (hB : B ≤ b) (n z : Nat) (hc : cs.length = n * z) (hn : n ≤ maxLen) : W.ownsRow B t z (sl b n) n cs := by
  refine ⟨hc, .inr ⟨b, n, cs.toArray, rfl, hB, h, Nat.le_refl _, hn, by simp [hc], ?_⟩⟩
  rw [← hc]; simp
theorem set_AB : ofB [97, 98] = sAB := by decide +kernel
theorem set_A : ofB [97, 97] = sA := by decide +kernel
theorem long_good (n : Nat) (hn : n ≤ 16) : Good (longG n) ∧ GrOk (longG n) := by
  have hrole : ∀ p ∈ (longG n).prods, p.left = 0 ∧ p.role = 0 ∧ p.made = -1 ∧ p.cons = [] ∧ p.prefer = false ∧ p.avoid = false ∧ p.right.length ≤ 30 := by
    intro p hp
    rw [long_eq] at hp
    simp only [List.mem_cons, List.not_mem_nil, or_false] at hp
    rcases hp with rfl | rfl
    · exact ⟨rfl, rfl, rfl, rfl, rfl, rfl, by decide⟩
    · exact ⟨rfl, rfl, rfl, rfl, rfl, rfl, by simp [pL1, prG, rL]; omega⟩
  have hsym : ∀ p ∈ (longG n).prods, ∀ s ∈ p.right, (s.kind = 0 ∧ s.sort = 0 ∧ s.set ≠ 0 ∧ s.set < 2 ^ 256) ∨ (s.kind = 1 ∧ s.set = 0 ∧ 0 ≤ s.sort ∧ s.sort < (longG n).sorts.length) := by
    intro p hp s hs
    rw [long_eq] at hp
    simp only [List.mem_cons, List.not_mem_nil, or_false] at hp
    rcases hp with rfl | rfl
    · simp only [pL0, prG, List.mem_cons, List.not_mem_nil, or_false] at hs
      rcases hs with rfl | rfl
      · exact .inl ⟨rfl, rfl, by decide +kernel, by decide +kernel⟩
      · exact .inr ⟨rfl, rfl, by decide, by simp [longG, sortS]⟩
    · simp only [pL1, prG, rL, List.mem_cons, List.mem_replicate] at hs
      rcases hs with rfl | ⟨_, rfl⟩
      · exact .inl ⟨rfl, rfl, by decide +kernel, by decide +kernel⟩
      · exact .inl ⟨rfl, rfl, by decide +kernel, by decide +kernel⟩
  have hl : (longG n).sorts.length = 1 := rfl
  refine ⟨⟨by simp [longG], by rw [hl]; decide, ⟨by simp [longG], by rw [hl]; simp [longG]⟩, fun p hp => ?_, fun p hp => (hrole p hp).2.2.2.2.2.2, hsym⟩, ⟨⟨by simp [longG], fun s hs => ?_, by rw [hl]; decide, by rw [hl]; decide, ⟨by simp [longG], by rw [hl]; simp [longG]⟩⟩, by simp [longG], fun p hp => ?_⟩⟩
  · rw [(hrole p hp).1, hl]; decide
  · have : s = [83] := by simpa [longG] using hs
    subst this; decide
  · obtain ⟨r1, r2, r3, r4, r5, r6, r7⟩ := hrole p hp
    refine ⟨by rw [r1, hl]; decide, r7, by rw [r2]; decide, by rw [r3]; decide, by rw [r4]; decide, .inl r4, .inl r5, fun s hs => ?_⟩
    rcases hsym p hp s hs with h | ⟨h1, h2, h3, h4⟩
    · exact .inl h
    · exact .inr ⟨h1, h2, h3, h4, by rw [r2]; decide⟩
set_option maxRecDepth 100000 in
set_option maxHeartbeats 8000000 in
theorem long_law (n : Int) (w : World) (hbru : Bru w) (hLB : LB ≤ w.heap.size) :
    Calls Tryz.prog 3 #[.int .i64 n] w fun e w' => e = .returned (.bool true) ∧ Below w.heap.size w w' := by
  have hwk := works_any w hbru hLB
  have HE := Lib.hid (And.intro hbru hLB)
  clear hbru hLB
  go_enter Tryz.func3, Tryz.ntmps3
  by_cases hn1 : n < 1
  · go_wp2_with fail
    refine hwk.mono ?_
    rintro e w1 ⟨rfl, hb1⟩
    have H1 := Lib.hid hb1
    clear hb1
    go_wp2_with fail
    go_ret
    exact ⟨rfl, H1.out⟩
  by_cases hn2 : 16 < n
  · go_wp2_with fail
    refine hwk.mono ?_
    rintro e w1 ⟨rfl, hb1⟩
    have H1 := Lib.hid hb1
    clear hb1
    go_wp2_with fail
    go_ret
    exact ⟨rfl, H1.out⟩
  clear hwk
  obtain ⟨N, rfl⟩ : ∃ N : Nat, n = (N : Int) := ⟨n.toNat, by omega⟩
  have hN16 : N ≤ 16 := by omega
  have hN1 : 1 ≤ N := by omega
  go_wp2_with fail
  have hB0 : Blk (w.alloc (.cells #[.int .i64 1, .int .u64 0, .int .u64 0, .int .u64 0, .int .u64 0, .int .i64 0] 28)) w.heap.size 28 #[.int .i64 1, .int .u64 0, .int .u64 0, .int .u64 0, .int .u64 0, .int .i64 0] := Blk.new_ rfl _ _
  have hbl := (Below.refl w.heap.size w).alloc (Nat.le_refl _) (.cells #[.int .i64 1, .int .u64 0, .int .u64 0, .int .u64 0, .int .u64 0, .int .i64 0] 28)
  generalize (w.alloc (.cells #[.int .i64 1, .int .u64 0, .int .u64 0, .int .u64 0, .int .u64 0, .int .i64 0] 28)) = W1 at hB0 hbl ⊢
  have HB := Lib.hid (And.intro hB0 hbl)
  have HF := Lib.hid (show ∀ W, Below W1.heap.size W1.drew W → W.cell? ⟨w.heap.size, 0, none⟩ = some (.int .i64 1) ∧ W.cell? ⟨w.heap.size, 1, none⟩ = some (.int .u64 0) ∧ W.cell? ⟨w.heap.size, 2, none⟩ = some (.int .u64 0) ∧ W.cell? ⟨w.heap.size, 3, none⟩ = some (.int .u64 0) ∧ W.cell? ⟨w.heap.size, 4, none⟩ = some (.int .u64 0) ∧ W.cell? ⟨w.heap.size, 5, none⟩ = some (.int .i64 0) from fun W h => by
    have h1 := (hB0.drew).below h hB0.lt
    exact ⟨h1.cell 0, h1.cell 1, h1.cell 2, h1.cell 3, h1.cell 4, h1.cell 5⟩)
  have HZ := Lib.hid (show ∀ W, Below W1.heap.size W1.drew W → w.heap.size ≤ W.heap.size from fun W h => Nat.le_trans hbl.size h.size)
  have hset := set_any
  clear hB0 hbl
  refine wp_region_conc 11 (lgR w.heap.size) (fun A W => Below A.heap.size A W) (fun _ _ => True) (by kernel_rfl) (by kernel_rfl) (by kernel_rfl) (by kernel_rfl) (Below.refl _ _) trivial (fun h k => h.trans (k.mono h.size)) ?_ ?_
  · simp only [List.take_succ_cons, List.take_zero]
    refine ⟨?_, ?_, ?_, ?_, ?_, ?_, ?_, ?_, ?_, ?_, ?_, trivial⟩
    · intro L T W hG hJ hLs hLi hdeps hframe hvals K hK
      go_simp
      have hbn := (Below.refl W.heap.size W).alloc (Nat.le_refl _) (.cells #[.string ⟨#[83]⟩] 9)
      exact hK _ _ hbn (fun j u _ _ _ h => lgR_stab _ j u _ _ h hbn) trivial ⟨_, rfl, Blk.new W _ _, HZ.out W hG⟩
    · intro L T W hG hJ hLs hLi hdeps hframe hvals K hK
      go_simp
      refine (hset 97 98 (by decide) (by decide) _).mono ?_
      rintro e W2 ⟨rfl, hb2⟩
      exact hK _ _ hb2 (fun j u _ _ _ h => lgR_stab _ j u _ _ h hb2) trivial (by rw [set_AB]; rfl)
    · intro L T W hG hJ hLs hLi hdeps hframe hvals K hK
      have h1 := hframe 3 (by decide)
      simp at h1
      obtain ⟨f0, f1, f2, f3, f4, f5⟩ := HF.out W hG
      go_simp
      exact hK _ _ (Below.refl _ W) (fun j u _ _ _ h => h) trivial rfl
    · intro L T W hG hJ hLs hLi hdeps hframe hvals K hK
      have h1 := hvals ⟨1, .data⟩ (by simp) rfl 17 rfl
      have h2 := hvals ⟨2, .data⟩ (by simp) rfl 18 rfl
      simp only [lgR, symV, sortS, setS] at h1 h2
      simp at h1 h2
      go_simp
      have hbn := (Below.refl W.heap.size W).alloc (Nat.le_refl _) (.cells cL0 28)
      exact hK _ _ hbn (fun j u _ _ _ h => lgR_stab _ j u _ _ h hbn) trivial ⟨_, rfl, Blk.new W _ _, HZ.out W hG⟩
    · intro L T W hG hJ hLs hLi hdeps hframe hvals K hK
      obtain ⟨b1, h1, k1, k2⟩ := hvals ⟨3, .data⟩ (by simp) rfl 19 rfl
      unfold sl at h1
      simp at h1
      have HK := Lib.hid (And.intro k1 k2)
      clear k1 k2
      go_simp
      exact hK _ _ (Below.refl _ W) (fun j u _ _ _ h => h) trivial ⟨b1, rfl, HK.out.1, HK.out.2⟩
    · intro L T W hG hJ hLs hLi hdeps hframe hvals K hK
      go_simp
      refine (hset 97 97 (by decide) (by decide) _).mono ?_
      rintro e W2 ⟨rfl, hb2⟩
      exact hK _ _ hb2 (fun j u _ _ _ h => lgR_stab _ j u _ _ h hb2) trivial (by rw [set_A]; rfl)
    · intro L T W hG hJ hLs hLi hdeps hframe hvals K hK
      have h1 := hvals ⟨5, .data⟩ (by simp) rfl 21 rfl
      simp only [lgR, symV, setS] at h1
      simp at h1
      go_simp
      have hbn := (Below.refl W.heap.size W).alloc (Nat.le_refl _) (.cells (flatK encSy [setS sA]).toArray 28)
      exact hK _ _ hbn (fun j u _ _ _ h => lgR_stab _ j u _ _ h hbn) trivial ⟨_, rfl, Blk.new W _ _, HZ.out W hG⟩
    · intro L T W hG hJ hLs hLi hdeps hframe hvals K hK
      obtain ⟨b1, h1, k1, k2⟩ := hvals ⟨6, .data⟩ (by simp) rfl 22 rfl
      unfold sl at h1
      simp at h1
      have HK := Lib.hid (And.intro k1 k2)
      clear k1 k2
      go_simp
      exact hK _ _ (Below.refl _ W) (fun j u _ _ _ h => h) trivial ⟨b1, rfl, HK.out.1, HK.out.2⟩
    · intro L T W hG hJ hLs hLi hdeps hframe hvals K hK
      obtain ⟨ub, h1, k1, k2⟩ := hvals ⟨4, .data⟩ (by simp) rfl 20 rfl
      obtain ⟨rb, h2, k3, k4⟩ := hvals ⟨7, .data⟩ (by simp) rfl 23 rfl
      simp only [prV, encPr, pL0, pL1, prG, sl] at h1 h2
      simp at h1 h2
      have HK := Lib.hid (And.intro k1 (And.intro k2 (And.intro k3 k4)))
      clear k1 k2 k3 k4
      go_simp
      have hbn := (Below.refl W.heap.size W).alloc (Nat.le_refl _) (.cells (prL ub (sl rb 1)) 34)
      exact hK _ _ hbn (fun j u _ _ _ h => lgR_stab _ j u _ _ h hbn) trivial ⟨_, ub, rb, rfl, Blk.new W _ _, HK.out.1.alloc _, HK.out.2.2.1.alloc _, HZ.out W hG, HK.out.2.1, HK.out.2.2.2⟩
    · intro L T W hG hJ hLs hLi hdeps hframe hvals K hK
      obtain ⟨sb, h1, k1, k2⟩ := hvals ⟨0, .data⟩ (by simp) rfl 16 rfl
      obtain ⟨pb, ub, rb, h2, k3, k4, k5, k6, k7, k8⟩ := hvals ⟨8, .data⟩ (by simp) rfl 24 rfl
      unfold sl at h1 h2
      simp at h1 h2
      have HK := Lib.hid (And.intro k1 (And.intro k2 (And.intro k3 (And.intro k4 (And.intro k5 (And.intro k6 (And.intro k7 k8)))))))
      clear k1 k2 k3 k4 k5 k6 k7 k8
      go_simp
      exact hK _ _ (Below.refl _ W) (fun j u _ _ _ h => h) trivial ⟨sb, pb, ub, rb, rfl, HK.out.1, HK.out.2.2.1, HK.out.2.2.2.1, HK.out.2.2.2.2.1, HK.out.2.1, HK.out.2.2.2.2.2.1, HK.out.2.2.2.2.2.2.1, HK.out.2.2.2.2.2.2.2⟩
    · intro L T W hG hJ hLs hLi hdeps hframe hvals K hK
      go_simp
      have hbn := (Below.refl W.heap.size W).alloc (Nat.le_refl _) (.cells #[.slice none 0 0, .slice none 0 0, .int .i64 0, .slice none 0 0, .slice none 0 0] 39)
      exact hK _ _ hbn (fun j u _ _ _ h => lgR_stab _ j u _ _ h hbn) trivial ⟨_, rfl, Blk.new W _ _, HZ.out W hG⟩
  intro f W5 hG _ hR
  obtain ⟨sb, pb, ub, rb, e9, k1, k2, k3, k4, k5, k6, k7, k8⟩ := hR 9 25 (by decide) rfl
  obtain ⟨gb, e10, k9, k10⟩ := hR 10 4 (by decide) rfl
  simp only [concDsts, List.take_succ_cons, List.take_zero, List.drop_succ_cons, List.drop_zero, List.filterMap_cons, List.filterMap_nil, List.foldl_cons, List.foldl_nil, List.setIfInBounds_toArray, List.set_cons_zero, List.set_cons_succ]
  unfold grV sl at e9
  rw [e9, e10]
  clear e9 e10 hR
  generalize f 16 = v16
  generalize f 17 = v17
  generalize f 18 = v18
  generalize f 19 = v19
  generalize f 20 = v20
  generalize f 21 = v21
  generalize f 22 = v22
  generalize f 23 = v23
  generalize f 24 = v24
  clear f
  have hL0 : LongW w w.heap.size sb gb pb ub 0 (sl rb 1) (((((W5.setCell ⟨gb, 0, none⟩ (.slice (some ⟨sb, 0, none⟩) 1 1)).setCell ⟨gb, 1, none⟩ (.slice (some ⟨pb, 0, none⟩) 2 2)).setCell ⟨gb, 2, none⟩ (.int .i64 0)).setCell ⟨gb, 3, none⟩ (.slice none 0 0)).setCell ⟨gb, 4, none⟩ (.slice none 0 0)) := by
    have far : ∀ {g : Nat} {t : TypeId} {cs : Array Value}, Blk W5 g t cs → g ≠ gb → Blk (((((W5.setCell ⟨gb, 0, none⟩ (.slice (some ⟨sb, 0, none⟩) 1 1)).setCell ⟨gb, 1, none⟩ (.slice (some ⟨pb, 0, none⟩) 2 2)).setCell ⟨gb, 2, none⟩ (.int .i64 0)).setCell ⟨gb, 3, none⟩ (.slice none 0 0)).setCell ⟨gb, 4, none⟩ (.slice none 0 0)) g t cs := fun h hne =>
      ((((h.far (p := ⟨gb, 0, none⟩) hne _).far (p := ⟨gb, 1, none⟩) hne _).far (p := ⟨gb, 2, none⟩) hne _).far (p := ⟨gb, 3, none⟩) hne _).far (p := ⟨gb, 4, none⟩) hne _
    have hbW : Below w.heap.size w W5 := HB.out.2.trans ((show Below W1.heap.size W1 W1.drew from (Below.refl _ _).drew).trans hG |>.mono HB.out.2.size)
    refine ⟨((((k9.set_ 0 _).set_ 1 _).set_ 2 _).set_ 3 _).set_ 4 _, far k1 (blk_ne k1 k9 (.inl (by decide))), far k2 (blk_ne k2 k9 (.inl (by decide))), far k3 (blk_ne k3 k9 (.inl (by decide))), ?_, ?_, ?_, Nat.le_refl _, k6⟩
    · exact blk_own (k := 0) (far k4 (blk_ne k4 k9 (.inl (by decide)))) k8 1 6 rfl (by decide)
    · intro e
      injection e with e
      exact blk_ne k3 k4 (.inr (by decide)) e
    · refine ((((hbW.setCell ?_ _).setCell ?_ _).setCell ?_ _).setCell ?_ _).setCell ?_ _ <;> exact k10
  have HL0 := Lib.hid hL0
  have g0 := k9.cell 0
  have g1 := k9.cell 1
  have g2 := k9.cell 2
  have g3 := k9.cell 3
  have g4 := k9.cell 4
  have gf := k9.frozen
  simp at g0 g1 g2 g3 g4
  clear hL0 k1 k2 k3 k4 k5 k6 k7 k8 k9 k10 hG
  go_wp2_with fail
  generalize (((((W5.setCell ⟨gb, 0, none⟩ (.slice (some ⟨sb, 0, none⟩) 1 1)).setCell ⟨gb, 1, none⟩ (.slice (some ⟨pb, 0, none⟩) 2 2)).setCell ⟨gb, 2, none⟩ (.int .i64 0)).setCell ⟨gb, 3, none⟩ (.slice none 0 0)).setCell ⟨gb, 4, none⟩ (.slice none 0 0)) = W6 at HL0 ⊢
  clear g0 g1 g2 g3 g4 gf HB HF HZ
  go_loopg [5] N (fun m v5 wr => ∃ (i : Nat) (u1 : Value), i ≤ N ∧ m = N - i ∧ v5 = .int .i64 i ∧ LongW w w.heap.size sb gb pb ub i u1 wr)
  case atStart => exact ⟨0, _, Nat.zero_le _, rfl, rfl, HL0.out⟩
  case round =>
    obtain ⟨i, u1, hi, hm, rfl, hL⟩ := hrel
    have q0 := hL.gr.cell 0
    have q1 := hL.gr.cell 1
    have q2 := hL.gr.cell 2
    have q3 := hL.gr.cell 3
    have q4 := hL.gr.cell 4
    simp [sl] at q0 q1 q2 q3 q4
    have HL := Lib.hid (And.intro hm hL)
    by_cases hlt : i < N
    · clear hm hL
      go_wp2_with fail
      have hrow := HL.out.2.row
      obtain ⟨ga, gc, hus⟩ := own_shape hrow
      have HO := Lib.hid (show ∀ b, u1.ownBlock = some b → b < wr.heap.size from fun b hb => (hrow.lt b hb).2)
      have HC := Lib.hid (show ∀ W, wr.drew.grownBy W u1.ownBlock → W.cell? ⟨gb, 1, none⟩ = some (.slice (some ⟨pb, 0, none⟩) 2 2) ∧ W.cell? ⟨pb, 8, none⟩ = some u1 from fun W hG =>
        ⟨(HL.out.2.gr.drew.grown hG (fun e => blk_ne_row HL.out.2.gr hrow (by decide) e)).cell 1, (HL.out.2.pr.drew.grown hG (fun e => blk_ne_row HL.out.2.pr hrow (by decide) e)).cell 8⟩)
      have HZ := Lib.hid (show ∀ W, wr.drew.grownBy W u1.ownBlock → wr.heap.size ≤ W.heap.size from fun W hG => hG.size)
      clear hrow q0 q1 q2 q3 q4 HL0
      refine wp_region_conc 10 (apR gb pb u1 i w.heap.size wr.heap.size) (fun A W => A.grownBy W u1.ownBlock) (fun L W => L.getD 9 false = false → Below wr.drew.heap.size wr.drew W) (by kernel_rfl) (by kernel_rfl) (by kernel_rfl) (by kernel_rfl) (grown_refl _ _) (fun _ => Below.refl _ _) (fun h k => grown_trans_opt h k) ?_ ?_
      · simp only [List.take_succ_cons, List.take_zero]
        refine ⟨?_, ?_, ?_, ?_, ?_, ?_, ?_, ?_, ?_, ?_, trivial⟩
        · intro L T W hG hJ hLs hLi hdeps hframe hvals K hK
          have h1 := hframe 4 (by decide)
          simp at h1
          go_simp
          exact hK _ _ (grown_refl W _) (fun j u _ _ _ h => h) (flag_set (by decide) hJ) rfl
        · intro L T W hG hJ hLs hLi hdeps hframe hvals K hK
          have h1 := hvals ⟨0, .data⟩ (by simp) rfl 31 rfl
          simp only [apR] at h1
          simp at h1
          obtain ⟨c0, c1⟩ := HC.out W hG
          go_simp
          exact hK _ _ (grown_refl W _) (fun j u _ _ _ h => h) (flag_set (by decide) hJ) rfl
        · intro L T W hG hJ hLs hLi hdeps hframe hvals K hK
          have h1 := hframe 4 (by decide)
          simp at h1
          go_simp
          exact hK _ _ (grown_refl W _) (fun j u _ _ _ h => h) (flag_set (by decide) hJ) rfl
        · intro L T W hG hJ hLs hLi hdeps hframe hvals K hK
          have h1 := hvals ⟨2, .data⟩ (by simp) rfl 33 rfl
          simp only [apR] at h1
          simp at h1
          obtain ⟨c0, c1⟩ := HC.out W hG
          go_simp
          exact hK _ _ (grown_refl W _) (fun j u _ _ _ h => h) (flag_set (by decide) hJ) rfl
        · intro L T W hG hJ hLs hLi hdeps hframe hvals K hK
          have h1 := hvals ⟨3, .data⟩ (by simp) rfl 34 rfl
          simp only [apR] at h1
          simp at h1
          go_simp
          exact hK _ _ (grown_refl W _) (fun j u _ _ _ h => h) (flag_set (by decide) hJ) rfl
        · intro L T W hG hJ hLs hLi hdeps hframe hvals K hK
          have h1 := hvals ⟨4, .data⟩ (by simp) rfl 35 rfl
          simp only [apR] at h1
          simp at h1
          go_simp
          exact hK _ _ (grown_refl W _) (fun j u _ _ _ h => h) (flag_set (by decide) hJ) rfl
        · intro L T W hG hJ hLs hLi hdeps hframe hvals K hK
          have h1 := hvals ⟨5, .data⟩ (by simp) rfl 36 rfl
          simp only [apR] at h1
          simp at h1
          obtain ⟨c0, c1⟩ := HC.out W hG
          go_simp
          exact hK _ _ (grown_refl W _) (fun j u _ _ _ h => h) (flag_set (by decide) hJ) hus.symm
        · intro L T W hG hJ hLs hLi hdeps hframe hvals K hK
          go_simp
          refine (hset 97 98 (by decide) (by decide) _).mono ?_
          rintro e W2 ⟨rfl, hb2⟩
          exact hK _ _ (grown_of_below hb2 _) (fun j u _ _ _ h => apR_low j u h hb2) (fun e => (hJ (by rwa [getD_set_ne false (by decide)] at e)).trans (hb2.mono (hJ (by rwa [getD_set_ne false (by decide)] at e)).size)) (by rw [set_AB]; rfl)
        · intro L T W hG hJ hLs hLi hdeps hframe hvals K hK
          have h1 := hvals ⟨7, .data⟩ (by simp) rfl 38 rfl
          simp only [apR, symV, setS] at h1
          simp at h1
          go_simp
          have hbn := (Below.refl W.heap.size W).alloc (Nat.le_refl _) (.cells (encSy (setS sAB)).toArray 28)
          exact hK _ _ (grown_alloc (grown_refl W _) _) (fun j u _ _ _ h => apR_low j u h hbn) (fun e => (hJ (by rwa [getD_set_ne false (by decide)] at e)).trans (hbn.mono (hJ (by rwa [getD_set_ne false (by decide)] at e)).size)) ⟨_, rfl, Blk.new W _ _, HZ.out W hG⟩
        · intro L T W hG hJ hLs hLi hdeps hframe hvals K hK
          have h1 := hvals ⟨6, .data⟩ (by simp) rfl 37 rfl
          obtain ⟨nb, h2, k1, k2⟩ := hvals ⟨8, .data⟩ (by simp) rfl 39 rfl
          have hJ' := hJ (by rw [← getD_flip (by rw [hLs]; decide)]; exact hLi)
          have hown := row_below (show wr.drew.ownsRow w.heap.size 28 6 u1 (i + 1) (flatK encSy (rL i)) from HL.out.2.row) hJ'
          obtain ⟨i0, hi, hz0, hz1, hz2⟩ := info_parts infoSym
          refine wp_append_ownF W _ _ 31 rfl w.heap.size 28 i0 (.agg #[.int .i64 0, .int .u64 0, .int .u64 0, .int .u64 0, .int .u64 0, .int .i64 0]) 6 48 Tryz.underlying31 hi hz0 hz1 hz2 rfl (by decide) _ _ _ h1 hown ⟨nb, 0, none⟩ 1 1 (encSy (setS sAB)) h2 rfl ?_ ?_ ?_ ?_ ?_ ?_
          · intro j u hj
            rw [addr_add, Nat.zero_add, k1.cell j]
            simpa using hj
          · exact encSy_one _
          · unfold maxLen; omega
          · omega
          · have := HZ.out W hG; have := HL.out.2.bel.size; omega
          intro v' W' hown' hg' hfr
          refine hK _ _ hg' (fun j u _ hj _ h => apR_grown j u h hj hg' HO.out) (fun e => ?_) ⟨hown', fun b hb => (hfr b hb).imp id (fun h => Nat.le_trans (HZ.out W hG) h)⟩
          rw [getD_set_self (by rw [hLs]; decide)] at e
          cases e
      intro f W7 hG _ hR
      have hr9 := hR 9 40 (by decide) rfl
      have hr1 := hR 1 32 (by decide) rfl
      simp only [concDsts, List.take_succ_cons, List.take_zero, List.drop_succ_cons, List.drop_zero, List.filterMap_cons, List.filterMap_nil, List.foldl_cons, List.foldl_nil, List.setIfInBounds_toArray, List.set_cons_zero, List.set_cons_succ]
      simp only [apR] at hr9 hr1
      rw [hr1]
      clear hR hr1
      obtain ⟨xa, xc, hx⟩ := own_shape hr9.1
      rw [hx] at hr9 ⊢
      clear hx
      generalize f 31 = v31
      generalize f 33 = v33
      generalize f 34 = v34
      generalize f 35 = v35
      generalize f 36 = v36
      generalize f 37 = v37
      generalize f 38 = v38
      generalize f 39 = v39
      clear f
      have hg7 : wr.grownBy W7 u1.ownBlock := ⟨hG.os, hG.tape, hG.output, hG.size, hG.block⟩
      have hgr7 := HL.out.2.gr.grown hg7 (fun e => blk_ne_row HL.out.2.gr HL.out.2.row (by decide) e)
      have hso7 := HL.out.2.so.grown hg7 (fun e => blk_ne_row HL.out.2.so HL.out.2.row (by decide) e)
      have hpr7 := HL.out.2.pr.grown hg7 (fun e => blk_ne_row HL.out.2.pr HL.out.2.row (by decide) e)
      have hu7 := HL.out.2.u0.grown hg7 HL.out.2.ne
      have hpc := hpr7.cell 8
      have hpf := hpr7.frozen
      rw [show (prL ub u1)[8]? = some u1 from rfl, hus] at hpc
      have hbel7 : Below w.heap.size w W7 := HL.out.2.bel.trans ⟨hg7.os, hg7.tape, hg7.output, hg7.size, fun k hk => hg7.block k (Nat.lt_of_lt_of_le hk HL.out.2.bel.size) (fun e => by have := (own_ty HL.out.2.row k e.symm).1; omega)⟩
      have hL7 : LongW w w.heap.size sb gb pb ub (i + 1) (.slice xa (i + 1 + 1) xc) (W7.setCell ⟨pb, 8, none⟩ (.slice xa (i + 1 + 1) xc)) := by
        refine ⟨hgr7.far (p := ⟨pb, 8, none⟩) (blk_ne hgr7 hpr7 (.inl (by decide))) _, hso7.far (p := ⟨pb, 8, none⟩) (blk_ne hso7 hpr7 (.inl (by decide))) _, hpr7.set_ 8 _, hu7.far (p := ⟨pb, 8, none⟩) (blk_ne hu7 hpr7 (.inl (by decide))) _, ?_, ?_, hbel7.setCell HL.out.2.lp _, HL.out.2.lo, HL.out.2.lp⟩
        · rw [rL_succ, flatK_append]
          have h1 := hr9.1
          rw [show flatK encSy [setS sAB] = encSy (setS sAB) by simp [flatK]]
          exact h1.kept (grown_set (grown_refl W7 (some pb)) (p := ⟨pb, 8, none⟩) rfl _) (by
            cases hb : (Value.slice xa (i + 1 + 1) xc).ownBlock with
            | none => exact .inl rfl
            | some b => exact .inr (fun e => by
                injection e with e
                subst e
                exact blk_ne_row hpr7 h1 (by decide) hb.symm))
        · intro e
          rcases hr9.2 ub e.symm with h1 | h1
          · exact HL.out.2.ne h1.symm
          · have := HL.out.2.u0.lt; omega
      have HL7 := Lib.hid hL7
      clear hr9 hg7 hgr7 hso7 hpr7 hu7 hbel7 hL7 hG HO HC HZ hus
      go_wp2_with fail
      go_roundg (N - (i + 1))
      case measure => have := HL.out.1; omega
      case rel => exact ⟨i + 1, _, by omega, rfl, rfl, HL7.out⟩
    · obtain rfl : i = N := by omega
      have hb := hL.bel
      have hsS : SliceK (fun _ => True) Tb.encS 1 wr (.slice (some ⟨sb, 0, none⟩) 1 1) (longG i).sorts := by
        refine ⟨_, 1, rfl, Nat.le_refl _, by decide, fun _ => ⟨_, _, rfl, trivial, hL.so.lt, ?_⟩⟩
        intro k x hx j u hu
        match k, hx with
        | 0, hx =>
          obtain rfl : [83] = x := by simpa [longG] using hx
          match j, hu with
          | 0, hu => obtain rfl : Value.string ⟨#[83]⟩ = u := by simpa [Tb.encS] using hu
                     exact hL.so.cell 0
      have hpS : ProdsAt (fun _ => True) wr (.slice (some ⟨pb, 0, none⟩) 2 2) (longG i).prods := by
        refine ⟨[(sl ub 2, pL0), (u1, pL1 i)], ⟨⟨_, 2, rfl, Nat.le_refl _, by decide, fun _ => ⟨_, _, rfl, trivial, hL.pr.lt, ?_⟩⟩, ?_⟩, rfl⟩
        · intro k x hx j u hu
          have h1 : (flatK encPr [(sl ub 2, pL0), (u1, pL1 i)])[k * 7 + j]? = some u := flatK_get encPr_len _ k x j u hx hu
          rw [Nat.zero_add, hL.pr.cell]
          have h2 : flatK encPr [(sl ub 2, pL0), (u1, pL1 i)] = (prL ub u1).toList := rfl
          rw [h2] at h1
          simpa using h1
        · intro x hx
          simp only [List.mem_cons, List.not_mem_nil, or_false] at hx
          rcases hx with rfl | rfl
          · refine ⟨_, 2, rfl, Nat.le_refl _, by decide, fun _ => ⟨_, _, rfl, trivial, hL.u0.lt, ?_⟩⟩
            intro k x hx j u hu
            have h1 := flatK_get encSy_len [setS sAB, sortS 0] k x j u hx hu
            rw [Nat.zero_add, hL.u0.cell]
            unfold cL0
            simpa using h1
          · have hlen : (rL i).length = i + 1 := by simp [rL]
            exact (own_sliceK encSy_len (show wr.ownsRow w.heap.size 28 6 u1 (rL i).length (flatK encSy (rL i)) by rw [hlen]; exact hL.row)).imp (fun _ _ _ => trivial)
      obtain ⟨hgd, hok⟩ := long_good i hN16
      have hmk := make_any _ (longG i) hgd wr _ _ none none 0 0 0 0 hsS hpS (fun W hW => check_none _ (longG i) hok W _ _ none none 0 0 (hsS.all hW) (hpS.keep fun g hg hl => ⟨hg, hW.block g hl⟩)) (HE.out.1.below hb HE.out.2) (Nat.le_trans HE.out.2 hb.size)
      have HB := Lib.hid hb
      clear hm hL HL0 hsS hpS hgd hok hb
      go_wp2_with fail
      refine hmk.mono ?_
      clear hmk q0 q1 q2 q3 q4 HL
      rintro e w8 hcase
      by_cases hbig : 12 < i
      · obtain ⟨rfl, hb8⟩ : e = .returned (.tuple #[.pointer none, .int .i64 3]) ∧ Below wr.heap.size wr w8 := by
          rcases hcase with ⟨tb, B, sm, h1, _⟩ | ⟨_, h2, h3⟩
          · rw [long_none i (by omega)] at h1; cases h1
          · exact ⟨h2, h3⟩
        have H8 := Lib.hid (HB.out.trans (hb8.mono HB.out.size))
        have hwk := works_any w8 (HE.out.1.below H8.out HE.out.2) (Nat.le_trans HE.out.2 H8.out.size)
        have hbg : (12 : Int) < (i : Int) := by omega
        clear hcase hb8 HB
        go_wp2_with fail
        refine (num_any 3 w8).mono ?_
        rintro e w9 ⟨rfl, rfl⟩
        go_wp2_with fail
        refine hwk.mono ?_
        rintro e w10 ⟨rfl, hb10⟩
        have H10 := Lib.hid (H8.out.trans (hb10.mono H8.out.size))
        clear hwk hb10
        go_wp2_with fail
        go_ret
        exact ⟨rfl, H10.out⟩
      · obtain ⟨tb, B, sm, hlen, rfl, hT, hb8⟩ : ∃ tb B sm, sm.length = 2 ^ (i + 1) + 2 ∧ e = .returned (.tuple #[.pointer (some ⟨tb, 0, none⟩), .int .i64 0]) ∧ TabW (longG i) B tb sm w8 ∧ Below wr.heap.size wr w8 := by
          obtain ⟨l, hl1, hl2⟩ := long_some i (by omega)
          rcases hcase with ⟨tb, B, sm, h1, h2, h3, _, h4⟩ | ⟨h1, _⟩
          · rw [hl1] at h1
            injection h1 with h1
            exact ⟨tb, B, sm, by rw [← hl2, h1, List.length_map], h2, h3, h4⟩
          · rw [hl1] at h1; cases h1
        have H8 := Lib.hid (HB.out.trans (hb8.mono HB.out.size))
        have hwk := works_any w8 (HE.out.1.below H8.out HE.out.2) (Nat.le_trans HE.out.2 H8.out.size)
        have hbg : ¬ (12 : Int) < (i : Int) := by omega
        clear hcase HB
        go_wp2_with fail
        have hst := states_any (longG i) B (.pointer (some ⟨tb, 0, none⟩)) sm w8.drew ((show TabP (longG i) B (.pointer (some ⟨tb, 0, none⟩)) sm w8 from .inr ⟨tb, rfl, hT⟩).below (show Below w8.heap.size w8 w8.drew from (Below.refl _ _).drew))
        rw [hlen] at hst
        have hP2 : 2 ^ (i + 1) ≤ 8192 := Nat.pow_le_pow_right (show 0 < 2 by decide) (show i + 1 ≤ 13 by omega)
        obtain ⟨P, hP⟩ : ∃ P : Nat, 2 ^ (i + 1) = P := ⟨_, rfl⟩
        rw [hP] at hst hP2
        have hpw : (2 : Int) ^ (i + 1) = (P : Int) := by rw [← hP]; simp
        have hw4 : wrap64 ((2 : Int) ^ (i + 1)) = (P : Int) := by rw [hpw]; exact IntWalk.wrap64_in _ ⟨by omega, by omega⟩
        have hw5 : wrap64 ((P : Int) + 2) = (P : Int) + 2 := IntWalk.wrap64_in _ ⟨by omega, by omega⟩
        have hw6 : IntKind.i64.wrap ((2 : Int) ^ (i + 1)) = (P : Int) := by rw [hpw]; exact IntWalk.i64_in _ (by omega)
        have hw7 : ((i : Int) + 1).toNat = i + 1 := by omega
        clear hpw
        have hw1 : IntKind.i64.wrap ((i : Int) + 1) = (i : Int) + 1 := IntWalk.i64_in _ (by omega)
        have hw2 : IntKind.i64.wrap ((P : Int) + 2) = (P : Int) + 2 := IntWalk.i64_in _ (by omega)
        have hw3 : IntKind.i64.wrap (((P + 2 : Nat) : Int)) = ((P + 2 : Nat) : Int) := IntWalk.i64_in _ (by omega)
        clear hT hlen hb8 hP
        go_still_tail 13, (by kernel_rfl)
        still_call (num_any 0 _)
        repeat still_step
        still_call (hst)
        repeat still_step
        try refine wpStill_nil ?_
        change wpList _ _ _ _ _ w8.drew
        have hwk9 := works_any w8.drew ((HE.out.1.below H8.out HE.out.2).below (show Below w8.heap.size w8 w8.drew from (Below.refl _ _).drew) (Nat.le_trans HE.out.2 H8.out.size)) (Nat.le_trans HE.out.2 H8.out.size)
        have H9 := Lib.hid (show Below w.heap.size w w8.drew from H8.out.drew)
        clear hwk H8 hw1 hw2 hw3 hw4 hw5 hw6 hw7 hP2
        generalize w8.drew = w9 at hwk9 H9 ⊢
        go_wp2_with fail
        refine hwk9.mono ?_
        rintro e w10 ⟨rfl, hb10⟩
        have H10 := Lib.hid (H9.out.trans (hb10.mono H9.out.size))
        clear hwk9 hb10
        go_wp2_with fail
        go_ret
        exact ⟨rfl, H10.out⟩
end Go.Proofs.YtknpkndiflodbaaGreatDoor.Tb
