/- Walks and plain laws that the last text stands on: GlLong. -/
import Derived.Test.YthiochcpmfkgcaaGreatDoorLo21
import Derived.Test.YthiochcpmfkgcaaGreatDoorLo22
import Derived.Laws.IdiomStrings
set_option linter.unusedVariables false
set_option linter.unusedSimpArgs false
set_option maxRecDepth 100000
set_option maxHeartbeats 16000000
namespace Go.Proofs.YthiochcpmfkgcaaGreatDoor.Gl
open Go Go.RowKit Go.Proofs Go.Maps Go.WideMaps Mx Tb
theorem lo_prods : loG.prods = [kP [], kP [kS, kA]] := rfl
theorem slice_nil {α : Type} {enc : α -> List Value} {k : Nat} {D D' : Nat -> Prop} {w : World} {v : Value} (h : SliceK D enc k w v []) : SliceK D' enc k w v [] := by
 obtain ⟨a, c, rfl, h1, h2, h3⟩ := h
 exact ⟨a, c, rfl, h1, h2, fun hne => absurd rfl hne⟩
theorem slice_none {α : Type} {enc : α -> List Value} {k : Nat} {D : Nat -> Prop} {w : World} : SliceK D enc k w (.slice none 0 0) [] :=
 ⟨none, 0, rfl, Nat.le_refl _, by decide, fun hne => absurd rfl hne⟩
def loR (B : Nat) (i : Nat) (v : Value) (W : World) : Prop :=
 match i with
 | 0 => SliceK (fun b => B <= b) Tb.encS 1 W v [[83]]
 | 1 => v = knP (.slice none 0 0) (kP [])
 | 2 => v = knV kS
 | 3 => v = setV (2 ^ 97)
 | 4 => v = knV kA
 | 5 => SliceK (fun b => B <= b) encSy 6 W v [kS, kA]
 | 6 => ∃ u, v = knP u (kP [kS, kA]) /\ SliceK (fun b => B <= b) encSy 6 W u [kS, kA]
 | 7 => ProdsAt (fun b => B <= b) W v loG.prods
 | 8 => ∃ sv pv, v = .agg #[sv, pv, .int .i64 0, .slice none 0 0, .slice none 0 0] /\ SliceK (fun b => B <= b) Tb.encS 1 W sv loG.sorts /\ ProdsAt (fun b => B <= b) W pv loG.prods
 | 9 => ∃ q, v = .pointer (some ⟨q, 0, none⟩) /\ Blk W q 27 #[.slice none 0 0, .slice none 0 0, .int .i64 0, .slice none 0 0, .slice none 0 0] /\ B <= q
 | _ => True
theorem loR_low (B i : Nat) (v : Value) (w w' : World) (h : loR B i v w) (hb : Below w.heap.size w w') : loR B i v w' := by
 unfold loR at h ⊢
 split at h
 ·exact low_slice h hb
 ·exact h
 ·exact h
 ·exact h
 ·exact h
 ·exact low_slice h hb
 ·obtain ⟨u, e, h⟩ := h; exact ⟨u, e, low_slice h hb⟩
 ·exact low_prods h hb
 ·obtain ⟨sv, pv, e, h1, h2⟩ := h; exact ⟨sv, pv, e, low_slice h1 hb, low_prods h2 hb⟩
 ·obtain ⟨q, e, h1, h2⟩ := h; exact ⟨q, e, h1.below hb h1.lt, h2⟩
 ·trivial
def loZ (x1 m : Nat) (wa : Option Addr) (wc : Nat) (M1 : Nat) (j : Nat) (v : Value) (W : World) : Prop :=
 match j with
 | 0 => v = .int .i64 0
 | 1 => v = .bool true
 | 2 => v = .bool true
 | 3 => v = .pointer (some ⟨x1, 0, none⟩)
 | 4 => v = .slice wa (m + 1) wc
 | 5 => v = .int .i64 ((m : Int) + 1)
 | 6 => v = .int .i64 (m : Int)
 | 7 => v = .int .i64 ((m : Int) + 1)
 | 8 => v = .bool true
 | 9 => v = .bool true
 | 10 => v = .bool true
 | 11 => v = .pointer (some ⟨x1, 2, none⟩)
 | 12 => v = .int .i64 (m : Int)
 | 13 => v = .int .i64 (m : Int)
 | 14 => v = .bool true
 | 15 => v = .bool true
 | 16 => v = .bool true
 | 17 => v = .int .i64 0
 | 18 => v = .bool true
 | 19 => v = .bool true
 | 20 => v = .bool true
 | 21 => v = .bool true
 | 22 => v = .bool true
 | 23 => v = .bool true
 | 24 => v = .agg #[.int .u64 (wd M1 0), .int .u64 (wd M1 1), .int .u64 (wd M1 2), .int .u64 (wd M1 3)]
 | 25 => v = .agg #[.int .u64 (wd M1 0), .int .u64 (wd M1 1), .int .u64 (wd M1 2), .int .u64 (wd M1 3)]
 | 26 => v = .bool true
 | 27 => v = .bool true
 | 28 => v = .bool true
 | 29 => v = .pointer (some ⟨x1, 3, none⟩)
 | 30 => v = .agg #[.int .u64 (wd M1 0), .int .u64 (wd M1 1), .int .u64 (wd M1 2), .int .u64 (wd M1 3)]
 | 31 => v = .agg #[.int .u64 (wd M1 0), .int .u64 (wd M1 1), .int .u64 (wd M1 2), .int .u64 (wd M1 3)]
 | 32 => v = .bool true
 | 33 => v = .bool true
 | 34 => v = .bool true
 | 35 => v = .bool true
 | 36 => v = .bool true
 | _ => True
attribute [local go_sem] eqSet
theorem long_any (n : Int) (w : World) (he : EnvG w) :
  Calls Tryz.prog 5 #[.int .i64 n] w fun e w' => e = .returned (.bool true) /\ Below w.heap.size w w' := by
 have HE := Hd he
 clear he
 go_enter Tryz.func5, Tryz.ntmps5
 by_cases c0 : n < 0
 ·go_wp2_with fail
  refine (known_any w HE.out).mono ?_
  rintro e w1 ⟨rfl, hb1⟩
  have HB := Hd hb1
  clear hb1
  go_wp2_with fail
  go_ret
  exact ⟨rfl, HB.out⟩
 by_cases c1 : 5000 < n
 ·go_wp2_with fail
  refine (known_any w HE.out).mono ?_
  rintro e w1 ⟨rfl, hb1⟩
  have HB := Hd hb1
  clear hb1
  go_wp2_with fail
  go_ret
  exact ⟨rfl, HB.out⟩
 obtain ⟨m, rfl⟩ : ∃ m : Nat, n = m := ⟨n.toNat, by omega⟩
 have hm : m <= 5000 := by omega
 go_upto_region 4 with fail
 have hB1 : Blk (w.alloc (.cells #[.int .i64 1, .int .u64 0, .int .u64 0, .int .u64 0, .int .u64 0, .int .i64 0] 49)) w.heap.size 49 #[.int .i64 1, .int .u64 0, .int .u64 0, .int .u64 0, .int .u64 0, .int .i64 0] := Blk.new_ rfl _ _
 have hbl : Below w.heap.size w (w.alloc (.cells #[.int .i64 1, .int .u64 0, .int .u64 0, .int .u64 0, .int .u64 0, .int .i64 0] 49)) := (Below.refl _ _).alloc (Nat.le_refl _) _
 generalize (w.alloc (.cells #[.int .i64 1, .int .u64 0, .int .u64 0, .int .u64 0, .int .u64 0, .int .i64 0] 49)) = W1 at hB1 hbl ⊢
 have HF := Hd (show ∀ W, Below W1.drew.heap.size W1.drew W -> W.cell? ⟨w.heap.size, 0, none⟩ = some (.int .i64 1) /\ W.cell? ⟨w.heap.size, 1, none⟩ = some (.int .u64 0) /\ W.cell? ⟨w.heap.size, 2, none⟩ = some (.int .u64 0) /\ W.cell? ⟨w.heap.size, 3, none⟩ = some (.int .u64 0) /\ W.cell? ⟨w.heap.size, 4, none⟩ = some (.int .u64 0) /\ W.cell? ⟨w.heap.size, 5, none⟩ = some (.int .i64 0) from fun W h => by
  have h1 := (hB1.drew).below h hB1.lt
  exact ⟨h1.cell 0, h1.cell 1, h1.cell 2, h1.cell 3, h1.cell 4, h1.cell 5⟩)
 have HZ := Hd (show ∀ W, Below W1.drew.heap.size W1.drew W -> w.heap.size + 1 <= W.heap.size from fun W h => Nat.le_trans hB1.lt h.size)
 have HB := Hd (An hB1 hbl)
 clear hB1 hbl
 refine wp_region_conc 10 (loR (w.heap.size + 1)) (fun A W => Below A.heap.size A W) (fun _ _ => True) (by kernel_rfl) (by kernel_rfl) (by kernel_rfl) (by kernel_rfl) (Below.refl _ _) trivial (fun h k => h.trans (k.mono h.size)) ?_ ?_
 ·simp only [List.take_succ_cons, List.take_zero]
  refine ⟨?_, ?_, ?_, ?_, ?_, ?_, ?_, ?_, ?_, ?_, trivial⟩
  ·intro L T W hG hJ hLs hLi dq fq vq K hK
   go_simp
   exact hK _ _ ((Below.refl _ W).alloc (Nat.le_refl _) _) (fun j u _ _ _ h => loR_low _ j u _ _ h ((Below.refl _ W).alloc (Nat.le_refl _) _)) trivial (sliceK_built Tb.encS_len W 9 [[83]] 1 rfl (by decide) (HZ.out W hG))
  ·intro L T W hG hJ hLs hLi dq fq vq K hK
   go_simp
   exact hK _ _ (Below.refl _ W) (fun j u _ _ _ h => h) trivial rfl
  ·intro L T W hG hJ hLs hLi dq fq vq K hK
   have h1 := fq 3 (by decide)
   simp at h1
   obtain ⟨f0, f1, f2, f3, f4, f5⟩ := HF.out W hG
   go_simp
   exact hK _ _ (Below.refl _ W) (fun j u _ _ _ h => h) trivial rfl
  ·intro L T W hG hJ hLs hLi dq fq vq K hK
   have hcl := letter_any W
   go_simp
   refine hcl.mono ?_
   rintro e W2 ⟨rfl, hb2⟩
   exact hK _ _ hb2 (fun j u _ _ _ h => loR_low _ j u _ _ h hb2) trivial rfl
  ·intro L T W hG hJ hLs hLi dq fq vq K hK
   have h1 := vq ⟨3, .data⟩ (by simp) rfl 23 rfl
   simp only [loR, setV] at h1
   simp at h1
   go_simp
   exact hK _ _ (Below.refl _ W) (fun j u _ _ _ h => h) trivial rfl
  ·intro L T W hG hJ hLs hLi dq fq vq K hK
   have h1 := vq ⟨2, .data⟩ (by simp) rfl 22 rfl
   have h2 := vq ⟨4, .data⟩ (by simp) rfl 24 rfl
   simp only [loR, knV, kS, kA] at h1 h2
   simp at h1 h2
   go_simp
   exact hK _ _ ((Below.refl _ W).alloc (Nat.le_refl _) _) (fun j u _ _ _ h => loR_low _ j u _ _ h ((Below.refl _ W).alloc (Nat.le_refl _) _)) trivial (sliceK_built encSy_len W 49 [kS, kA] 2 rfl (by decide) (HZ.out W hG))
  ·intro L T W hG hJ hLs hLi dq fq vq K hK
   have h1 := vq ⟨5, .data⟩ (by simp) rfl 25 rfl
   have H1 := Hd h1
   obtain ⟨ua, uc, e1, _⟩ := h1
   simp at e1
   go_simp
   refine hK _ _ (Below.refl _ W) (fun j u _ _ _ h => h) trivial ⟨_, rfl, ?_⟩
   have := H1.out
   simp only [loR] at this
   rw [<- e1]
   simpa using this
  ·intro L T W hG hJ hLs hLi dq fq vq K hK
   have h0 := vq ⟨1, .data⟩ (by simp) rfl 21 rfl
   obtain ⟨u1, h1, k1⟩ := vq ⟨6, .data⟩ (by simp) rfl 26 rfl
   have HK := Hd k1
   clear k1
   simp only [loR, knP, encPr, kP] at h0
   simp only [knP, encPr, kP] at h1
   simp at h0 h1
   go_simp
   have hbn := (Below.refl W.heap.size W).alloc (Nat.le_refl _) (.cells (flatK encPr [(.slice none 0 0, kP []), (u1, kP [kS, kA])]).toArray 53)
   refine hK _ _ hbn (fun j u _ _ _ h => loR_low _ j u _ _ h hbn) trivial ⟨[(.slice none 0 0, kP []), (u1, kP [kS, kA])], ⟨sliceK_built encPr_len W 53 _ 2 rfl (by decide) (HZ.out W hG), ?_⟩, rfl⟩
   intro x hx
   simp only [List.mem_cons, List.not_mem_nil, or_false] at hx
   rcases hx with rfl | rfl
   ·exact slice_none
   ·exact low_slice HK.out hbn
  ·intro L T W hG hJ hLs hLi dq fq vq K hK
   have h1 := vq ⟨0, .data⟩ (by simp) rfl 20 rfl
   have h2 := vq ⟨7, .data⟩ (by simp) rfl 27 rfl
   have H := Hd (An h1 h2)
   obtain ⟨ua, uc, e1, _⟩ := h1
   obtain ⟨pl, hpl, _⟩ := h2
   obtain ⟨pa, pc, e2, _⟩ := hpl.row
   simp at e1 e2
   clear hpl
   go_simp
   refine hK _ _ (Below.refl _ W) (fun j u _ _ _ h => h) trivial ⟨_, _, rfl, ?_, ?_⟩
   ·rw [<- e1]
    have := H.out.1
    simp only [loR] at this
    simp at this
    exact this
   ·rw [<- e2]
    have := H.out.2
    simp only [loR] at this
    simpa using this
  ·intro L T W hG hJ hLs hLi dq fq vq K hK
   go_simp
   have hbn := (Below.refl W.heap.size W).alloc (Nat.le_refl _) (.cells #[.slice none 0 0, .slice none 0 0, .int .i64 0, .slice none 0 0, .slice none 0 0] 27)
   exact hK _ _ hbn (fun j u _ _ _ h => loR_low _ j u _ _ h hbn) trivial ⟨_, rfl, Blk.new W _ _, HZ.out W hG⟩
 ·intro f9 W2 hG _ hR
  obtain ⟨sv, pv, e10, h1, h2⟩ := hR 8 28 (by decide) rfl
  obtain ⟨q, e11, k1, k2⟩ := hR 9 4 (by decide) rfl
  have hs1 := slice_off k1 h1 [83] rfl 0 (.string ⟨#[83]⟩) rfl (zero_cells _ (by intro h; cases h) (by intro h; cases h))
  have hp1 : ProdsAt (fun b => b ≠ q) W2 pv loG.prods := by
   obtain ⟨pl, hpl, he⟩ := h2
   refine ⟨pl, ⟨?_, fun x hx => ?_⟩, he⟩
   ·cases pl with
    | nil => cases he
    | cons y ys =>
     have hy : y.2 = kP [] := by rw [lo_prods] at he; simp only [List.map_cons, List.cons.injEq] at he; exact he.1
     exact slice_off k1 hpl.row y rfl 4 (.bool false) (by obtain ⟨y1, y2⟩ := y; simp only at hy; subst hy; rfl) (zero_cells _ (by intro h; cases h) (by intro h; cases h))
   ·have hx2 : x.2 ∈ loG.prods := by rw [<- he]; exact List.mem_map.2 ⟨x, hx, rfl⟩
    rw [lo_prods] at hx2
    simp only [List.mem_cons, List.not_mem_nil, or_false] at hx2
    have hr := hpl.right x hx
    rcases hx2 with h | h
    ·rw [h] at hr ⊢
     exact slice_nil hr
    ·rw [h] at hr ⊢
     exact slice_off k1 hr kS rfl 1 (.int .u64 (wd 0 0)) rfl (zero_cells _ (by intro h; cases h) (by intro h; cases h))
  obtain ⟨sa, sc, rfl⟩ := slice_shape h1
  obtain ⟨pa, pc, rfl⟩ := prodsAt_shape h2
  simp only [concDsts, List.take_succ_cons, List.take_zero, List.drop_succ_cons, List.drop_zero, List.filterMap_cons, List.filterMap_nil, List.foldl_cons, List.foldl_nil, List.setIfInBounds_toArray, List.set_cons_zero, List.set_cons_succ]
  rw [e10, e11]
  clear e10 e11 hR
  generalize f9 20 = v20
  generalize f9 21 = v21
  generalize f9 22 = v22
  generalize f9 23 = v23
  generalize f9 24 = v24
  generalize f9 25 = v25
  generalize f9 26 = v26
  generalize f9 27 = v27
  clear f9
  obtain ⟨z0, z1, z2, z3, z4, zf⟩ := gfacts5 k1
  have hql := k1.lt
  have hbW : Below w.heap.size w W2 := HB.out.2.trans (((show Below W1.heap.size W1 W1.drew from (Below.refl _ _).drew).trans hG).mono HB.out.2.size)
  have H2 := Hd (An k1 (An k2 (An hs1 (An hp1 hbW))))
  clear k1 k2 hs1 hp1 hbW h1 h2 hG HB HF HZ
  go_upto_region 5 with fail
  have hQ := gset5 H2.out.1 (.slice sa loG.sorts.length sc) (.slice pa loG.prods.length pc) (.int .i64 0) (.slice none 0 0) (.slice none 0 0)
  have hb3 := below_set5 H2.out.2.2.2.2 (show w.heap.size <= q by have := H2.out.2.1; omega) (.slice sa loG.sorts.length sc) (.slice pa loG.prods.length pc) (.int .i64 0) (.slice none 0 0) (.slice none 0 0)
  have hs3 : SliceK (fun b => b ≠ q) Tb.encS 1 (((((W2.setCell ⟨q, 0, none⟩ (.slice sa loG.sorts.length sc)).setCell ⟨q, 1, none⟩ (.slice pa loG.prods.length pc)).setCell ⟨q, 2, none⟩ (.int .i64 0)).setCell ⟨q, 3, none⟩ (.slice none 0 0)).setCell ⟨q, 4, none⟩ (.slice none 0 0)) (.slice sa loG.sorts.length sc) loG.sorts := H2.out.2.2.1.keep fun b hb hl => ⟨hb, far_set5 _ _ _ _ _ _ _ b hb⟩
  have hp3 : ProdsAt (fun b => b ≠ q) (((((W2.setCell ⟨q, 0, none⟩ (.slice sa loG.sorts.length sc)).setCell ⟨q, 1, none⟩ (.slice pa loG.prods.length pc)).setCell ⟨q, 2, none⟩ (.int .i64 0)).setCell ⟨q, 3, none⟩ (.slice none 0 0)).setCell ⟨q, 4, none⟩ (.slice none 0 0)) (.slice pa loG.prods.length pc) loG.prods := H2.out.2.2.2.1.keep fun b hb hl => ⟨hb, far_set5 _ _ _ _ _ _ _ b hb⟩
  generalize (((((W2.setCell ⟨q, 0, none⟩ (.slice sa loG.sorts.length sc)).setCell ⟨q, 1, none⟩ (.slice pa loG.prods.length pc)).setCell ⟨q, 2, none⟩ (.int .i64 0)).setCell ⟨q, 3, none⟩ (.slice none 0 0)).setCell ⟨q, 4, none⟩ (.slice none 0 0)) = w3 at hQ hb3 hs3 hp3 ⊢
  clear z0 z1 z2 z3 z4 zf hql
  have HG := Hd (show ∀ (txt : List UInt8), txt.length <= 5000 -> ∀ W, Below w3.heap.size w3 W -> GrW loG ⟨.slice sa loG.sorts.length sc, .slice pa loG.prods.length pc, 0, .slice none 0 0, .slice none 0 0, .pointer none, txt⟩ W from fun txt ht W hW =>
   lo_grw (hs3.all hW) (hp3.keep fun b hb hl => ⟨hb, hW.block b hl⟩) ((HE.out.below hb3 HE.out.big).below hW (HE.out.below hb3 HE.out.big).big) (by omega))
  have HX := Hd (An hQ (An hb3 HE.out))
  obtain ⟨z0, z1, z2, z3, z4, zf⟩ := gfacts5 hQ
  clear hs3 hp3 hb3 H2 HE
  have hms := fun w => make_bytes m (by omega) w
  go_wp2_with fail
  clear hms
  have hA : RowB (w3.alloc (.cells (arrF (fun _ => .int .u8 0) m) 5)) w3.heap.size 5 (fun j => if j < 0 then .int .u8 97 else .int .u8 0) m := by
   have h : RowB (w3.alloc (.cells (arrF (fun _ => .int .u8 0) m) 5)) w3.heap.size 5 (fun _ => .int .u8 0) m := Blk.new _ _ _
   exact h.ext fun j _ => by simp
  have hbA : Below w3.heap.size w3 (w3.alloc (.cells (arrF (fun _ => .int .u8 0) m) 5)) := (Below.refl _ _).alloc (Nat.le_refl _) _
  have hbx : w3.heap.size <= w3.heap.size := Nat.le_refl _
  generalize w3.alloc (.cells (arrF (fun _ => .int .u8 0) m) 5) = wA at hA hbA ⊢
  obtain ⟨xb, hxb⟩ : ∃ xb, w3.heap.size = xb := ⟨_, rfl⟩
  have HXB := Hd hxb
  rw [hxb] at hA ⊢
  clear z0 z1 z2 z3 z4 zf hbx
  go_loopg [6] m (fun mm v6 wr => ∃ i : Nat, i <= m /\ mm = m - i /\ v6 = .int .i64 (i : Int) /\ RowB wr xb 5 (fun j => if j < i then .int .u8 97 else .int .u8 0) m /\ Below w3.heap.size w3 wr)
  case atStart => exact ⟨0, Nat.zero_le _, rfl, rfl, hA, hbA⟩
  case round =>
   obtain ⟨i, hi, hmm, rfl, hrow, hbw⟩ := hrel
   clear hA hbA
   by_cases hlt : i < m
   ·have k0 := hrow.cell hlt
    have k1 := Blk.frozen hrow i
    have hi0 : (0 : Int) <= (i : Int) := by omega
    have hi1 : (i : Int) < (m : Int) := by omega
    rw [if_neg (Nat.lt_irrefl i)] at k0
    have HR := Hd (An hmm (An hrow hbw))
    clear hmm hrow hbw hxb
    go_wp2_with fail
    go_roundg (m - (i + 1))
    case measure => have := HR.out.1; omega
    case rel =>
     refine ⟨i + 1, by omega, rfl, rfl, (HR.out.2.1.set_ i _).ext fun j _ => ?_, HR.out.2.2.setCell (p := ⟨xb, i, none⟩) (by have := HXB.out; simp; omega) _⟩
     by_cases h1 : j = i
     ·subst h1; simp
     ·by_cases h2 : j < i
      ·rw [if_neg h1, if_pos h2, if_pos (by omega)]
      ·rw [if_neg h1, if_neg h2, if_neg (by omega)]
   ·obtain rfl : i = m := by omega
    have hcv := run_convert_bytes_back (P := Tryz.prog) wr 55 9 5 ⟨xb, 0, none⟩ i (txA i) Tryz.underlying55 Tryz.underlying5 Tryz.underlying9 (fun j hj => by
     rw [txA_len] at hj
     have h1 := hrow.cell hj
     rw [if_pos hj] at h1
     have h2 : (txA i)[j]'(by rw [txA_len]; exact hj) = 97 := by simp [txA]
     rw [h2]
     rw [addr_add_, Nat.zero_add]
     exact h1)
    rw [txA_len] at hcv
    obtain ⟨z0, z1, z2, z3, z4, zf⟩ := gfacts5 (HX.out.1.below hbw HX.out.1.lt)
    have r1 := run_any loG ⟨.slice sa loG.sorts.length sc, .slice pa loG.prods.length pc, 0, .slice none 0 0, .slice none 0 0, .pointer none, txA i⟩ 1099511627776 wr (HG.out _ (by rw [txA_len]; exact hm) wr hbw) (lo_lim hm) (tabF loG []).left lo_left
    have r2 := fun W (hW : Below w3.heap.size w3 W) => prefix_any loG ⟨.slice sa loG.sorts.length sc, .slice pa loG.prods.length pc, 0, .slice none 0 0, .slice none 0 0, .pointer none, txA i⟩ 1099511627776 W (HG.out _ (by rw [txA_len]; exact hm) W hW) (lo_lim hm)
    have hcv2 := fun W (hW : Below wr.heap.size wr W) => run_convert_bytes_back (P := Tryz.prog) W 55 9 5 ⟨xb, 0, none⟩ i (txA i) Tryz.underlying55 Tryz.underlying5 Tryz.underlying9 (fun j hj => by
     rw [txA_len] at hj
     have h1 := (RowB.cell (show RowB W xb 5 _ i from Blk.below hrow hW hrow.lt) hj)
     rw [if_pos hj] at h1
     have h2 : (txA i)[j]'(by rw [txA_len]; exact hj) = 97 := by simp [txA]
     rw [h2]
     rw [addr_add_, Nat.zero_add]
     exact h1)
    simp only [txA_len] at hcv2
    obtain ⟨tb, htb⟩ : ∃ tb : ByteArray, (⟨(txA i).toArray⟩ : ByteArray) = tb := ⟨_, rfl⟩
    simp only [htb] at r1 r2 hcv hcv2
    have HKN0 := Hd (show ∀ W, Below w3.heap.size w3 W -> Calls Tryz.prog 10 #[] W fun e w' => e = .returned (.bool true) /\ Below W.heap.size W w' from fun W hW => known_any W ((HX.out.2.2.below HX.out.2.1 HX.out.2.2.big).below hW (HX.out.2.2.below HX.out.2.1 HX.out.2.2.big).big))
    have HP := Hd (An r2 (An hcv2 hbw))
    clear r2 hcv2 hmm hrow hxb htb hbw
    by_cases hlong : 4096 < i
    ·have d1 : (4096 : Int) < (i : Int) := by omega
     rw [lo_over hlong] at r1
     have hpo := lo_preo hlong
     have HPO := Hd hpo
     have HR1 := Hd r1
     clear r1 hpo hlong
     go_wp2_with fail
     refine HR1.out.mono ?_
     rintro e w4 ⟨rfl, hb4⟩
     unfold waysC
     have hb4' := HP.out.2.2.trans (hb4.mono HP.out.2.2.size)
     have H4 := Hd (An hb4 hb4')
     clear z0 z1 z2 z3 z4 zf hcv hb4 hb4'
     go_upto_region 11 with fail
     simp only [wd_zero_]
     have hX5 : Blk (w4.alloc (.cells #[.slice none 0 0, .int .i64 0, .int .i64 0, .int .u64 0, .int .u64 0, .int .u64 0, .int .u64 0] 35)) w4.heap.size 35 #[.slice none 0 0, .int .i64 0, .int .i64 0, .int .u64 0, .int .u64 0, .int .u64 0, .int .u64 0] := Blk.new _ _ _
     have hb5 : Below wr.heap.size wr (w4.alloc (.cells #[.slice none 0 0, .int .i64 0, .int .i64 0, .int .u64 0, .int .u64 0, .int .u64 0, .int .u64 0] 35)) := H4.out.1.alloc H4.out.1.size _
     have hb5' : Below w3.heap.size w3 (w4.alloc (.cells #[.slice none 0 0, .int .i64 0, .int .i64 0, .int .u64 0, .int .u64 0, .int .u64 0, .int .u64 0] 35)) := H4.out.2.alloc H4.out.2.size _
     generalize w4.alloc (.cells #[.slice none 0 0, .int .i64 0, .int .i64 0, .int .u64 0, .int .u64 0, .int .u64 0, .int .u64 0] 35) = w5 at hX5 hb5 hb5' ⊢
     obtain ⟨x1, hx1⟩ : ∃ x1, w4.heap.size = x1 := ⟨_, rfl⟩
     rw [hx1] at hX5 ⊢
     obtain ⟨z0, z1, z2, z3, z4, zf⟩ := gfacts5 (HX.out.1.below hb5' HX.out.1.lt)
     have hcv := HP.out.2.1 w5 hb5
     have r2 := HP.out.1 w5 hb5'
     simp only [HPO.out] at r2
     unfold setV at r2
     simp only [wd_zero_] at r2
     have HR2 := Hd r2
     have H5 := Hd (An hX5 hb5')
     clear r2 hX5 hb5 hb5' hx1
     go_wp2_with fail
     refine HR2.out.mono ?_
     rintro e w6 ⟨rfl, hb6⟩
     have hX6 := H5.out.1.below hb6 H5.out.1.lt
     have hb6' := H5.out.2.trans (hb6.mono H5.out.2.size)
     have H6 := Hd (An hX6 hb6')
     clear z0 z1 z2 z3 z4 zf hcv hb6 hX6 hb6'
     go_upto_region 12 with fail
     have hX7 : Blk (w6.alloc (.cells #[.int .u64 0, .int .u64 0, .int .u64 0, .int .u64 0] 33)) x1 35 #[.slice none 0 0, .int .i64 0, .int .i64 0, .int .u64 0, .int .u64 0, .int .u64 0, .int .u64 0] := H6.out.1.alloc _
     have hb7 : Below w3.heap.size w3 (w6.alloc (.cells #[.int .u64 0, .int .u64 0, .int .u64 0, .int .u64 0] 33)) := H6.out.2.alloc H6.out.2.size _
     generalize w6.alloc (.cells #[.int .u64 0, .int .u64 0, .int .u64 0, .int .u64 0] 33) = w7 at hX7 hb7 ⊢
     have c0 : w7.cell? ⟨x1, 0, none⟩ = some (.slice none 0 0) := hX7.cell 0
     have HKK := Hd (HKN0.out w7 hb7)
     have H7 := Hd hb7
     clear hX7 hb7
     go_wp2_with fail
     refine HKK.out.mono ?_
     rintro e w8 ⟨rfl, hb8⟩
     have H8 := Hd (HX.out.2.1.trans ((H7.out.trans (hb8.mono H7.out.size)).mono HX.out.2.1.size))
     clear hb8 c0
     go_wp2_with fail
     go_ret
     exact ⟨rfl, H8.out⟩
    ·have hle : i <= 4096 := by omega
     have d1 : ¬ (4096 : Int) < (i : Int) := by omega
     obtain ⟨rr, hw1, ha1, hf1, _, hm1⟩ := lo_whole hle
     rw [hw1] at r1
     have hpo := lo_pre hle
     have HPO := Hd hpo
     have HR1 := Hd (An r1 (An ha1 (An hf1 hm1)))
     clear r1 hpo hlong hle hw1 ha1 hf1 hm1
     go_wp2_with fail
     refine HR1.out.1.mono ?_
     rintro e w4 ⟨v1, va1, rfl, hrow1, hcut1, hb4⟩
     have hl1 : (sortAl (tabF loG []).left rr.alts).length = i + 1 := by rw [(sortAl_perm _ _).length_eq]; exact HR1.out.2.1
     rw [hl1] at hrow1
     obtain ⟨wa, wc, rfl⟩ := own_shape hrow1
     rw [HR1.out.2.2.1, HR1.out.2.2.2]
     obtain ⟨M1, hM1⟩ : ∃ M, (2 : Nat) ^ 97 = M := ⟨_, rfl⟩
     have HM1 := Hd hM1
     rw [hM1]
     clear hM1
     obtain ⟨st1, hst1⟩ : ∃ st : Int, (rr.edges.length : Int) + (rr.alts.length : Int) = st := ⟨_, rfl⟩
     rw [hst1]
     unfold waysC
     have hb4' := HP.out.2.2.trans (hb4.mono HP.out.2.2.size)
     have H4 := Hd (An hb4 hb4')
     clear z0 z1 z2 z3 z4 zf hcv hb4 hb4' hst1 hrow1 hcut1 hl1
     go_upto_region 11 with fail
     have hX5 : Blk (w4.alloc (.cells #[.slice wa (i + 1) wc, .int .i64 st1, .int .i64 (i : Int), .int .u64 (wd M1 0), .int .u64 (wd M1 1), .int .u64 (wd M1 2), .int .u64 (wd M1 3)] 35)) w4.heap.size 35 #[.slice wa (i + 1) wc, .int .i64 st1, .int .i64 (i : Int), .int .u64 (wd M1 0), .int .u64 (wd M1 1), .int .u64 (wd M1 2), .int .u64 (wd M1 3)] := Blk.new _ _ _
     have hb5 : Below wr.heap.size wr (w4.alloc (.cells #[.slice wa (i + 1) wc, .int .i64 st1, .int .i64 (i : Int), .int .u64 (wd M1 0), .int .u64 (wd M1 1), .int .u64 (wd M1 2), .int .u64 (wd M1 3)] 35)) := H4.out.1.alloc H4.out.1.size _
     have hb5' : Below w3.heap.size w3 (w4.alloc (.cells #[.slice wa (i + 1) wc, .int .i64 st1, .int .i64 (i : Int), .int .u64 (wd M1 0), .int .u64 (wd M1 1), .int .u64 (wd M1 2), .int .u64 (wd M1 3)] 35)) := H4.out.2.alloc H4.out.2.size _
     generalize w4.alloc (.cells #[.slice wa (i + 1) wc, .int .i64 st1, .int .i64 (i : Int), .int .u64 (wd M1 0), .int .u64 (wd M1 1), .int .u64 (wd M1 2), .int .u64 (wd M1 3)] 35) = w5 at hX5 hb5 hb5' ⊢
     obtain ⟨x1, hx1⟩ : ∃ x1, w4.heap.size = x1 := ⟨_, rfl⟩
     rw [hx1] at hX5 ⊢
     obtain ⟨z0, z1, z2, z3, z4, zf⟩ := gfacts5 (HX.out.1.below hb5' HX.out.1.lt)
     have hcv := HP.out.2.1 w5 hb5
     have r2 := HP.out.1 w5 hb5'
     simp only [HPO.out] at r2
     rw [HM1.out] at r2
     unfold setV at r2
     have HR2 := Hd r2
     have H5 := Hd (An hX5 hb5')
     clear r2 hX5 hb5 hb5' hx1
     go_wp2_with fail
     refine HR2.out.mono ?_
     rintro e w6 ⟨rfl, hb6⟩
     have hX6 := H5.out.1.below hb6 H5.out.1.lt
     have hb6' := H5.out.2.trans (hb6.mono H5.out.2.size)
     have H6 := Hd (An hX6 hb6')
     clear z0 z1 z2 z3 z4 zf hcv hb6 hX6 hb6'
     go_upto_region 12 with fail
     have hX7 : Blk (w6.alloc (.cells #[.int .u64 (wd M1 0), .int .u64 (wd M1 1), .int .u64 (wd M1 2), .int .u64 (wd M1 3)] 33)) x1 35 #[.slice wa (i + 1) wc, .int .i64 st1, .int .i64 (i : Int), .int .u64 (wd M1 0), .int .u64 (wd M1 1), .int .u64 (wd M1 2), .int .u64 (wd M1 3)] := H6.out.1.alloc _
     have hS7 : Blk (w6.alloc (.cells #[.int .u64 (wd M1 0), .int .u64 (wd M1 1), .int .u64 (wd M1 2), .int .u64 (wd M1 3)] 33)) w6.heap.size 33 #[.int .u64 (wd M1 0), .int .u64 (wd M1 1), .int .u64 (wd M1 2), .int .u64 (wd M1 3)] := Blk.new _ _ _
     have hb7 : Below w3.heap.size w3 (w6.alloc (.cells #[.int .u64 (wd M1 0), .int .u64 (wd M1 1), .int .u64 (wd M1 2), .int .u64 (wd M1 3)] 33)) := H6.out.2.alloc H6.out.2.size _
     generalize w6.alloc (.cells #[.int .u64 (wd M1 0), .int .u64 (wd M1 1), .int .u64 (wd M1 2), .int .u64 (wd M1 3)] 33) = w7 at hX7 hS7 hb7 ⊢
     obtain ⟨x2, hx2⟩ : ∃ x2, w6.heap.size = x2 := ⟨_, rfl⟩
     rw [hx2] at hS7 ⊢
     clear hx2
     have HC := Hd (show ∀ W, Below w7.drew.heap.size w7.drew W -> W.cell? ⟨x1, 0, none⟩ = some (.slice wa (i + 1) wc) /\ W.cell? ⟨x1, 2, none⟩ = some (.int .i64 (i : Int)) /\ W.cell? ⟨x1, 3, none⟩ = some (.int .u64 (wd M1 0)) /\ W.cell? ⟨x1, 4, none⟩ = some (.int .u64 (wd M1 1)) /\ W.cell? ⟨x1, 5, none⟩ = some (.int .u64 (wd M1 2)) /\ W.cell? ⟨x1, 6, none⟩ = some (.int .u64 (wd M1 3)) /\ W.cell? ⟨x2, 0, none⟩ = some (.int .u64 (wd M1 0)) /\ W.cell? ⟨x2, 1, none⟩ = some (.int .u64 (wd M1 1)) /\ W.cell? ⟨x2, 2, none⟩ = some (.int .u64 (wd M1 2)) /\ W.cell? ⟨x2, 3, none⟩ = some (.int .u64 (wd M1 3)) from fun W h => by
      have a1 := hX7.drew.below h hX7.lt
      have a2 := hS7.drew.below h hS7.lt
      exact ⟨a1.cell 0, a1.cell 2, a1.cell 3, a1.cell 4, a1.cell 5, a1.cell 6, a2.cell 0, a2.cell 1, a2.cell 2, a2.cell 3⟩)
     have HKN := Hd (show ∀ W, Below w7.drew.heap.size w7.drew W -> Calls Tryz.prog 10 #[] W fun e w' => e = .returned (.bool true) /\ Below W.heap.size W w' from fun W h => HKN0.out W (hb7.trans (((show Below w7.heap.size w7 w7.drew from (Below.refl _ _).drew).trans h).mono hb7.size)))
     have H7 := Hd (HX.out.2.1.trans (hb7.mono HX.out.2.1.size))
     clear hX7 hS7 hb7
     go_upto_region 14 with fail
     refine wp_region_concG 37 (loZ x1 i wa wc M1) (fun A W => Below A.heap.size A W) (fun _ _ => True) [2, 10, 16, 20, 23, 28, 34] (fun j => match j with | _ => true) (by kernel_rfl) (by kernel_rfl) (by kernel_rfl) (by kernel_rfl) (Below.refl _ _) trivial (fun h k => h.trans (k.mono h.size)) ⟨fun v w h => h, fun v w h => h, fun v w h => h, fun v w h => h, fun v w h => h, fun v w h => h, fun v w h => h, trivial⟩ ?_ ?_
     ·simp only [List.take_succ_cons, List.take_zero]
      refine ⟨?_, ?_, ?_, ?_, ?_, ?_, ?_, ?_, ?_, ?_, ?_, ?_, ?_, ?_, ?_, ?_, ?_, ?_, ?_, ?_, ?_, ?_, ?_, ?_, ?_, ?_, ?_, ?_, ?_, ?_, ?_, ?_, ?_, ?_, ?_, ?_, ?_, trivial⟩
      ·refine ⟨fun _ => ?_, fun h => absurd h (by decide)⟩
       intro L T W hG hJ hLs hLi dq fq vq K hK
       have h1 := fq 8 (by decide)
       simp at h1
       go_simp
       exact hK _ _ (Below.refl _ W) (fun j u _ _ _ h => h) trivial rfl
      ·refine ⟨fun _ => ?_, fun h => absurd h (by decide)⟩
       intro L T W hG hJ hLs hLi dq fq vq K hK
       have h1 := vq ⟨0, .data⟩ (by simp) rfl 75 rfl
       simp only [loZ] at h1
       simp at h1
       go_simp
       exact hK _ _ (Below.refl _ W) (fun j u _ _ _ h => h) trivial rfl
      ·refine ⟨fun _ => ?_, fun h => absurd h (by decide)⟩
       intro L T W hG hJ hLs hLi dq fq vq K hK
       have h1 := vq ⟨1, .data⟩ (by simp) rfl 76 rfl
       simp only [loZ] at h1
       simp at h1
       go_simp
       exact hK _ _ (Below.refl _ W) (fun j u _ _ _ h => h) trivial rfl
      ·refine ⟨fun _ => ?_, fun h => absurd h (by decide)⟩
       intro L T W hG hJ hLs hLi dq fq vq K hK
       have h1 := fq 7 (by decide)
       simp at h1
       go_simp
       exact hK _ _ (Below.refl _ W) (fun j u _ _ _ h => h) trivial rfl
      ·refine ⟨fun _ => ?_, fun h => absurd h (by decide)⟩
       intro L T W hG hJ hLs hLi dq fq vq K hK
       have h1 := vq ⟨3, .data⟩ (by simp) rfl 78 rfl
       simp only [loZ] at h1
       simp at h1
       obtain ⟨c0, c1, c2, c3, c4, c5, d0, d1, d2, d3⟩ := HC.out W hG
       go_simp
       exact hK _ _ (Below.refl _ W) (fun j u _ _ _ h => h) trivial rfl
      ·refine ⟨fun _ => ?_, fun h => absurd h (by decide)⟩
       intro L T W hG hJ hLs hLi dq fq vq K hK
       have h1 := vq ⟨4, .data⟩ (by simp) rfl 79 rfl
       simp only [loZ] at h1
       simp at h1
       go_simp
       exact hK _ _ (Below.refl _ W) (fun j u _ _ _ h => h) trivial rfl
      ·refine ⟨fun _ => ?_, fun h => absurd h (by decide)⟩
       intro L T W hG hJ hLs hLi dq fq vq K hK
       have h1 := fq 0 (by decide)
       simp at h1
       go_simp
       exact hK _ _ (Below.refl _ W) (fun j u _ _ _ h => h) trivial rfl
      ·refine ⟨fun _ => ?_, fun h => absurd h (by decide)⟩
       intro L T W hG hJ hLs hLi dq fq vq K hK
       have h1 := vq ⟨6, .data⟩ (by simp) rfl 81 rfl
       simp only [loZ] at h1
       simp at h1
       have hwi : IntKind.i64.wrap ((i : Int) + 1) = (i : Int) + 1 := IntWalk.i64_in _ (by omega)
       go_simp
       exact hK _ _ (Below.refl _ W) (fun j u _ _ _ h => h) trivial rfl
      ·refine ⟨fun _ => ?_, fun h => absurd h (by decide)⟩
       intro L T W hG hJ hLs hLi dq fq vq K hK
       have h1 := vq ⟨5, .data⟩ (by simp) rfl 80 rfl
       simp only [loZ] at h1
       have h2 := vq ⟨7, .data⟩ (by simp) rfl 82 rfl
       simp only [loZ] at h2
       simp at h1 h2
       go_simp
       exact hK _ _ (Below.refl _ W) (fun j u _ _ _ h => h) trivial rfl
      ·refine ⟨fun _ => ?_, fun h => absurd h (by decide)⟩
       intro L T W hG hJ hLs hLi dq fq vq K hK
       have h1 := vq ⟨2, .data⟩ (by simp) rfl 77 rfl
       simp only [loZ] at h1
       have h2 := vq ⟨8, .data⟩ (by simp) rfl 83 rfl
       simp only [loZ] at h2
       simp at h1 h2
       go_simp
       exact hK _ _ (Below.refl _ W) (fun j u _ _ _ h => h) trivial rfl
      ·refine ⟨fun _ => ?_, fun h => absurd h (by decide)⟩
       intro L T W hG hJ hLs hLi dq fq vq K hK
       have h1 := vq ⟨9, .data⟩ (by simp) rfl 84 rfl
       simp only [loZ] at h1
       simp at h1
       go_simp
       exact hK _ _ (Below.refl _ W) (fun j u _ _ _ h => h) trivial rfl
      ·refine ⟨fun _ => ?_, fun h => absurd h (by decide)⟩
       intro L T W hG hJ hLs hLi dq fq vq K hK
       have h1 := fq 7 (by decide)
       simp at h1
       go_simp
       exact hK _ _ (Below.refl _ W) (fun j u _ _ _ h => h) trivial rfl
      ·refine ⟨fun _ => ?_, fun h => absurd h (by decide)⟩
       intro L T W hG hJ hLs hLi dq fq vq K hK
       have h1 := vq ⟨11, .data⟩ (by simp) rfl 86 rfl
       simp only [loZ] at h1
       simp at h1
       obtain ⟨c0, c1, c2, c3, c4, c5, d0, d1, d2, d3⟩ := HC.out W hG
       go_simp
       exact hK _ _ (Below.refl _ W) (fun j u _ _ _ h => h) trivial rfl
      ·refine ⟨fun _ => ?_, fun h => absurd h (by decide)⟩
       intro L T W hG hJ hLs hLi dq fq vq K hK
       have h1 := fq 0 (by decide)
       simp at h1
       go_simp
       exact hK _ _ (Below.refl _ W) (fun j u _ _ _ h => h) trivial rfl
      ·refine ⟨fun _ => ?_, fun h => absurd h (by decide)⟩
       intro L T W hG hJ hLs hLi dq fq vq K hK
       have h1 := vq ⟨12, .data⟩ (by simp) rfl 87 rfl
       simp only [loZ] at h1
       have h2 := vq ⟨13, .data⟩ (by simp) rfl 88 rfl
       simp only [loZ] at h2
       simp at h1 h2
       go_simp
       exact hK _ _ (Below.refl _ W) (fun j u _ _ _ h => h) trivial rfl
      ·refine ⟨fun _ => ?_, fun h => absurd h (by decide)⟩
       intro L T W hG hJ hLs hLi dq fq vq K hK
       have h1 := vq ⟨10, .data⟩ (by simp) rfl 85 rfl
       simp only [loZ] at h1
       have h2 := vq ⟨14, .data⟩ (by simp) rfl 89 rfl
       simp only [loZ] at h2
       simp at h1 h2
       go_simp
       exact hK _ _ (Below.refl _ W) (fun j u _ _ _ h => h) trivial rfl
      ·refine ⟨fun _ => ?_, fun h => absurd h (by decide)⟩
       intro L T W hG hJ hLs hLi dq fq vq K hK
       have h1 := vq ⟨15, .data⟩ (by simp) rfl 90 rfl
       simp only [loZ] at h1
       simp at h1
       go_simp
       exact hK _ _ (Below.refl _ W) (fun j u _ _ _ h => h) trivial rfl
      ·refine ⟨fun _ => ?_, fun h => absurd h (by decide)⟩
       intro L T W hG hJ hLs hLi dq fq vq K hK
       have h1 := fq 11 (by decide)
       simp at h1
       go_simp
       exact hK _ _ (Below.refl _ W) (fun j u _ _ _ h => h) trivial rfl
      ·refine ⟨fun _ => ?_, fun h => absurd h (by decide)⟩
       intro L T W hG hJ hLs hLi dq fq vq K hK
       have h1 := vq ⟨17, .data⟩ (by simp) rfl 92 rfl
       simp only [loZ] at h1
       simp at h1
       go_simp
       exact hK _ _ (Below.refl _ W) (fun j u _ _ _ h => h) trivial rfl
      ·refine ⟨fun _ => ?_, fun h => absurd h (by decide)⟩
       intro L T W hG hJ hLs hLi dq fq vq K hK
       have h1 := vq ⟨16, .data⟩ (by simp) rfl 91 rfl
       simp only [loZ] at h1
       have h2 := vq ⟨18, .data⟩ (by simp) rfl 93 rfl
       simp only [loZ] at h2
       simp at h1 h2
       go_simp
       exact hK _ _ (Below.refl _ W) (fun j u _ _ _ h => h) trivial rfl
      ·refine ⟨fun _ => ?_, fun h => absurd h (by decide)⟩
       intro L T W hG hJ hLs hLi dq fq vq K hK
       have h1 := vq ⟨19, .data⟩ (by simp) rfl 94 rfl
       simp only [loZ] at h1
       simp at h1
       go_simp
       exact hK _ _ (Below.refl _ W) (fun j u _ _ _ h => h) trivial rfl
      ·refine ⟨fun _ => ?_, fun h => absurd h (by decide)⟩
       intro L T W hG hJ hLs hLi dq fq vq K hK
       have h1 := fq 10 (by decide)
       simp at h1
       go_simp
       exact hK _ _ (Below.refl _ W) (fun j u _ _ _ h => h) trivial rfl
      ·refine ⟨fun _ => ?_, fun h => absurd h (by decide)⟩
       intro L T W hG hJ hLs hLi dq fq vq K hK
       have h1 := vq ⟨20, .data⟩ (by simp) rfl 95 rfl
       simp only [loZ] at h1
       have h2 := vq ⟨21, .data⟩ (by simp) rfl 96 rfl
       simp only [loZ] at h2
       simp at h1 h2
       go_simp
       exact hK _ _ (Below.refl _ W) (fun j u _ _ _ h => h) trivial rfl
      ·refine ⟨fun _ => ?_, fun h => absurd h (by decide)⟩
       intro L T W hG hJ hLs hLi dq fq vq K hK
       have h1 := vq ⟨22, .data⟩ (by simp) rfl 97 rfl
       simp only [loZ] at h1
       simp at h1
       go_simp
       exact hK _ _ (Below.refl _ W) (fun j u _ _ _ h => h) trivial rfl
      ·refine ⟨fun _ => ?_, fun h => absurd h (by decide)⟩
       intro L T W hG hJ hLs hLi dq fq vq K hK
       have h1 := fq 9 (by decide)
       simp at h1
       obtain ⟨c0, c1, c2, c3, c4, c5, d0, d1, d2, d3⟩ := HC.out W hG
       go_simp
       exact hK _ _ (Below.refl _ W) (fun j u _ _ _ h => h) trivial rfl
      ·refine ⟨fun _ => ?_, fun h => absurd h (by decide)⟩
       intro L T W hG hJ hLs hLi dq fq vq K hK
       go_simp
       have hl := letter_any W
       rw [HM1.out] at hl
       unfold setV at hl
       refine hl.mono ?_
       rintro e W2 ⟨rfl, hb2⟩
       exact hK _ _ hb2 (fun j u _ _ _ h => h) trivial rfl
      ·refine ⟨fun _ => ?_, fun h => absurd h (by decide)⟩
       intro L T W hG hJ hLs hLi dq fq vq K hK
       have h1 := vq ⟨24, .data⟩ (by simp) rfl 99 rfl
       simp only [loZ] at h1
       have h2 := vq ⟨25, .data⟩ (by simp) rfl 100 rfl
       simp only [loZ] at h2
       simp at h1 h2
       go_simp
       exact hK _ _ (Below.refl _ W) (fun j u _ _ _ h => h) trivial rfl
      ·refine ⟨fun _ => ?_, fun h => absurd h (by decide)⟩
       intro L T W hG hJ hLs hLi dq fq vq K hK
       have h1 := vq ⟨23, .data⟩ (by simp) rfl 98 rfl
       simp only [loZ] at h1
       have h2 := vq ⟨26, .data⟩ (by simp) rfl 101 rfl
       simp only [loZ] at h2
       simp at h1 h2
       go_simp
       exact hK _ _ (Below.refl _ W) (fun j u _ _ _ h => h) trivial rfl
      ·refine ⟨fun _ => ?_, fun h => absurd h (by decide)⟩
       intro L T W hG hJ hLs hLi dq fq vq K hK
       have h1 := vq ⟨27, .data⟩ (by simp) rfl 102 rfl
       simp only [loZ] at h1
       simp at h1
       go_simp
       exact hK _ _ (Below.refl _ W) (fun j u _ _ _ h => h) trivial rfl
      ·refine ⟨fun _ => ?_, fun h => absurd h (by decide)⟩
       intro L T W hG hJ hLs hLi dq fq vq K hK
       have h1 := fq 7 (by decide)
       simp at h1
       go_simp
       exact hK _ _ (Below.refl _ W) (fun j u _ _ _ h => h) trivial rfl
      ·refine ⟨fun _ => ?_, fun h => absurd h (by decide)⟩
       intro L T W hG hJ hLs hLi dq fq vq K hK
       have h1 := vq ⟨29, .data⟩ (by simp) rfl 104 rfl
       simp only [loZ] at h1
       simp at h1
       obtain ⟨c0, c1, c2, c3, c4, c5, d0, d1, d2, d3⟩ := HC.out W hG
       go_simp
       exact hK _ _ (Below.refl _ W) (fun j u _ _ _ h => h) trivial rfl
      ·refine ⟨fun _ => ?_, fun h => absurd h (by decide)⟩
       intro L T W hG hJ hLs hLi dq fq vq K hK
       have h1 := fq 9 (by decide)
       simp at h1
       obtain ⟨c0, c1, c2, c3, c4, c5, d0, d1, d2, d3⟩ := HC.out W hG
       go_simp
       exact hK _ _ (Below.refl _ W) (fun j u _ _ _ h => h) trivial rfl
      ·refine ⟨fun _ => ?_, fun h => absurd h (by decide)⟩
       intro L T W hG hJ hLs hLi dq fq vq K hK
       have h1 := vq ⟨30, .data⟩ (by simp) rfl 105 rfl
       simp only [loZ] at h1
       have h2 := vq ⟨31, .data⟩ (by simp) rfl 106 rfl
       simp only [loZ] at h2
       simp at h1 h2
       go_simp
       exact hK _ _ (Below.refl _ W) (fun j u _ _ _ h => h) trivial rfl
      ·refine ⟨fun _ => ?_, fun h => absurd h (by decide)⟩
       intro L T W hG hJ hLs hLi dq fq vq K hK
       have h1 := vq ⟨28, .data⟩ (by simp) rfl 103 rfl
       simp only [loZ] at h1
       have h2 := vq ⟨32, .data⟩ (by simp) rfl 107 rfl
       simp only [loZ] at h2
       simp at h1 h2
       go_simp
       exact hK _ _ (Below.refl _ W) (fun j u _ _ _ h => h) trivial rfl
      ·refine ⟨fun _ => ?_, fun h => absurd h (by decide)⟩
       intro L T W hG hJ hLs hLi dq fq vq K hK
       have h1 := vq ⟨33, .data⟩ (by simp) rfl 108 rfl
       simp only [loZ] at h1
       simp at h1
       go_simp
       exact hK _ _ (Below.refl _ W) (fun j u _ _ _ h => h) trivial rfl
      ·refine ⟨fun _ => ?_, fun h => absurd h (by decide)⟩
       intro L T W hG hJ hLs hLi dq fq vq K hK
       go_simp
       refine (HKN.out W hG).mono ?_
       rintro e W2 ⟨rfl, hb2⟩
       exact hK _ _ hb2 (fun j u _ _ _ h => h) trivial rfl
      ·refine ⟨fun _ => ?_, fun h => absurd h (by decide)⟩
       intro L T W hG hJ hLs hLi dq fq vq K hK
       have h1 := vq ⟨34, .data⟩ (by simp) rfl 109 rfl
       simp only [loZ] at h1
       have h2 := vq ⟨35, .data⟩ (by simp) rfl 110 rfl
       simp only [loZ] at h2
       simp at h1 h2
       go_simp
       exact hK _ _ (Below.refl _ W) (fun j u _ _ _ h => h) trivial rfl
     ·intro f9 w9 hG hJe hR
      have e36 := hR 36 111 (by decide) rfl
      simp only [concDsts, List.take_succ_cons, List.take_zero, List.drop_succ_cons, List.drop_zero, List.filterMap_cons, List.filterMap_nil, List.foldl_cons, List.foldl_nil, List.setIfInBounds_toArray, List.set_cons_zero, List.set_cons_succ]
      simp only [loZ] at e36
      rw [e36]
      clear e36 hR
      generalize f9 75 = v75
      generalize f9 76 = v76
      generalize f9 77 = v77
      generalize f9 78 = v78
      generalize f9 79 = v79
      generalize f9 80 = v80
      generalize f9 81 = v81
      generalize f9 82 = v82
      generalize f9 83 = v83
      generalize f9 84 = v84
      generalize f9 85 = v85
      generalize f9 86 = v86
      generalize f9 87 = v87
      generalize f9 88 = v88
      generalize f9 89 = v89
      generalize f9 90 = v90
      generalize f9 91 = v91
      generalize f9 92 = v92
      generalize f9 93 = v93
      generalize f9 94 = v94
      generalize f9 95 = v95
      generalize f9 96 = v96
      generalize f9 97 = v97
      generalize f9 98 = v98
      generalize f9 99 = v99
      generalize f9 100 = v100
      generalize f9 101 = v101
      generalize f9 102 = v102
      generalize f9 103 = v103
      generalize f9 104 = v104
      generalize f9 105 = v105
      generalize f9 106 = v106
      generalize f9 107 = v107
      generalize f9 108 = v108
      generalize f9 109 = v109
      generalize f9 110 = v110
      clear f9
      have hbe := H7.out.trans (((show Below w7.heap.size w7 w7.drew from (Below.refl _ _).drew).trans hG).mono H7.out.size)
      clear hG hJe HC HKN
      go_wp2_with fail
      go_ret
      exact ⟨rfl, hbe⟩
end Go.Proofs.YthiochcpmfkgcaaGreatDoor.Gl
