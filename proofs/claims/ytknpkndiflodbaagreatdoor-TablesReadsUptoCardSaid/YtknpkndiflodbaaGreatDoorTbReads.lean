/-
  WALK of the law TablesReads.
-/
import Derived.Test.YtknpkndiflodbaaGreatDoorTbReadsM
import Derived.Test.YtknpkndiflodbaaGreatDoorTbMoved
set_option linter.unusedVariables false
set_option linter.unusedSimpArgs false
namespace Go.Proofs.YtknpkndiflodbaaGreatDoor.Tb
open Go Go.RowKit Go.Proofs Go.Maps Mx
theorem wd_test0 (M b q m : Nat) (hq : b / 64 = q) (hm : b % 64 = m) : ((wd M q / 2 ^ m).tmod 2 == 0) = !M.testBit b := by
  have h := wd_test M b q m hq hm
  have h2 : 0 ≤ wd M q / 2 ^ m := Int.ediv_nonneg (wd_range M q).1 (Int.pow_nonneg (by decide))
  rw [Int.tmod_eq_emod_of_nonneg h2] at h ⊢
  have h3 : wd M q / 2 ^ m % 2 = 0 ∨ wd M q / 2 ^ m % 2 = 1 := by omega
  rcases h3 with h3 | h3 <;> rw [h3] at h ⊢ <;> rw [← h] <;> rfl
/-- What is left of a slice of numbers behind its first one. -/
theorem sliceK_tail {D : Nat → Prop} {w : World} {a : Option Addr} {c x : Nat} {t : List Nat} (h : SliceK D encN 1 w (.slice a (t.length + 1) c) (x :: t)) :
    SliceK D encN 1 w (.slice (if c = 1 then a else a.map (·.add 1)) t.length (c - 1)) t := by
  obtain ⟨a', c', e, h1, h2, h3⟩ := h
  injection e with e1 _ e3
  subst e1
  subst e3
  simp only [List.length_cons] at h1
  refine ⟨_, c - 1, rfl, by omega, by omega, fun ht => ?_⟩
  obtain ⟨g, o, e, hD, hr⟩ := h3 (by simp)
  have hl : 1 ≤ t.length := by
    rcases Nat.eq_zero_or_pos t.length with h0 | h0
    · exact absurd (List.eq_nil_of_length_eq_zero h0) ht
    · exact h0
  rw [if_neg (by omega), e]
  refine ⟨g, o + 1, by simp [addr_add], hD, hr.lt, fun i y hy j u hu => ?_⟩
  have := hr.cells (i + 1) y (by simpa using hy) j u hu
  rw [show o + 1 + i * 1 + j = o + (i + 1) * 1 + j by omega]
  exact this
theorem sliceK_head {D : Nat → Prop} {w : World} {a : Option Addr} {n c x : Nat} {t : List Nat} (h : SliceK D encN 1 w (.slice a n c) (x :: t)) :
    n = t.length + 1 ∧ ∃ g o, a = some ⟨g, o, none⟩ ∧ g < w.heap.size ∧ w.cell? ⟨g, o, none⟩ = some (.int .i64 (x : Int)) := by
  obtain ⟨a', c', e, h1, h2, h3⟩ := h
  injection e with e1 e2 e3
  obtain ⟨g, o, e, hD, hr⟩ := h3 (by simp)
  refine ⟨by rw [e2]; simp, g, o, by rw [e1, e], hr.lt, ?_⟩
  have := hr.cells 0 x rfl 0 _ rfl
  simpa using this
theorem run_tail (w : World) (a : Option Addr) (n c : Nat) (hn : (1 : Int) ≤ (n : Int)) : (Instr.sliceAt 68 (.slice a n c) (some (.int .i64 1)) none none).run Tryz.prog w = .ok (.slice (if c = 1 then a else a.map (·.add 1)) (n - 1) (c - 1)) w := by
  obtain ⟨i0, hi, hz0, hz1, hz2⟩ := info_parts infoInt
  have hs : (sizeOf 3).run Tryz.prog w = .ok 1 w := by kernel_rfl
  have he : Tryz.prog.elem 68 = 3 := by kernel_rfl
  rw [run_sliceAt_slice w _ _ _ _ _ (by rw [he]; exact Tryz.underlying68), run_slice_l w _ _ _ _ (by rw [he]; exact Tryz.underlying68) .i64 1 (by omega) hn, he, hs]
  simp [Result.andThen, sliced]
set_option maxRecDepth 100000 in
set_option maxHeartbeats 16000000 in
theorem reads_law (g : Gr) (N : Nat) (hN : N ≤ 2000000) (w : World) (sv pv fv lv : Value) (hG : GramAt w N g sv pv fv lv) (hbru : Bru w) (hLB : LB ≤ w.heap.size) :
    Calls Tryz.prog 6 #[.agg #[sv, pv, .int .i64 g.start, fv, lv]] w fun e w' => e = .returned (.bool true) ∧ Below w.heap.size w w' := by
  obtain ⟨fa, fc, rfl⟩ := slice_shape hG.forbid
  obtain ⟨la, lc, rfl⟩ := slice_shape hG.follow
  obtain ⟨pa, pc, rfl⟩ := prodsAt_shape hG.prodsAt
  have hwks : ∀ W, Below w.heap.size w W → Calls Tryz.prog 8 #[] W fun e w' => e = .returned (.bool true) ∧ Below W.heap.size W w' := fun W h => works_any W (hbru.below h hLB) (Nat.le_trans hLB h.size)
  have hchk : ∀ W, Below w.heap.size w W → Calls Tryz.prog 14 #[.agg #[sv, .slice pa g.prods.length pc, .int .i64 g.start, .slice fa g.forbid.length fc, .slice la g.follow.length lc]] W fun e w' => e = .returned (.int .i64 (chkN g)) ∧ Below W.heap.size W w' := fun W h => check_any g N hN W _ _ _ _ (hG.keep h)
  have HE := Lib.hid (And.intro hG (And.intro hbru (And.intro hLB (And.intro hwks hchk))))
  have hvst := fun W h => vast_any g N hN W _ _ _ _ (hG.keep h)
  clear hG hbru hLB hwks hchk
  go_enter Tryz.func6, Tryz.ntmps6
  go_wp2_with fail
  have hB1 : Blk (w.alloc (.cells #[sv, .slice pa g.prods.length pc, .int .i64 g.start, .slice fa g.forbid.length fc, .slice la g.follow.length lc] 39)) w.heap.size 39 #[sv, .slice pa g.prods.length pc, .int .i64 g.start, .slice fa g.forbid.length fc, .slice la g.follow.length lc] := Blk.new _ _ _
  have hb1 : Below w.heap.size w (w.alloc (.cells #[sv, .slice pa g.prods.length pc, .int .i64 g.start, .slice fa g.forbid.length fc, .slice la g.follow.length lc] 39)) := (Below.refl _ w).alloc (Nat.le_refl _) _
  generalize (w.alloc (.cells #[sv, .slice pa g.prods.length pc, .int .i64 g.start, .slice fa g.forbid.length fc, .slice la g.follow.length lc] 39)) = w1 at hB1 hb1 ⊢
  refine (hvst w1 hb1).mono ?_
  rintro e w2 ⟨rfl, hb2⟩
  have A2 := Lib.hid (And.intro (hB1.below hb2 hB1.lt) (hb1.trans (hb2.mono hb1.size)))
  clear hB1 hb1 hb2 hvst
  cases hv : vastB g with
  | true =>
    go_wp2_with fail
    refine (HE.out.2.2.2.1 w2 A2.out.2).mono ?_
    rintro e w3 ⟨rfl, hb3⟩
    have A3 := Lib.hid (A2.out.2.trans (hb3.mono A2.out.2.size))
    clear hb3
    go_wp2_with fail
    go_ret
    exact ⟨rfl, A3.out⟩
  | false =>
    have HV := Lib.hid hv
    clear hv
    have g0 := A2.out.1.cell 0
    have g1 := A2.out.1.cell 1
    have g2 := A2.out.1.cell 2
    have g3 := A2.out.1.cell 3
    have g4 := A2.out.1.cell 4
    simp at g0 g1 g2 g3 g4
    go_wp2_with fail
    refine (HE.out.2.2.2.2 w2 A2.out.2).mono ?_
    rintro e w3 ⟨rfl, hb3⟩
    have A3 := Lib.hid (And.intro (A2.out.1.below hb3 A2.out.1.lt) (A2.out.2.trans (hb3.mono A2.out.2.size)))
    clear hb3 g0 g1 g2 g3 g4
    go_wp2_with fail
    refine (num_any (chkN g) w3).mono ?_
    rintro e w3 ⟨rfl, rfl⟩
    by_cases hc : chkN g = 0
    · have hgd := good_of HE.out.1 HV.out hc
      have g0 := A3.out.1.cell 0
      have g1 := A3.out.1.cell 1
      have g2 := A3.out.1.cell 2
      have g3 := A3.out.1.cell 3
      have g4 := A3.out.1.cell 4
      simp at g0 g1 g2 g3 g4
      have hGW := HE.out.1.keep A3.out.2
      have hmk := make_any (fun _ => True) g hgd w3 sv _ fa la g.forbid.length fc g.follow.length lc hGW.sorts hGW.prodsAt (fun W hW => by have := HE.out.2.2.2.2 W (A3.out.2.trans (hW.mono A3.out.2.size)); rw [hc] at this; exact this) (HE.out.2.1.below A3.out.2 HE.out.2.2.1) (Nat.le_trans HE.out.2.2.1 A3.out.2.size)
      rw [hc]
      have HC := Lib.hid (And.intro hc hgd)
      clear hGW hc hgd
      go_wp2_with fail
      refine hmk.mono ?_
      clear hmk g0 g1 g2 g3 g4
      rintro e w4 hcase
      rcases hcase with ⟨tb, B, sm, h1, rfl, hT, hnx, hb4⟩ | ⟨_, rfl, hb4⟩
      · have A4 := Lib.hid (And.intro (A3.out.1.below hb4 A3.out.1.lt) (And.intro (A3.out.2.trans (hb4.mono A3.out.2.size)) (And.intro (show TabP g B (.pointer (some ⟨tb, 0, none⟩)) sm w4 from .inr ⟨tb, rfl, hT⟩) (And.intro (makeF_law h1) (And.intro hT.many hnx)))))
        clear hb4 hT h1 hnx
        go_wp2_with fail
        refine (num_any 0 w4).mono ?_
        rintro e w4 ⟨rfl, rfl⟩
        go_wp2_with fail
        refine (states_any g B _ sm w4 A4.out.2.2.1).mono ?_
        rintro e w4 ⟨rfl, rfl⟩
        by_cases h300 : 300 < sm.length
        · have hd : (300 : Int) < (sm.length : Int) := by omega
          go_wp2_with fail
          refine (num_any 0 w4).mono ?_
          rintro e w4 ⟨rfl, rfl⟩
          go_wp2_with fail
          refine (HE.out.2.2.2.1 w4 A4.out.2.1).mono ?_
          rintro e w5 ⟨rfl, hb5⟩
          have A5 := Lib.hid (A4.out.2.1.trans (hb5.mono A4.out.2.1.size))
          clear hb5
          go_wp2_with fail
          go_ret
          exact ⟨rfl, A5.out⟩
        · have hd : decide ((300 : Int) < (sm.length : Int)) = false := decide_eq_false (by omega)
          go_wp2_with fail
          go_loopg [5] sm.length (fun m v5 wr => ∃ n : Nat, n ≤ sm.length ∧ m = sm.length - n ∧ v5 = .int .i64 n ∧ TabP g B (.pointer (some ⟨tb, 0, none⟩)) sm wr ∧ Blk wr w.heap.size 39 #[sv, .slice pa g.prods.length pc, .int .i64 g.start, .slice fa g.forbid.length fc, .slice la g.follow.length lc] ∧ Below w.heap.size w wr)
          case atStart => exact ⟨0, by omega, rfl, rfl, A4.out.2.2.1, A4.out.1, A4.out.2.1⟩
          case round =>
            obtain ⟨n, hn, hm, rfl, hT, hB, hb⟩ := hrel
            have hst := states_any g B _ sm wr hT
            have A := Lib.hid (And.intro hm (And.intro hT (And.intro hB hb)))
            clear hm hT hB hb
            go_wp2_with fail
            refine hst.mono ?_
            rintro e wr ⟨rfl, rfl⟩
            clear hst
            by_cases hnL : n < sm.length
            · have hnL1 : (n : Int) < (sm.length : Int) := by omega
              go_wp2_with fail
              refine (items_any g B _ sm n wr A.out.2.1).mono ?_
              rintro e w7 ⟨v6, rfl, hv6, hb7⟩
              obtain ⟨ia, ic, rfl⟩ := own_shape hv6
              have hic : (stAt sm n).items.length ≤ 10000 := (A.out.2.1.at_ n).len
              have hIt := own_sliceK encIt_len hv6
              have A7 := Lib.hid (And.intro hIt hb7)
              clear hv6 hb7 hIt
              have hdl : (stAt sm n).done.length ≤ (stAt sm n).items.length := by rw [reads_done A4.out.2.2.2.1 hnL]; unfold doneF; rw [List.length_map]; exact List.length_filter_le _ _
              have hrd := reduces_any g B _ sm n w7 (A.out.2.1.below A7.out.2) (by omega)
              go_wp2_with fail
              refine hrd.mono ?_
              rintro e w8 ⟨v7, rfl, hv7, hb8⟩
              obtain ⟨da, dc, rfl⟩ := own_shape hv7
              have hDo := (own_sliceK encN_len hv7).imp (D' := fun _ => True) fun _ _ _ => trivial
              have hel := A4.out.2.2.2.1.state
              have A8 := Lib.hid (And.intro (A7.out.1.keep (D' := fun _ => True) fun q hq hl => ⟨trivial, hb8.block q hl⟩) (And.intro hDo (A7.out.2.trans (hb8.mono A7.out.2.size))))
              clear hv7 hb8 hDo hrd hdl hel
              go_wp2_with fail
              obtain ⟨wo, rfl⟩ : ∃ wo : World, wo = wr := ⟨_, rfl⟩
              have hdone := reads_done A4.out.2.2.2.1 hnL
              have HD := Lib.hid hdone
              go_loopg [7, 8] (stAt sm n).items.length (fun m v7 v8 wx => ∃ i : Nat, i ≤ (stAt sm n).items.length ∧ m = (stAt sm n).items.length - i ∧ v8 = .int .i64 i ∧ SliceK (fun _ => True) encN 1 wx v7 (doneF g ((stAt sm n).items.drop i)) ∧ Below w8.heap.size w8 wx)
              case atStart => exact ⟨0, by omega, rfl, rfl, by rw [List.drop_zero, ← HD.out]; exact A8.out.2.1, Below.refl _ _⟩
              case round =>
                obtain ⟨i, hi, hm, rfl, hdn, hbx⟩ := hrel
                clear hdone
                have hbox : Below wo.heap.size wo wr := A8.out.2.2.trans (hbx.mono A8.out.2.2.size)
                by_cases hil : i < (stAt sm n).items.length
                · obtain ⟨⟨pn, d⟩, hx⟩ : ∃ x, (stAt sm n).items[i]? = some x := ⟨_, List.getElem?_eq_getElem hil⟩
                  have hok := (A.out.2.1.at_ n).ok _ (List.mem_of_getElem? hx)
                  have hok2 := (itemOk_iff g (pn, d)).1 hok
                  obtain ⟨p, hp⟩ : ∃ p, g.prods[pn]? = some p := ⟨_, List.getElem?_eq_getElem hok2.1⟩
                  obtain ⟨cap, pb, po, vr, epv, hbl, hvr, hpc⟩ := HE.out.1.prodsAt.at_ hp
                  injection epv with e1 e2 e3
                  subst e1
                  subst e3
                  obtain ⟨ra, rc, rfl, hrc1, hrc2, hrk⟩ := hvr
                  have hrr : rightOf g pn = p.right := by unfold rightOf; rw [hp]; rfl
                  have hd : d ≤ p.right.length := by have := hok2.2; simp only at this; rw [hrr] at this; exact this
                  have hah : aheadF g (pn, d) = p.right[d]? := by unfold aheadF; rw [hrr]
                  have hrl := HC.out.2.right p (List.mem_of_getElem? hp)
                  have hpl := HC.out.2.prods
                  obtain ⟨ia2, ic2, ei, _, _, hk1⟩ := A8.out.1
                  injection ei with ei1 _ ei3
                  subst ei1
                  subst ei3
                  obtain ⟨kg, ko, rfl, _, hkr⟩ := hk1 (by rintro h; rw [h] at hil; simp at hil)
                  have hbw : Below w.heap.size w wr := A.out.2.2.2.trans (hbox.mono A.out.2.2.2.size)
                  have HU := Lib.hid (show ∀ W, Below wr.heap.size wr W → W.cell? ⟨kg, ko + i * 2, none⟩ = some (.int .i64 pn) ∧ W.cell? ⟨kg, ko + i * 2 + 1, none⟩ = some (.int .i64 d) ∧ W.cell? ⟨pb, po + pn * 7 + 1, none⟩ = some (.slice ra p.right.length rc) from fun W h => by
                    have k0 := hkr.cells i _ hx 0 _ rfl
                    have k1 := hkr.cells i _ hx 1 _ rfl
                    have f1 := hpc 1 _ rfl
                    simp only [Nat.add_zero] at k0
                    have b1 : Below w8.heap.size w8 W := hbx.trans (h.mono hbx.size)
                    have b2 : Below w.heap.size w W := hbw.trans (h.mono hbw.size)
                    exact ⟨(World.cell?_of_block (b1.block kg hkr.lt)).trans k0, (World.cell?_of_block (b1.block kg hkr.lt)).trans k1, (World.cell?_of_block (b2.block pb hbl)).trans f1⟩)
                  have HRt := Lib.hid (show ∀ y, p.right[d]? = some y → ∃ rb ro, ra = some ⟨rb, ro, none⟩ ∧ ∀ W, Below wr.heap.size wr W → W.cell? ⟨rb, ro + d * 6, none⟩ = some (.int .i64 y.kind) ∧ W.cell? ⟨rb, ro + d * 6 + 1, none⟩ = some (.int .u64 (wd y.set 0)) ∧ W.cell? ⟨rb, ro + d * 6 + 2, none⟩ = some (.int .u64 (wd y.set 1)) ∧ W.cell? ⟨rb, ro + d * 6 + 3, none⟩ = some (.int .u64 (wd y.set 2)) ∧ W.cell? ⟨rb, ro + d * 6 + 4, none⟩ = some (.int .u64 (wd y.set 3)) ∧ W.cell? ⟨rb, ro + d * 6 + 5, none⟩ = some (.int .i64 y.sort) from fun y hy => by
                    obtain ⟨rb, ro, e, hD, hrr⟩ := hrk (by rintro h; rw [h] at hy; simp at hy)
                    refine ⟨rb, ro, e, fun W h => ?_⟩
                    have b2 : Below w.heap.size w W := hbw.trans (h.mono hbw.size)
                    have k0 := hrr.cells d _ hy 0 _ rfl
                    simp only [Nat.add_zero] at k0
                    have up : ∀ {i : Nat} {u : Value}, w.cell? ⟨rb, i, none⟩ = some u → W.cell? ⟨rb, i, none⟩ = some u := fun h => (World.cell?_of_block (b2.block rb hrr.lt)).trans h
                    exact ⟨up k0, up (hrr.cells d _ hy 1 _ rfl), up (hrr.cells d _ hy 2 _ rfl), up (hrr.cells d _ hy 3 _ rfl), up (hrr.cells d _ hy 4 _ rfl), up (hrr.cells d _ hy 5 _ rfl)⟩)
                  have hsym := HC.out.2.sym p (List.mem_of_getElem? hp)
                  have hgB := A.out.2.2.1.below hbox A.out.2.2.1.lt
                  have hTr := A.out.2.1.below hbox
                  have R := Lib.hid (And.intro hm (And.intro hdn (And.intro hbx (And.intro hbw (And.intro hgB (And.intro hTr (And.intro hx (And.intro hah (And.intro hsym (And.intro hok (And.intro hrr hp)))))))))))
                  have hPr : ProdsAt (fun _ => True) wr.drew (.slice (some ⟨pb, po, none⟩) g.prods.length pc) g.prods := HE.out.1.prodsAt.keep fun q hq hl => ⟨hq, hbw.block q hl⟩
                  have hst := stands_ok (fun _ => True) g (by omega) pn d hok wr.drew sv _ (.slice fa g.forbid.length fc) (.slice la g.follow.length lc) hPr
                  obtain ⟨k0, k1, f1⟩ := HU.out wr (Below.refl _ _)
                  have q0 := hgB.cell 0
                  have q1 := hgB.cell 1
                  have q2 := hgB.cell 2
                  have q3 := hgB.cell 3
                  have q4 := hgB.cell 4
                  simp at q0 q1 q2 q3 q4
                  have hi0 : (0 : Int) ≤ (i : Int) := by omega
                  have hi1 : (i : Int) < ((stAt sm n).items.length : Int) := by omega
                  have hn0 : (0 : Int) ≤ (pn : Int) := by omega
                  have hn1 : (pn : Int) < (g.prods.length : Int) := by have := hok2.1; simp only at this; omega
                  have hd0 : (0 : Int) ≤ (d : Int) := by omega
                  clear hm hdn hbx hbw hgB hTr hx hah hsym hok hrr hp hPr hkr hrk hpc hok2 hk1 hbox e2
                  go_upto_region 14 with fail
                  obtain ⟨wt, rfl⟩ : ∃ wt : World, wt = wr := ⟨_, rfl⟩
                  go_still_tail 5, (by kernel_rfl)
                  repeat still_step
                  try refine wpStill_nil ?_
                  change wpList _ _ _ _ _ wt.drew
                  go_wp2_with fail
                  refine hst.mono ?_
                  rintro e w10 ⟨rfl, hb10⟩
                  have hb10 : Below wt.heap.size wt w10 := (show Below wt.heap.size wt wt.drew from (Below.refl _ _).drew).trans hb10
                  obtain ⟨k0, k1, f1⟩ := HU.out w10 hb10
                  have hg10 := R.out.2.2.2.2.1.below hb10 R.out.2.2.2.2.1.lt
                  have q1 := hg10.cell 1
                  simp at q1
                  have A10 := Lib.hid hb10
                  clear hb10 hg10 hst q0 q2 q3 q4
                  go_upto_region 16 with fail
                  go_quiet (fail)
                  go_upto_region 17 with fail
                  generalize hw11 : World.drewN w10 _ = w11
                  obtain ⟨nq, hw11⟩ : ∃ nq, World.drewN w10 nq = w11 := ⟨_, hw11⟩
                  have hb11 := below_drewN A10.out nq
                  rw [hw11] at hb11
                  obtain ⟨k0, k1, f1⟩ := HU.out w11 hb11
                  have A11 := Lib.hid hb11
                  clear hb11 hw11 f1 q1
                  by_cases hdl : d = p.right.length
                  · have hdrop : doneF g ((stAt sm n).items.drop i) = pn :: doneF g ((stAt sm n).items.drop (i + 1)) := by
                      rw [List.drop_eq_getElem_cons hil, doneF_cons]
                      have h1 : (stAt sm n).items[i] = (pn, d) := by have := R.out.2.2.2.2.2.2.1; rw [List.getElem?_eq_getElem hil] at this; exact Option.some.inj this
                      rw [h1, if_pos (by rw [R.out.2.2.2.2.2.2.2.2.2.2.1]; exact hdl)]
                    have hd11 := R.out.2.1.all A11.out
                    rw [hdrop] at hd11
                    obtain ⟨T, hT⟩ : ∃ T, doneF g ((stAt sm n).items.drop (i + 1)) = T := ⟨_, rfl⟩
                    rw [hT] at hd11
                    obtain ⟨da2, dc2, rfl⟩ := slice_shape hd11
                    rw [List.length_cons] at hd11 ⊢
                    obtain ⟨_, dg, do_, rfl, hdgl, hdc⟩ := sliceK_head hd11
                    have htl := sliceK_tail hd11
                    obtain ⟨tl, htl2⟩ : ∃ tl, T.length = tl := ⟨_, rfl⟩
                    rw [htl2] at hd11 htl ⊢
                    have hsl := fun W => run_tail W (some ⟨dg, do_, none⟩) (tl + 1) dc2 (by omega)
                    obtain ⟨V, hV⟩ : ∃ V, (Value.slice (if dc2 = 1 then some (⟨dg, do_, none⟩ : Addr) else (some (⟨dg, do_, none⟩ : Addr)).map (·.add 1)) (tl + 1 - 1) (dc2 - 1)) = V := ⟨_, rfl⟩
                    rw [hV] at hsl
                    rw [show tl = tl + 1 - 1 by omega, hV] at htl
                    have hz : ((tl : Int) + 1 == 0) = false := by simp; omega
                    have X := Lib.hid (And.intro htl hT)
                    have hdl1 : (d : Int) = (p.right.length : Int) := by omega
                    clear htl hT hd11 htl2 hdrop hV hdl
                    go_upto_region 18 with fail
                    go_quiet (fail)
                    go_wp2_with fail
                    go_roundg ((stAt sm n).items.length - (i + 1))
                    case measure => have := R.out.1; omega
                    case rel =>
                      refine ⟨i + 1, by omega, rfl, rfl, ?_, below_drewN (R.out.2.2.1.trans (A11.out.mono R.out.2.2.1.size)) _⟩
                      rw [X.out.2]
                      exact X.out.1.keep fun q hq _ => ⟨hq, rfl⟩
                  · have hdlt : d < p.right.length := by omega
                    obtain ⟨y, hy⟩ : ∃ y, p.right[d]? = some y := ⟨_, List.getElem?_eq_getElem hdlt⟩
                    have hdrop : doneF g ((stAt sm n).items.drop i) = doneF g ((stAt sm n).items.drop (i + 1)) := by
                      rw [List.drop_eq_getElem_cons hil, doneF_cons]
                      have h1 : (stAt sm n).items[i] = (pn, d) := by have := R.out.2.2.2.2.2.2.1; rw [List.getElem?_eq_getElem hil] at this; exact Option.some.inj this
                      rw [h1, if_neg (by rw [R.out.2.2.2.2.2.2.2.2.2.2.1]; exact hdl)]
                    have hya : aheadF g (pn, d) = some y := R.out.2.2.2.2.2.2.2.1.trans hy
                    have hysy := R.out.2.2.2.2.2.2.2.2.1 y (List.mem_of_getElem? hy)
                    obtain ⟨rb, ro, rfl, hrr⟩ := HRt.out y hy
                    have hel := edges_len HC.out.2 A4.out.2.2.2.1 hnL
                    have hd1 : (d : Int) < (p.right.length : Int) := by omega
                    have hdl1 : decide ((d : Int) = (p.right.length : Int)) = false := decide_eq_false (by omega)
                    have hdl2 : ((d : Int) == (p.right.length : Int)) = false := hdl1
                    have X := Lib.hid (And.intro hdrop (And.intro hya (And.intro hysy (And.intro hrr hel))))
                    clear hdrop hya hysy hrr hel hdl hdlt hy
                    go_wp2_with fail
                    go_loopg [10] 256 (fun m v10 wx => ∃ b : Nat, b ≤ 256 ∧ m = 256 - b ∧ v10 = .int .i64 (b : Int) ∧ Below w11.heap.size w11 wx)
                    case atStart => exact ⟨0, by omega, rfl, rfl, Below.refl _ _⟩
                    case round =>
                      obtain ⟨b, hb, hm, rfl, hbx⟩ := hrel
                      have hbo : Below wt.heap.size wt wr := A11.out.trans (hbx.mono A11.out.size)
                      obtain ⟨k0, k1, f1⟩ := HU.out wr hbo
                      obtain ⟨r0, r1, r2, r3, r4, r5⟩ := X.out.2.2.2.1 wr hbo
                      have hTb := R.out.2.2.2.2.2.1.below hbo
                      have Bh := Lib.hid (And.intro hm (And.intro hbx (And.intro hbo hTb)))
                      clear hm hbx hbo hTb f1
                      by_cases hb256 : b < 256
                      · have hbl : (b : Int) < 256 := by omega
                        have hb0 : (0 : Int) ≤ (b : Int) := by omega
                        rcases X.out.2.2.1 with ⟨hk, hso, _, hset⟩ | ⟨hk, _, _, _⟩
                        · have HK := Lib.hid hk
                          rw [hk] at r0
                          obtain ⟨q, hq⟩ : ∃ q : Nat, b / 64 = q := ⟨_, rfl⟩
                          obtain ⟨m, hm⟩ : ∃ m : Nat, b % 64 = m := ⟨_, rfl⟩
                          have hq' : (b : Int) / 64 = (q : Int) := by omega
                          have hm' : (b : Int) % 64 = (m : Int) := by omega
                          have hm64 : (m : Int) < 64 := by omega
                          have hm0 : (0 : Int) ≤ (m : Int) := by omega
                          have hq0 : (0 : Int) ≤ (q : Int) := by omega
                          have hq4 : (q : Int) < 4 := by omega
                          have hqn : q < 4 := by omega
                          have rq : wr.cell? ⟨rb, ro + d * 6 + 1 + q, none⟩ = some (.int .u64 (wd y.set q)) := by
                            match q, hqn with
                            | 0, _ => exact r1
                            | 1, _ => exact r2
                            | 2, _ => exact r3
                            | 3, _ => exact r4
                          have wq := wd_range y.set q
                          have HT := wd_test0 y.set b q m hq hm
                          have HQ := Lib.hid (And.intro hq (And.intro hm hqn))
                          obtain ⟨bt, hbt⟩ : ∃ bt, (!y.set.testBit b) = bt := ⟨_, rfl⟩
                          rw [hbt] at HT
                          have HBT := Lib.hid hbt
                          clear hk hso hset r1 r2 r3 r4 r5 hq hm hbt
                          go_upto_region 24 with fail
                          go_cut [139] from 111 to 139 (fun s139 wx => s139 = .bool bt ∧ wr = wx)
                          case first =>
                            go_wp2_with fail
                            go_meet
                            exact ⟨rfl, rfl⟩
                          case rest =>
                            obtain ⟨rfl, rfl⟩ := hcut
                            clear HT wq rq r0
                            cases bt with
                            | true =>
                              go_wp2_with fail
                              go_roundg (256 - (b + 1))
                              case measure => have := Bh.out.1; omega
                              case rel => exact ⟨b + 1, by omega, rfl, rfl, Bh.out.2.1⟩
                            | false =>
                              have hbit : y.set.testBit b = true := by simpa using HBT.out
                              obtain ⟨⟨tq, hto1, hto2, hto3⟩, hnb⟩ := reads_byte HC.out.2 A4.out.2.2.2.1 hnL (List.mem_of_getElem? R.out.2.2.2.2.2.2.1) X.out.2.1 HK.out hbit
                              have hsh := shift_any g B _ sm n b hb256 wr Bh.out.2.2.2 (by have := X.out.2.2.2.2; omega)
                              rw [hto2] at hsh
                              have hmv := fun W h => moved_ok g B (.pointer (some ⟨tb, 0, none⟩)) sm tq pn d (by omega) W h hto3
                              have hnx : (stAt sm n).next = nextF (stAt sm n).edges := by
                                obtain ⟨s, hs⟩ : ∃ s, sm[n]? = some s := ⟨_, List.getElem?_eq_getElem hnL⟩
                                rw [stAt_in hs]; exact A4.out.2.2.2.2.2 s (List.mem_of_getElem? hs)
                              obtain ⟨M, hM⟩ : ∃ M, (stAt sm n).next = M := ⟨_, rfl⟩
                              have hnext := fun W h => next_any g B (.pointer (some ⟨tb, 0, none⟩)) sm n W h
                              rw [hM] at hnext
                              have HT2 := wd_test0 M b q m HQ.out.1 HQ.out.2.1
                              have hMb : M.testBit b = true := by rw [← hM, hnx]; exact hnb
                              rw [hMb] at HT2
                              unfold setV at hnext
                              have wq2 := wd_range M q
                              have xq : ∀ W, (Instr.index 26 (.agg #[.int .u64 (wd M 0), .int .u64 (wd M 1), .int .u64 (wd M 2), .int .u64 (wd M 3)]) (.int .i64 (q : Int))).run Tryz.prog W = .ok (.int .u64 (wd M q)) W := fun W => by
                                have hqn := HQ.out.2.2
                                match q, hqn with
                                | 0, _ => exact ix0 _ _ _ _ W
                                | 1, _ => exact ix1 _ _ _ _ W
                                | 2, _ => exact ix2 _ _ _ _ W
                                | 3, _ => exact ix3 _ _ _ _ W
                              clear hbit hto1 hto2 hto3 hnb hnx hM hMb
                              go_wp2_with fail
                              refine hsh.mono ?_
                              rintro e w13 ⟨rfl, hb13⟩
                              have C := Lib.hid (And.intro (Bh.out.2.2.1.trans (hb13.mono Bh.out.2.2.1.size)) (And.intro (Bh.out.2.2.2.below hb13) (Bh.out.2.1.trans (hb13.mono Bh.out.2.1.size))))
                              clear hb13 hsh k0 k1
                              go_wp2_with fail
                              refine (hnext w13 C.out.2.1).mono ?_
                              rintro e w14 ⟨rfl, hb14⟩
                              have C4 := Lib.hid (And.intro (C.out.1.trans (hb14.mono C.out.1.size)) (And.intro (C.out.2.1.below hb14) (C.out.2.2.trans (hb14.mono C.out.2.2.size))))
                              obtain ⟨k0, k1, f1⟩ := HU.out w14 C4.out.1
                              clear hb14 hnext
                              go_wp2_with fail
                              refine (hmv w14 C4.out.2.1).mono ?_
                              rintro e w15 ⟨rfl, hb15⟩
                              have C5 := Lib.hid (C4.out.2.2.trans (hb15.mono C4.out.2.2.size))
                              clear hb15 hmv
                              go_wp2_with fail
                              go_roundg (256 - (b + 1))
                              case measure => have := Bh.out.1; omega
                              case rel => exact ⟨b + 1, by omega, rfl, rfl, C5.out⟩
                        · rw [hk] at r0
                          clear hk
                          go_wp2_with fail
                          go_roundg (256 - (b + 1))
                          case measure => have := Bh.out.1; omega
                          case rel => exact ⟨b + 1, by omega, rfl, rfl, Bh.out.2.1⟩
                      · obtain rfl : b = 256 := by omega
                        rcases X.out.2.2.1 with ⟨hk, hso, _, hset⟩ | ⟨hk, _, _, _⟩
                        · rw [hk] at r0
                          clear hk hso hset
                          go_wp2_with fail
                          go_roundg ((stAt sm n).items.length - (i + 1))
                          case measure => have := R.out.1; omega
                          case rel => exact ⟨i + 1, by omega, rfl, rfl, by rw [← X.out.1]; exact R.out.2.1.all Bh.out.2.2.1, R.out.2.2.1.trans (Bh.out.2.2.1.mono R.out.2.2.1.size)⟩
                        · have hrs := reads_sort A4.out.2.2.2.1 hnL (List.mem_of_getElem? R.out.2.2.2.2.2.2.1) X.out.2.1 hk
                          obtain ⟨tq, hto1, hto2, hto3⟩ := hrs
                          have hgo := goto_any g B _ sm n y.sort wr Bh.out.2.2.2 (by have := X.out.2.2.2.2; omega)
                          rw [hto2] at hgo
                          have hmv := fun W h => moved_ok g B (.pointer (some ⟨tb, 0, none⟩)) sm tq pn d (by omega) W h hto3
                          rw [hk] at r0
                          clear hk hto1 hto2 hto3
                          go_wp2_with fail
                          refine hgo.mono ?_
                          rintro e w13 ⟨rfl, hb13⟩
                          have C := Lib.hid (And.intro (Bh.out.2.2.1.trans (hb13.mono Bh.out.2.2.1.size)) (Bh.out.2.2.2.below hb13))
                          obtain ⟨k0, k1, f1⟩ := HU.out w13 C.out.1
                          clear hb13 hgo r0 r1 r2 r3 r4 r5
                          go_wp2_with fail
                          refine (hmv w13 C.out.2).mono ?_
                          rintro e w14 ⟨rfl, hb14⟩
                          have C4 := Lib.hid (C.out.1.trans (hb14.mono C.out.1.size))
                          clear hb14 hmv
                          go_wp2_with fail
                          go_roundg ((stAt sm n).items.length - (i + 1))
                          case measure => have := R.out.1; omega
                          case rel => exact ⟨i + 1, by omega, rfl, rfl, by rw [← X.out.1]; exact R.out.2.1.all C4.out, R.out.2.2.1.trans (C4.out.mono R.out.2.2.1.size)⟩
                · obtain rfl : i = (stAt sm n).items.length := by omega
                  have hdz : doneF g ((stAt sm n).items.drop (stAt sm n).items.length) = [] := by rw [List.drop_length]; rfl
                  rw [hdz] at hdn
                  obtain ⟨da3, dc3, rfl, _⟩ := hdn
                  have AX := Lib.hid (And.intro (A.out.2.1.below hbox) (And.intro (A.out.2.2.1.below hbox A.out.2.2.1.lt) (A.out.2.2.2.trans (hbox.mono A.out.2.2.2.size))))
                  clear hbox hbx hm hdz
                  go_wp2_with fail
                  go_roundg (sm.length - (n + 1))
                  case measure => have := A.out.1; omega
                  case rel => exact ⟨n + 1, by omega, rfl, rfl, AX.out.1, AX.out.2.1, AX.out.2.2⟩
            · obtain rfl : n = sm.length := by omega
              go_wp2_with fail
              refine (HE.out.2.2.2.1 wr A.out.2.2.2).mono ?_
              rintro e w6 ⟨rfl, hb6⟩
              have A6 := Lib.hid (A.out.2.2.2.trans (hb6.mono A.out.2.2.2.size))
              clear hb6
              go_wp2_with fail
              go_ret
              exact ⟨rfl, A6.out⟩
      · have A4 := Lib.hid (A3.out.2.trans (hb4.mono A3.out.2.size))
        clear hb4
        go_wp2_with fail
        refine (num_any 3 w4).mono ?_
        rintro e w4 ⟨rfl, rfl⟩
        go_wp2_with fail
        refine (num_any 3 w4).mono ?_
        rintro e w4 ⟨rfl, rfl⟩
        go_wp2_with fail
        refine (num_any 3 w4).mono ?_
        rintro e w4 ⟨rfl, rfl⟩
        go_wp2_with fail
        refine (HE.out.2.2.2.1 w4 A4.out).mono ?_
        rintro e w5 ⟨rfl, hb5⟩
        have A5 := Lib.hid (A4.out.trans (hb5.mono A4.out.size))
        clear hb5
        go_wp2_with fail
        go_ret
        exact ⟨rfl, A5.out⟩
    · have hd : (chkN g != 0) = true := by simpa using hc
      have hd2 : decide (chkN g = 0) = false := decide_eq_false hc
      go_wp2_with fail
      refine (HE.out.2.2.2.1 w3 A3.out.2).mono ?_
      rintro e w4 ⟨rfl, hb4⟩
      have A4 := Lib.hid (A3.out.2.trans (hb4.mono A3.out.2.size))
      clear hb4
      go_wp2_with fail
      go_ret
      exact ⟨rfl, A4.out⟩
end Go.Proofs.YtknpkndiflodbaaGreatDoor.Tb
