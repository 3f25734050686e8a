/-
  WALK of the law TablesRuns.
-/
import Derived.Test.YtknpkndiflodbaaGreatDoorTbRun
import Derived.Test.YtknpkndiflodbaaGreatDoorTbItems
set_option linter.unusedVariables false
set_option linter.unusedSimpArgs false
namespace Go.Proofs.YtknpkndiflodbaaGreatDoor.Tb
open Go Go.RowKit Go.Proofs Go.Maps Mx
theorem tree_of {g : Gr} {t : Tr} (h : treeB g t = true) : ∃ p q, TreeOf g t p q := by
  unfold treeB at h
  simp only [Bool.and_eq_true, decide_eq_true_eq] at h
  obtain ⟨h1, h2⟩ := h
  cases hq : g.prods[t.prod.toNat]? with
  | none => rw [hq] at h2; cases h2
  | some q =>
    rw [hq] at h2
    obtain ⟨p, q2, e1, e2, _, e3, e4⟩ := fits_sort_out h2 (by show (1 : Int) ≠ 0; decide)
    exact ⟨p, q2, e1, e2, e3, e4⟩
set_option maxRecDepth 100000 in
set_option maxHeartbeats 16000000 in
theorem runs_law (g : Gr) (N : Nat) (hN : N ≤ 2000000) (w : World) (sv pv fv lv : Value) (hG : GramAt w N g sv pv fv lv) (x : Tr) (hx : TrOk w x) (hbru : Bru w) (hLB : LB ≤ w.heap.size) :
    Calls Tryz.prog 7 #[.agg #[sv, pv, .int .i64 g.start, fv, lv], trV x] w fun e w' => e = .returned (.bool true) ∧ Below w.heap.size w w' := by
  obtain ⟨fa, fc, rfl⟩ := slice_shape hG.forbid
  obtain ⟨la, lc, rfl⟩ := slice_shape hG.follow
  obtain ⟨pa, pc, rfl⟩ := prodsAt_shape hG.prodsAt
  obtain ⟨ta, tc, hkv⟩ := tslice_shape hx.out.2.2.1
  have hwks : ∀ W, Below w.heap.size w W → Calls Tryz.prog 8 #[] W fun e w' => e = .returned (.bool true) ∧ Below W.heap.size W w' := fun W h => works_any W (hbru.below h hLB) (Nat.le_trans hLB h.size)
  have hchk : ∀ W, Below w.heap.size w W → Calls Tryz.prog 14 #[.agg #[sv, .slice pa g.prods.length pc, .int .i64 g.start, .slice fa g.forbid.length fc, .slice la g.follow.length lc]] W fun e w' => e = .returned (.int .i64 (chkN g)) ∧ Below W.heap.size W w' := fun W h => check_any g N hN W _ _ _ _ (hG.keep h)
  have hsz : ∀ W, Below w.heap.size w W → Calls Tryz.prog 27 #[trV x, .int .i64 300] W fun e w' => e = .returned (.int .i64 ((min (nodes x) 301 : Nat) : Int)) ∧ Below W.heap.size W w' := fun W h => size_any 300 x W (by omega) (hx.lower h)
  have hct : ∀ W, nodes x ≤ 300 → Below w.heap.size w W → Calls Tryz.prog 28 #[.agg #[sv, .slice pa g.prods.length pc, .int .i64 g.start, .slice fa g.forbid.length fc, .slice la g.follow.length lc], trV x] W fun e w' => e = .returned (.int .i64 (ctN g x)) ∧ Below W.heap.size W w' := fun W hn h => ctree_any g N hN W _ _ _ _ (hG.keep h) x (hx.lower h) hn
  have htv : ∃ v, trV x = v := ⟨_, rfl⟩
  have HX := Lib.hid (And.intro hx hkv)
  unfold trV at hsz hct ⊢
  obtain ⟨tl, htl⟩ : ∃ n, x.kids.length = n := ⟨_, rfl⟩
  rw [htl] at hkv
  rw [hkv] at hsz hct ⊢
  have HE := Lib.hid (And.intro hG (And.intro hbru (And.intro hLB (And.intro hwks (And.intro hchk (And.intro hct (And.intro hsz (And.intro hkv hx))))))))
  have hvst := fun W h => vast_any g N hN W _ _ _ _ (hG.keep h)
  clear hG hbru hLB hwks hchk hct hkv hx htl htv HX hsz
  go_enter Tryz.func7, Tryz.ntmps7
  go_wp2_with fail
  have hB0 : Blk ((w.alloc (.cells #[sv, .slice pa g.prods.length pc, .int .i64 g.start, .slice fa g.forbid.length fc, .slice la g.follow.length lc] 39)).alloc (.cells #[.int .i64 x.prod, .int .u8 (x.byte : Int), .slice ta tl tc] 76)) w.heap.size 39 #[sv, .slice pa g.prods.length pc, .int .i64 g.start, .slice fa g.forbid.length fc, .slice la g.follow.length lc] := (Blk.new _ _ _).alloc _
  have hB1 : Blk ((w.alloc (.cells #[sv, .slice pa g.prods.length pc, .int .i64 g.start, .slice fa g.forbid.length fc, .slice la g.follow.length lc] 39)).alloc (.cells #[.int .i64 x.prod, .int .u8 (x.byte : Int), .slice ta tl tc] 76)) (w.heap.size + 1) 76 #[.int .i64 x.prod, .int .u8 (x.byte : Int), .slice ta tl tc] := Blk.new_ (by simp) _ _
  have hb1 : Below w.heap.size w ((w.alloc (.cells #[sv, .slice pa g.prods.length pc, .int .i64 g.start, .slice fa g.forbid.length fc, .slice la g.follow.length lc] 39)).alloc (.cells #[.int .i64 x.prod, .int .u8 (x.byte : Int), .slice ta tl tc] 76)) := ((Below.refl w.heap.size w).alloc (Nat.le_refl _) _).alloc (by simp) _
  generalize ((w.alloc (.cells #[sv, .slice pa g.prods.length pc, .int .i64 g.start, .slice fa g.forbid.length fc, .slice la g.follow.length lc] 39)).alloc (.cells #[.int .i64 x.prod, .int .u8 (x.byte : Int), .slice ta tl tc] 76)) = w1 at hB0 hB1 hb1 ⊢
  refine (hvst w1 hb1).mono ?_
  rintro e w2 ⟨rfl, hb2⟩
  have A2 := Lib.hid (And.intro (hB0.below hb2 hB0.lt) (And.intro (hB1.below hb2 hB1.lt) (hb1.trans (hb2.mono hb1.size))))
  clear hB0 hB1 hb1 hb2 hvst
  cases hv : vastB g with
  | true =>
    go_wp2_with fail
    refine (HE.out.2.2.2.1 w2 A2.out.2.2).mono ?_
    rintro e w3 ⟨rfl, hb3⟩
    have A3 := Lib.hid (A2.out.2.2.trans (hb3.mono A2.out.2.2.size))
    clear hb3
    go_wp2_with fail
    go_ret
    exact ⟨rfl, A3.out⟩
  | false =>
    have HV := Lib.hid hv
    clear hv
    have t0 := A2.out.2.1.cell 0
    have t1 := A2.out.2.1.cell 1
    have t2 := A2.out.2.1.cell 2
    simp at t0 t1 t2
    obtain ⟨ns, hns⟩ : ∃ ns, min (nodes x) 301 = ns := ⟨_, rfl⟩
    have hsz := HE.out.2.2.2.2.2.2.1 w2 A2.out.2.2
    rw [hns] at hsz
    have HN := Lib.hid hns
    clear hns
    go_wp2_with fail
    refine hsz.mono ?_
    rintro e w3 ⟨rfl, hb3⟩
    have A3 := Lib.hid (And.intro (A2.out.1.below hb3 A2.out.1.lt) (And.intro (A2.out.2.1.below hb3 A2.out.2.1.lt) (A2.out.2.2.trans (hb3.mono A2.out.2.2.size))))
    clear hb3 hsz t0 t1 t2
    by_cases h300 : 300 < ns
    · have hd : (300 : Int) < (ns : Int) := by omega
      go_wp2_with fail
      refine (HE.out.2.2.2.1 w3 A3.out.2.2).mono ?_
      rintro e w4 ⟨rfl, hb4⟩
      have A4 := Lib.hid (A3.out.2.2.trans (hb4.mono A3.out.2.2.size))
      clear hb4
      go_wp2_with fail
      go_ret
      exact ⟨rfl, A4.out⟩
    · have hd : decide ((300 : Int) < (ns : Int)) = false := decide_eq_false (by omega)
      have hxn : nodes x ≤ 300 := by have := HN.out; omega
      have HXN := Lib.hid hxn
      have hct := HE.out.2.2.2.2.2.1 w3 hxn A3.out.2.2
      clear hxn h300
      have g0 := A3.out.1.cell 0
      have g1 := A3.out.1.cell 1
      have g2 := A3.out.1.cell 2
      have g3 := A3.out.1.cell 3
      have g4 := A3.out.1.cell 4
      have t0 := A3.out.2.1.cell 0
      have t1 := A3.out.2.1.cell 1
      have t2 := A3.out.2.1.cell 2
      simp at g0 g1 g2 g3 g4 t0 t1 t2
      go_wp2_with fail
      refine hct.mono ?_
      rintro e w4 ⟨rfl, hb4⟩
      have A4 := Lib.hid (And.intro (A3.out.1.below hb4 A3.out.1.lt) (And.intro (A3.out.2.1.below hb4 A3.out.2.1.lt) (A3.out.2.2.trans (hb4.mono A3.out.2.2.size))))
      clear hb4 hct g0 g1 g2 g3 g4 t0 t1 t2
      go_wp2_with fail
      refine (num_any (ctN g x) w4).mono ?_
      rintro e w4 ⟨rfl, rfl⟩
      by_cases hc : ctN g x = 0
      · have hck : chkN g = 0 ∧ treeB g x = true := by
          unfold ctN at hc
          by_cases h : chkN g = 0
          · rw [if_pos h] at hc
            refine ⟨h, ?_⟩
            cases hb : treeB g x with
            | true => rfl
            | false => rw [hb] at hc; simp at hc
          · rw [if_neg h] at hc; omega
        obtain ⟨p, q, htr⟩ := tree_of hck.2
        have hgd := good_of HE.out.1 HV.out hck.1
        have g0 := A4.out.1.cell 0
        have g1 := A4.out.1.cell 1
        have g2 := A4.out.1.cell 2
        have g3 := A4.out.1.cell 3
        have g4 := A4.out.1.cell 4
        simp at g0 g1 g2 g3 g4
        have hGW := HE.out.1.keep A4.out.2.2
        have hmk := make_any (fun _ => True) g hgd w4 sv _ fa la g.forbid.length fc g.follow.length lc hGW.sorts hGW.prodsAt (fun W hW => by have := HE.out.2.2.2.2.1 W (A4.out.2.2.trans (hW.mono A4.out.2.2.size)); rw [hck.1] at this; exact this) (HE.out.2.1.below A4.out.2.2 HE.out.2.2.1) (Nat.le_trans HE.out.2.2.1 A4.out.2.2.size)
        rw [hc]
        have HC := Lib.hid (And.intro hgd htr)
        clear hGW hc hgd hck htr
        go_wp2_with fail
        refine hmk.mono ?_
        clear hmk g0 g1 g2 g3 g4
        rintro e w5 hcase
        rcases hcase with ⟨tb, B, sm, h1, rfl, hT, _, hb5⟩ | ⟨_, rfl, hb5⟩
        · have A5 := Lib.hid (And.intro (A4.out.1.below hb5 A4.out.1.lt) (And.intro (A4.out.2.1.below hb5 A4.out.2.1.lt) (And.intro (A4.out.2.2.trans (hb5.mono A4.out.2.2.size)) (And.intro (show TabP g B (.pointer (some ⟨tb, 0, none⟩)) sm w5 from .inr ⟨tb, rfl, hT⟩) (makeF_law h1)))))
          clear hb5 hT h1
          go_wp2_with fail
          refine (num_any 0 w5).mono ?_
          rintro e w5 ⟨rfl, rfl⟩
          go_wp2_with fail
          refine (states_any g B _ sm w5 A5.out.2.2.2.1).mono ?_
          rintro e w5 ⟨rfl, rfl⟩
          by_cases h3000 : 3000 < sm.length
          · have hd2 : (3000 : Int) < (sm.length : Int) := by omega
            go_wp2_with fail
            refine (HE.out.2.2.2.1 w5 A5.out.2.2.1).mono ?_
            rintro e w6 ⟨rfl, hb6⟩
            have A6 := Lib.hid (A5.out.2.2.1.trans (hb6.mono A5.out.2.2.1.size))
            clear hb6
            go_wp2_with fail
            go_ret
            exact ⟨rfl, A6.out⟩
          · have hd2 : decide ((3000 : Int) < (sm.length : Int)) = false := decide_eq_false (by omega)
            have HM := Lib.hid A5.out.2.2.2.2
            obtain ⟨hp, hq, hrole, hfl⟩ := HC.out.2
            have hpl := (List.getElem?_eq_some_iff.1 hq).1
            obtain ⟨cap, pb, po, vr, epv, hbl, hvr, hpc⟩ := HE.out.1.prodsAt.at_ hq
            injection epv with e1 e2 e3
            subst e1
            subst e3
            have f0w := hpc 0 _ rfl
            simp only [Nat.add_zero] at f0w
            have HQ := Lib.hid (And.intro hq (And.intro hrole (And.intro f0w hbl)))
            have hp0 : (0 : Int) ≤ (p : Int) := by omega
            have hp1 : (p : Int) < (g.prods.length : Int) := by omega
            have HRun := Lib.hid (show ∀ n : Nat, n < sm.length → (p, 0) ∈ (stAt sm n).items → ∀ W, Below w5.heap.size w5 W → Calls Tryz.prog 29 #[.pointer (some ⟨tb, 0, none⟩), .agg #[sv, .slice (some ⟨pb, po, none⟩) g.prods.length pc, .int .i64 g.start, .slice fa g.forbid.length fc, .slice la g.follow.length lc], .agg #[.int .i64 (p : Int), .int .u8 (x.byte : Int), .slice ta tl tc], .int .i64 (n : Int)] W fun e w' => e = .returned (.bool true) ∧ Below W.heap.size W w' from fun n hn hit W hW => by
              have hbw := A5.out.2.2.1.trans (hW.mono A5.out.2.2.1.size)
              have h := run_any g HC.out.1 B (.pointer (some ⟨tb, 0, none⟩)) sm HM.out sv (.slice (some ⟨pb, po, none⟩) g.prods.length pc) (.slice fa g.forbid.length fc) (.slice la g.follow.length lc) (nodes x) x (Nat.le_refl _) (by have := HXN.out; omega) p q HC.out.2 n hn hit W (A5.out.2.2.2.1.below hW) (HE.out.2.2.2.2.2.2.2.2.lower hbw) (HE.out.1.prodsAt.keep fun q hq hl => ⟨hq, hbw.block q hl⟩)
              unfold trV at h
              rw [HE.out.2.2.2.2.2.2.2.1, hp] at h
              exact h)
            have hp5 := A5.out.2.1
            rw [hp] at hp5
            have HT := Lib.hid hp5
            clear hp hq hrole hfl hpl hvr hpc f0w hbl e2 hp5
            -- the first state
            have hbegin : ∀ W, Below w5.heap.size w5 W → W.cell? ⟨pb, po + p * 7, none⟩ = some (.int .i64 q.left) ∧ Blk W w.heap.size 39 #[sv, .slice (some ⟨pb, po, none⟩) g.prods.length pc, .int .i64 g.start, .slice fa g.forbid.length fc, .slice la g.follow.length lc] ∧ Blk W (w.heap.size + 1) 76 #[.int .i64 (p : Int), .int .u8 (x.byte : Int), .slice ta tl tc] := fun W hW =>
              ⟨(World.cell?_of_block ((A5.out.2.2.1.trans (hW.mono A5.out.2.2.1.size)).block pb HQ.out.2.2.2)).trans HQ.out.2.2.1, A5.out.1.below hW A5.out.1.lt, HT.out.below hW HT.out.lt⟩
            have HB := Lib.hid hbegin
            clear hbegin
            go_upto_region 8 with fail
            obtain ⟨f0, bg, bt⟩ := HB.out w5 (Below.refl _ _)
            have g0 := bg.cell 0
            have g1 := bg.cell 1
            have g2 := bg.cell 2
            have g3 := bg.cell 3
            have g4 := bg.cell 4
            have t0 := bt.cell 0
            have t1 := bt.cell 1
            have t2 := bt.cell 2
            simp at g0 g1 g2 g3 g4 t0 t1 t2
            clear bg bt
            go_cut [73] from 55 to 73 (fun s73 wx => s73 = .bool false ∧ Below w5.heap.size w5 wx)
            case first =>
              by_cases hl : q.left = g.start
              · have hst := reads_start HM.out (m := p) (by rw [← hl]; exact ofS_in HQ.out.1 HQ.out.2.1)
                have hrun := HRun.out 0 hst.1 hst.2 w5.drew ((Below.refl _ _).drew)
                rw [hl] at f0
                clear hst hl
                obtain ⟨wt, rfl⟩ : ∃ wt : World, wt = w5 := ⟨_, rfl⟩
                go_still_tail 16, (by kernel_rfl)
                still_call (start_any _ _)
                repeat still_step
                try refine wpStill_nil ?_
                change wpList _ _ _ _ _ wt.drew
                go_wp2_with fail
                refine hrun.mono ?_
                rintro e w6 ⟨rfl, hb6⟩
                have H6 := Lib.hid (show Below wt.heap.size wt w6 from (show Below wt.heap.size wt wt.drew from (Below.refl _ _).drew).trans hb6)
                clear hb6 hrun
                go_wp2_with fail
                go_meet
                exact ⟨rfl, H6.out⟩
              · go_quiet (fail)
                go_wp2_with fail
                go_meet
                exact ⟨rfl, below_drewN (Below.refl _ _) _⟩
            case rest =>
              obtain ⟨rfl, hb6⟩ := hcut
              have A6 := Lib.hid hb6
              clear hb6 g0 g1 g2 g3 g4 t0 t1 t2 f0
              go_wp2_with fail
              go_loopg [7] sm.length (fun m v7 wx => ∃ n : Nat, n ≤ sm.length ∧ m = sm.length - n ∧ v7 = .int .i64 (n : Int) ∧ Below w5.heap.size w5 wx)
              case atStart => exact ⟨0, by omega, rfl, rfl, A6.out⟩
              case round =>
                obtain ⟨n, hn, hm, rfl, hb⟩ := hrel
                have hTn := A5.out.2.2.2.1.below hb
                have hst := states_any g B _ sm wr hTn
                have R := Lib.hid (And.intro hm (And.intro hb hTn))
                clear hm hb hTn
                go_wp2_with fail
                refine hst.mono ?_
                rintro e wr ⟨rfl, rfl⟩
                clear hst
                by_cases hnL : n < sm.length
                · have hnL1 : (n : Int) < (sm.length : Int) := by omega
                  go_wp2_with fail
                  refine (items_any g B _ sm n wr R.out.2.2).mono ?_
                  rintro e w8 ⟨v8, rfl, hv8, hb8⟩
                  obtain ⟨ia, ic, rfl⟩ := own_shape hv8
                  have hic : (stAt sm n).items.length ≤ 10000 := (R.out.2.2.at_ n).len
                  have A8 := Lib.hid (And.intro (own_sliceK encIt_len hv8) (R.out.2.1.trans (hb8.mono R.out.2.1.size)))
                  clear hv8 hb8
                  go_wp2_with fail
                  go_loopg [9] (stAt sm n).items.length (fun m v9 wx => ∃ i : Nat, i ≤ (stAt sm n).items.length ∧ m = (stAt sm n).items.length - i ∧ v9 = .int .i64 (i : Int) ∧ Below w8.heap.size w8 wx)
                  case atStart => exact ⟨0, by omega, rfl, rfl, Below.refl _ _⟩
                  case round =>
                    obtain ⟨i, hi, hm, rfl, hbx⟩ := hrel
                    by_cases hil : i < (stAt sm n).items.length
                    · have hil1 : (i : Int) < ((stAt sm n).items.length : Int) := by omega
                      have hi0 : (0 : Int) ≤ (i : Int) := by omega
                      obtain ⟨⟨n1, d1⟩, hx1⟩ : ∃ x, (stAt sm n).items[i]? = some x := ⟨_, List.getElem?_eq_getElem hil⟩
                      obtain ⟨ia2, ic2, ei, _, _, hk1⟩ := A8.out.1
                      injection ei with ei1 _ ei3
                      subst ei1
                      subst ei3
                      obtain ⟨kg, ko, rfl, _, hkr⟩ := hk1 (by rintro h; rw [h] at hil; simp at hil)
                      have k0 := (World.cell?_of_block (hbx.block kg hkr.lt)).trans (hkr.cells i _ hx1 0 _ rfl)
                      have k1 := (World.cell?_of_block (hbx.block kg hkr.lt)).trans (hkr.cells i _ hx1 1 _ rfl)
                      simp only [Nat.add_zero] at k0
                      have hb5 := A8.out.2.trans (hbx.mono A8.out.2.size)
                      obtain ⟨f0, bg, bt⟩ := HB.out wr hb5
                      have g0 := bg.cell 0
                      have g1 := bg.cell 1
                      have g2 := bg.cell 2
                      have g3 := bg.cell 3
                      have g4 := bg.cell 4
                      have t0 := bt.cell 0
                      have t1 := bt.cell 1
                      have t2 := bt.cell 2
                      simp at g0 g1 g2 g3 g4 t0 t1 t2
                      have Q := Lib.hid (And.intro hm (And.intro hbx (And.intro hb5 hx1)))
                      clear hm hbx hb5 hx1 hk1 hkr bg bt f0
                      go_upto_region 17 with fail
                      go_cut [104] from 89 to 104 (fun s104 wx => s104 = .bool false ∧ Below wr.heap.size wr wx)
                      case first =>
                        have hqe := eql_item n1 d1 p 0
                        by_cases h : n1 = p ∧ d1 = 0
                        · obtain ⟨h1, h2⟩ := h
                          subst h1
                          subst h2
                          have hrun := HRun.out n hnL (List.mem_of_getElem? Q.out.2.2.2) wr.drew (show Below w5.heap.size w5 wr.drew from Q.out.2.2.1.drew)
                          obtain ⟨wt, rfl⟩ : ∃ wt : World, wt = wr := ⟨_, rfl⟩
                          go_still_tail 13, (by kernel_rfl)
                          repeat still_step
                          try refine wpStill_nil ?_
                          change wpList _ _ _ _ _ wt.drew
                          go_wp2_with fail
                          refine hrun.mono ?_
                          rintro e w10 ⟨rfl, hb10⟩
                          have H10 := Lib.hid (show Below wt.heap.size wt w10 from (show Below wt.heap.size wt wt.drew from (Below.refl _ _).drew).trans hb10)
                          clear hb10 hrun
                          go_wp2_with fail
                          go_meet
                          exact ⟨rfl, H10.out⟩
                        · by_cases h1 : n1 = p
                          · have h2 : ¬ ((d1 : Int) = 0) := fun e => h ⟨h1, by omega⟩
                            clear h
                            go_quiet (fail)
                            go_wp2_with fail
                            go_meet
                            exact ⟨rfl, below_drewN (Below.refl _ _) _⟩
                          · have h2 : ¬ ((n1 : Int) = (p : Int)) := by omega
                            clear h
                            go_quiet (fail)
                            go_wp2_with fail
                            go_meet
                            exact ⟨rfl, below_drewN (Below.refl _ _) _⟩
                      case rest =>
                        obtain ⟨rfl, hb10⟩ := hcut
                        have A10 := Lib.hid (Q.out.2.1.trans (hb10.mono Q.out.2.1.size))
                        clear hb10 g0 g1 g2 g3 g4 t0 t1 t2 k0 k1
                        go_wp2_with fail
                        go_roundg ((stAt sm n).items.length - (i + 1))
                        case measure => have := Q.out.1; omega
                        case rel => exact ⟨i + 1, by omega, rfl, rfl, A10.out⟩
                    · obtain rfl : i = (stAt sm n).items.length := by omega
                      have Q := Lib.hid (A8.out.2.trans (hbx.mono A8.out.2.size))
                      clear hm hbx
                      go_wp2_with fail
                      go_roundg (sm.length - (n + 1))
                      case measure => have := R.out.1; omega
                      case rel => exact ⟨n + 1, by omega, rfl, rfl, Q.out⟩
                · obtain rfl : n = sm.length := by omega
                  have hbw := A5.out.2.2.1.trans (R.out.2.1.mono A5.out.2.2.1.size)
                  have hwk := HE.out.2.2.2.1 wr hbw
                  have Q := Lib.hid hbw
                  clear hbw
                  go_wp2_with fail
                  refine hwk.mono ?_
                  rintro e w6 ⟨rfl, hb6⟩
                  have A6 := Lib.hid (Q.out.trans (hb6.mono Q.out.size))
                  clear hb6 hwk
                  go_wp2_with fail
                  go_ret
                  exact ⟨rfl, A6.out⟩
        · have A5 := Lib.hid (A4.out.2.2.trans (hb5.mono A4.out.2.2.size))
          clear hb5
          go_wp2_with fail
          refine (num_any 3 w5).mono ?_
          rintro e w5 ⟨rfl, rfl⟩
          go_wp2_with fail
          refine (num_any 3 w5).mono ?_
          rintro e w5 ⟨rfl, rfl⟩
          go_wp2_with fail
          refine (HE.out.2.2.2.1 w5 A5.out).mono ?_
          rintro e w6 ⟨rfl, hb6⟩
          have A6 := Lib.hid (A5.out.trans (hb6.mono A5.out.size))
          clear hb6
          go_wp2_with fail
          go_ret
          exact ⟨rfl, A6.out⟩
      · have hd1 : (ctN g x != 0) = true := by simpa using hc
        have hd2 : decide (ctN g x = 0) = false := decide_eq_false hc
        clear hc
        go_wp2_with fail
        refine (HE.out.2.2.2.1 w4 A4.out.2.2).mono ?_
        rintro e w5 ⟨rfl, hb5⟩
        have A5 := Lib.hid (A4.out.2.2.trans (hb5.mono A4.out.2.2.size))
        clear hb5
        go_wp2_with fail
        go_ret
        exact ⟨rfl, A5.out⟩
end Go.Proofs.YtknpkndiflodbaaGreatDoor.Tb
