/-
  WALKS of the law TablesRuns: CheckTree.
-/
import Derived.Test.YtknpkndiflodbaaGreatDoorTbTreeA
import Derived.Test.YtknpkndiflodbaaGreatDoorTbChkC
set_option linter.unusedVariables false
set_option linter.unusedSimpArgs false
namespace Go.Proofs.YtknpkndiflodbaaGreatDoor.Tb
open Go Go.RowKit Go.Proofs Mx
/-- Is a tree a grammar's? -/
def treeB (g : Gr) (t : Tr) : Bool := decide (0 ≤ t.prod) && match g.prods[t.prod.toNat]? with | none => false | some q => fitsF g t ⟨1, 0, q.left⟩
def ctN (g : Gr) (t : Tr) : Int := if chkN g = 0 then (if treeB g t = true then 0 else 163) else 160
set_option maxRecDepth 100000 in
set_option maxHeartbeats 8000000 in
theorem ctree_any (g : Gr) (N : Nat) (hN : N ≤ 2000000) (w : World) (sv pv fv lv : Value) (hG : GramAt w N g sv pv fv lv) (t : Tr) (ht : TrOk w t) (hnt : nodes t ≤ 300) :
    Calls Tryz.prog 28 #[.agg #[sv, pv, .int .i64 g.start, fv, lv], trV t] w fun e w' => e = .returned (.int .i64 (ctN g t)) ∧ Below w.heap.size w w' := by
  obtain ⟨ta, tc, hkv⟩ := tslice_shape ht.out.2.2.1
  obtain ⟨pa, pc, rfl⟩ := prodsAt_shape hG.prodsAt
  obtain ⟨fa, fc, rfl⟩ := tslice_shape hG.forbid
  obtain ⟨la, lc, rfl⟩ := tslice_shape hG.follow
  obtain ⟨sa, sc, rfl⟩ := tslice_shape hG.sorts
  have hchk := fun W (h : Below w.heap.size w W) => check_any g N hN W _ _ _ _ (hG.keep h)
  have hdp := fun W (h : Below w.heap.size w W) => deep_any t W (ht.lower h) (by omega)
  have hft := fun W (h : Below w.heap.size w W) => fits_any (fun _ => True) g (by have := hG.nprods; omega) (fun p hp => by have := (hG.ok p hp).1; omega) (.slice sa g.sorts.length sc) (.slice pa g.prods.length pc) (.slice fa g.forbid.length fc) (.slice la g.follow.length lc) (nodes t) t (Nat.le_refl _) (s := ⟨1, 0, (((g.prods[t.prod.toNat]?).map (·.left)).getD 0)⟩) W (ht.lower h) (hG.prodsAt.keep fun q hq hl => ⟨hq, h.block q hl⟩)
  unfold trV at hdp hft ⊢
  unfold symV at hft
  have hctN : ∃ r, ctN g t = r := ⟨_, rfl⟩
  obtain ⟨r, hr⟩ := hctN
  rw [hr]
  obtain ⟨tl, htl⟩ : ∃ n, t.kids.length = n := ⟨_, rfl⟩
  rw [htl] at hkv
  rw [hkv] at hdp hft ⊢
  have HK := Lib.hid (And.intro hG (And.intro ht (And.intro hnt (And.intro hr (And.intro hdp hft)))))
  clear hG ht hnt hr hdp hft hkv
  go_enter Tryz.func28, Tryz.ntmps28
  have HC := Lib.hid hchk
  clear hchk
  go_wp2_with fail
  have hB0 : Blk ((w.alloc (.cells #[.slice sa g.sorts.length sc, .slice pa g.prods.length pc, .int .i64 g.start, .slice fa g.forbid.length fc, .slice la g.follow.length lc] 39)).alloc (.cells #[.int .i64 t.prod, .int .u8 (t.byte : Int), .slice ta tl tc] 76)) w.heap.size 39 #[.slice sa g.sorts.length sc, .slice pa g.prods.length pc, .int .i64 g.start, .slice fa g.forbid.length fc, .slice la g.follow.length lc] := (Blk.new _ _ _).alloc _
  have hB1 : Blk ((w.alloc (.cells #[.slice sa g.sorts.length sc, .slice pa g.prods.length pc, .int .i64 g.start, .slice fa g.forbid.length fc, .slice la g.follow.length lc] 39)).alloc (.cells #[.int .i64 t.prod, .int .u8 (t.byte : Int), .slice ta tl tc] 76)) (w.heap.size + 1) 76 #[.int .i64 t.prod, .int .u8 (t.byte : Int), .slice ta tl tc] := Blk.new_ (by simp) _ _
  have hb1 : Below w.heap.size w ((w.alloc (.cells #[.slice sa g.sorts.length sc, .slice pa g.prods.length pc, .int .i64 g.start, .slice fa g.forbid.length fc, .slice la g.follow.length lc] 39)).alloc (.cells #[.int .i64 t.prod, .int .u8 (t.byte : Int), .slice ta tl tc] 76)) := ((Below.refl w.heap.size w).alloc (Nat.le_refl _) _).alloc (by simp) _
  generalize ((w.alloc (.cells #[.slice sa g.sorts.length sc, .slice pa g.prods.length pc, .int .i64 g.start, .slice fa g.forbid.length fc, .slice la g.follow.length lc] 39)).alloc (.cells #[.int .i64 t.prod, .int .u8 (t.byte : Int), .slice ta tl tc] 76)) = W1 at hB0 hB1 hb1 ⊢
  refine (HC.out W1 hb1).mono ?_
  rintro e w2 ⟨rfl, hb2⟩
  have A2 := Lib.hid (And.intro (hB0.below hb2 hB0.lt) (And.intro (hB1.below hb2 hB1.lt) (hb1.trans (hb2.mono hb1.size))))
  clear hB0 hB1 hb1 hb2
  by_cases hc : chkN g = 0
  · rw [hc]
    have hcs : ((0 : Int) != 0) = false := rfl
    obtain ⟨b0, b1, b2⟩ := A2.out
    have g0 := b0.cell 0
    have g1 := b0.cell 1
    have g2 := b0.cell 2
    have g3 := b0.cell 3
    have g4 := b0.cell 4
    have t0 := b1.cell 0
    have t1 := b1.cell 1
    have t2 := b1.cell 2
    simp at g0 g1 g2 g3 g4 t0 t1 t2
    clear b0 b1 b2
    have HCC := Lib.hid hc
    clear hc
    go_wp2_with fail
    refine (HK.out.2.2.2.2.1 w2 A2.out.2.2).mono ?_
    rintro e w3 ⟨⟨n, hn, rfl⟩, hb3⟩
    have hn2 : ¬ ((16384 : Int) < (n : Int)) := by have := HK.out.2.2.1; omega
    obtain ⟨b0, b1, b2⟩ := A2.out
    have A3 := Lib.hid (And.intro (b0.below hb3 b0.lt) (And.intro (b1.below hb3 b1.lt) (b2.trans (hb3.mono b2.size))))
    clear b0 b1 b2 hb3 hn g0 g1 g2 g3 g4 t0 t1 t2
    obtain ⟨b0, b1, b2⟩ := A3.out
    have g0 := b0.cell 0
    have g1 := b0.cell 1
    have g2 := b0.cell 2
    have g3 := b0.cell 3
    have g4 := b0.cell 4
    have t0 := b1.cell 0
    have t1 := b1.cell 1
    have t2 := b1.cell 2
    simp at g0 g1 g2 g3 g4 t0 t1 t2
    clear b0 b1 b2
    go_upto_region 5 with fail
    obtain ⟨wt, rfl⟩ : ∃ wt : World, wt = w3 := ⟨_, rfl⟩
    obtain ⟨p, hp⟩ : ∃ p, t.prod = p := ⟨_, rfl⟩
    rw [hp] at t0 ⊢
    have HP := Lib.hid hp
    clear hp
    by_cases hp0 : p < 0
    · have HR := Lib.hid (show r = 163 from by rw [← HK.out.2.2.2.1]; unfold ctN treeB; rw [HCC.out, HP.out, decide_eq_false (show ¬ 0 ≤ p by omega)]; rfl)
      go_quiet (fail)
      go_wp2_with fail
      go_ret
      exact ⟨by rw [HR.out]; rfl, below_drewN A3.out.2.2 _⟩
    · obtain ⟨n, rfl⟩ : ∃ n : Nat, p = (n : Int) := ⟨p.toNat, by omega⟩
      have hn0 : (0 : Int) ≤ (n : Int) := by omega
      by_cases hpl : (g.prods.length : Int) ≤ (n : Int)
      · have HR := Lib.hid (show r = 163 from by rw [← HK.out.2.2.2.1]; unfold ctN treeB; rw [HCC.out, HP.out, Int.toNat_natCast, List.getElem?_eq_none (by omega)]; simp)
        go_quiet (fail)
        go_wp2_with fail
        go_ret
        exact ⟨by rw [HR.out]; rfl, below_drewN A3.out.2.2 _⟩
      · have hn1 : (n : Int) < (g.prods.length : Int) := by omega
        have hnl : n < g.prods.length := by omega
        obtain ⟨q, hq⟩ : ∃ q, g.prods[n]? = some q := ⟨_, List.getElem?_eq_getElem hnl⟩
        obtain ⟨cap, pb, po, vr, epv, hbl, hvr, hpc⟩ := HK.out.1.prodsAt.at_ hq
        injection epv with e1 e2 e3
        subst e1
        subst e3
        have f0 := (World.cell?_of_block (A3.out.2.2.block pb hbl)).trans (hpc 0 _ rfl)
        simp only [Nat.add_zero] at f0
        have hrec := HK.out.2.2.2.2.2 wt.drew (show Below w.heap.size w wt.drew from A3.out.2.2.drew)
        rw [HP.out, Int.toNat_natCast, hq] at hrec
        simp only [Option.map_some, Option.getD_some] at hrec
        have HR := Lib.hid (show r = if fitsF g t ⟨1, 0, q.left⟩ = true then 0 else 163 from by
          rw [← HK.out.2.2.2.1]; unfold ctN treeB; rw [HCC.out, HP.out, Int.toNat_natCast, hq, decide_eq_true hn0]; rfl)
        have hwd : ∀ j, wd 0 j = 0 := fun j => by simp [wd]
        simp only [hwd] at hrec
        clear hpc hvr hq hp0 hpl e2
        go_still_tail 22, (by kernel_rfl)
        repeat still_step
        try refine wpStill_nil ?_
        change wpList _ _ _ _ _ wt.drew
        go_wp2_with fail
        refine hrec.mono ?_
        rintro e w5 ⟨rfl, hb5⟩
        have hb35 := A3.out.2.2.trans ((show Below wt.heap.size wt w5 from (show Below wt.heap.size wt wt.drew from (Below.refl _ _).drew).trans hb5).mono A3.out.2.2.size)
        have H5 := Lib.hid hb35
        clear hb5 hb35 hrec f0 g0 g1 g2 g3 g4 t0 t1 t2
        cases hf : fitsF g t ⟨1, 0, q.left⟩ with
        | true =>
          have HX := Lib.hid (show r = 0 from by rw [HR.out, hf]; rfl)
          clear hf
          go_wp2_with fail
          go_ret
          exact ⟨by rw [HX.out]; rfl, H5.out⟩
        | false =>
          have HX := Lib.hid (show r = 163 from by rw [HR.out, hf]; rfl)
          clear hf
          go_wp2_with fail
          go_ret
          exact ⟨by rw [HX.out]; rfl, H5.out⟩
  · have hcs : (chkN g != 0) = true := by simpa using hc
    have HR := Lib.hid (show r = 160 from by rw [← HK.out.2.2.2.1]; unfold ctN; rw [if_neg hc])
    clear hc
    go_wp2_with fail
    go_ret
    exact ⟨by rw [HR.out]; rfl, A2.out.2.2⟩
end Go.Proofs.YtknpkndiflodbaaGreatDoor.Tb
