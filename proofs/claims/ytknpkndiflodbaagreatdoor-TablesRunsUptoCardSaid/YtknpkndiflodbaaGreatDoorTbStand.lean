/-
  WALKS of the law TablesItems: stands, behind.
-/
import Derived.Test.YtknpkndiflodbaaGreatDoorTbChkC
import Derived.Test.YtknpkndiflodbaaGreatDoorTbTellA
set_option linter.unusedVariables false
set_option linter.unusedSimpArgs false
namespace Go.Proofs.YtknpkndiflodbaaGreatDoor.Tb
open Go Go.RowKit Go.Proofs Go.Maps Mx
set_option maxRecDepth 100000 in
set_option maxHeartbeats 8000000 in
theorem stands_ok (D : Nat → Prop) (g : Gr) (hN : g.prods.length ≤ 2000000) (n d : Nat) (hx : itemOk g (n, d) = true) (w : World) (sv pv fv lv : Value) (hP : ProdsAt D w pv g.prods) :
    Calls Tryz.prog 23 #[.agg #[sv, pv, .int .i64 g.start, fv, lv], .agg #[.int .i64 (n : Int), .int .i64 (d : Int)]] w fun e w' => e = .returned (.bool true) ∧ Below w.heap.size w w' := by
  obtain ⟨pa, pc, rfl⟩ := prodsAt_shape hP
  unfold itemOk at hx
  simp only [Bool.and_eq_true, decide_eq_true_eq] at hx
  obtain ⟨h1, h2⟩ := hx
  obtain ⟨p, hp⟩ : ∃ p, g.prods[n]? = some p := ⟨_, List.getElem?_eq_getElem h1⟩
  obtain ⟨cap, b, o, vr, epv, hbl, hvr, hpc⟩ := hP.at_ hp
  injection epv with e1 e2 e3
  subst e1
  subst e3
  obtain ⟨ra, rc, rfl, hrc1, hrc2, hrk⟩ := hvr
  have f1 := hpc 1 _ rfl
  have hr : d ≤ p.right.length := by
    unfold rightOf at h2
    rw [hp] at h2
    exact h2
  have hn0 : (0 : Int) ≤ (n : Int) := by omega
  have hn1 : (n : Int) < (g.prods.length : Int) := by omega
  have hd0 : (0 : Int) ≤ (d : Int) := by omega
  have hd1 : (d : Int) ≤ (p.right.length : Int) := by omega
  clear hpc hrk hP h2
  go_enter Tryz.func23, Tryz.ntmps23
  go_upto_region 1 with fail
  have f1a := cell_alloc_ (cell_alloc_ f1 (.cells #[sv, .slice (some ⟨b, o, none⟩) g.prods.length pc, .int .i64 g.start, fv, lv] 39)) (.cells #[.int .i64 (n : Int), .int .i64 (d : Int)] 53)
  have hb : Below w.heap.size w ((w.alloc (.cells #[sv, .slice (some ⟨b, o, none⟩) g.prods.length pc, .int .i64 g.start, fv, lv] 39)).alloc (.cells #[.int .i64 (n : Int), .int .i64 (d : Int)] 53)) := ((Below.refl _ w).alloc (Nat.le_refl _) _).alloc (by simp) _
  have hB1 : Blk ((w.alloc (.cells #[sv, .slice (some ⟨b, o, none⟩) g.prods.length pc, .int .i64 g.start, fv, lv] 39)).alloc (.cells #[.int .i64 (n : Int), .int .i64 (d : Int)] 53)) w.heap.size 39 #[sv, .slice (some ⟨b, o, none⟩) g.prods.length pc, .int .i64 g.start, fv, lv] := (Blk.new _ _ _).alloc _
  have hB2 : Blk ((w.alloc (.cells #[sv, .slice (some ⟨b, o, none⟩) g.prods.length pc, .int .i64 g.start, fv, lv] 39)).alloc (.cells #[.int .i64 (n : Int), .int .i64 (d : Int)] 53)) (w.heap.size + 1) 53 #[.int .i64 (n : Int), .int .i64 (d : Int)] := Blk.new_ (by simp) _ _
  generalize (w.alloc (.cells #[sv, .slice (some ⟨b, o, none⟩) g.prods.length pc, .int .i64 g.start, fv, lv] 39)).alloc (.cells #[.int .i64 (n : Int), .int .i64 (d : Int)] 53) = W1 at f1a hb hB1 hB2 ⊢
  have g1 := hB1.cell 1
  have i0 := hB2.cell 0
  have i1 := hB2.cell 1
  simp at g1 i0 i1
  have H := Lib.hid hb
  clear hb hB1 hB2 f1
  go_quiet (fail)
  go_wp2_with fail
  go_ret
  exact ⟨rfl, below_drewN H.out _⟩
def hitF (g : Gr) (s : Sy) (x : It) : Bool := match aheadF g x with | some y => y.kind == s.kind && (s.kind == 0 || y.sort == s.sort) | none => false
def metF (g : Gr) (s : Sy) (l : List It) : Bool := l.any (hitF g s)
theorem metF_step {g : Gr} {s : Sy} {l : List It} {i : Nat} {x : It} (h : l[i]? = some x) : metF g s (l.take (i + 1)) = (metF g s (l.take i) || hitF g s x) := by
  unfold metF
  rw [List.take_add_one, h]
  simp
set_option maxRecDepth 100000 in
set_option maxHeartbeats 16000000 in
theorem behind_any (D E : Nat → Prop) (g : Gr) (hN : g.prods.length ≤ 2000000) (hR : ∀ p ∈ g.prods, p.right.length ≤ 2000000) (l : List It) (hl : ∀ x ∈ l, itemOk g x = true) (hll : l.length ≤ 2000000) (s : Sy) (w : World) (sv pv fv lv iv : Value) (hP : ProdsAt D w pv g.prods) (hI : SliceK E encIt 2 w iv l) :
    Calls Tryz.prog 43 #[.agg #[sv, pv, .int .i64 g.start, fv, lv], iv, .agg #[.int .i64 s.kind, .int .u64 (wd s.set 0), .int .u64 (wd s.set 1), .int .u64 (wd s.set 2), .int .u64 (wd s.set 3), .int .i64 s.sort]] w fun e w' => e = .returned (.bool (metF g s l)) ∧ Below w.heap.size w w' := by
  obtain ⟨pa, pc, rfl⟩ := prodsAt_shape hP
  obtain ⟨a, c, rfl, hc1, hc2, hk⟩ := hI
  have HK := Lib.hid (And.intro hk (And.intro hP (And.intro hl hR)))
  clear hk hP hl hR
  go_enter Tryz.func43, Tryz.ntmps43
  go_wp2_with fail
  have hB1 : Blk ((w.alloc (.cells #[sv, .slice pa g.prods.length pc, .int .i64 g.start, fv, lv] 39)).alloc (.cells #[.int .i64 s.kind, .int .u64 (wd s.set 0), .int .u64 (wd s.set 1), .int .u64 (wd s.set 2), .int .u64 (wd s.set 3), .int .i64 s.sort] 28)) w.heap.size 39 #[sv, .slice pa g.prods.length pc, .int .i64 g.start, fv, lv] := (Blk.new _ _ _).alloc _
  have hB2 : Blk ((w.alloc (.cells #[sv, .slice pa g.prods.length pc, .int .i64 g.start, fv, lv] 39)).alloc (.cells #[.int .i64 s.kind, .int .u64 (wd s.set 0), .int .u64 (wd s.set 1), .int .u64 (wd s.set 2), .int .u64 (wd s.set 3), .int .i64 s.sort] 28)) (w.heap.size + 1) 28 #[.int .i64 s.kind, .int .u64 (wd s.set 0), .int .u64 (wd s.set 1), .int .u64 (wd s.set 2), .int .u64 (wd s.set 3), .int .i64 s.sort] := Blk.new_ (by simp) _ _
  have hb1 : Below w.heap.size w ((w.alloc (.cells #[sv, .slice pa g.prods.length pc, .int .i64 g.start, fv, lv] 39)).alloc (.cells #[.int .i64 s.kind, .int .u64 (wd s.set 0), .int .u64 (wd s.set 1), .int .u64 (wd s.set 2), .int .u64 (wd s.set 3), .int .i64 s.sort] 28)) := ((Below.refl _ w).alloc (Nat.le_refl _) _).alloc (by simp) _
  have hz1 : w.heap.size + 2 ≤ ((w.alloc (.cells #[sv, .slice pa g.prods.length pc, .int .i64 g.start, fv, lv] 39)).alloc (.cells #[.int .i64 s.kind, .int .u64 (wd s.set 0), .int .u64 (wd s.set 1), .int .u64 (wd s.set 2), .int .u64 (wd s.set 3), .int .i64 s.sort] 28)).heap.size := by simp
  generalize (w.alloc (.cells #[sv, .slice pa g.prods.length pc, .int .i64 g.start, fv, lv] 39)).alloc (.cells #[.int .i64 s.kind, .int .u64 (wd s.set 0), .int .u64 (wd s.set 1), .int .u64 (wd s.set 2), .int .u64 (wd s.set 3), .int .i64 s.sort] 28) = W1 at hB1 hB2 hb1 hz1 ⊢
  have H1 := Lib.hid (And.intro hB1 (And.intro hB2 (And.intro hb1 hz1)))
  clear hB1 hB2 hb1 hz1
  go_loopg [7, 8] l.length (fun m v7 v8 wr => ∃ i : Nat, i ≤ l.length ∧ m = l.length - i ∧ v8 = .int .i64 i ∧ v7 = .bool (metF g s (l.take i)) ∧ Blk wr w.heap.size 39 #[sv, .slice pa g.prods.length pc, .int .i64 g.start, fv, lv] ∧ Blk wr (w.heap.size + 1) 28 #[.int .i64 s.kind, .int .u64 (wd s.set 0), .int .u64 (wd s.set 1), .int .u64 (wd s.set 2), .int .u64 (wd s.set 3), .int .i64 s.sort] ∧ Below w.heap.size w wr ∧ w.heap.size + 2 ≤ wr.heap.size)
  case atStart => exact ⟨0, by omega, rfl, rfl, by simp [metF], H1.out.1, H1.out.2.1, H1.out.2.2.1, H1.out.2.2.2⟩
  case round =>
    obtain ⟨i, hi, hm, rfl, rfl, hB, hS, hb, hz⟩ := hrel
    by_cases hlt : i < l.length
    · obtain ⟨⟨n, d⟩, hx⟩ : ∃ x, l[i]? = some x := ⟨_, List.getElem?_eq_getElem hlt⟩
      have hok := HK.out.2.2.1 _ (List.mem_of_getElem? hx)
      have hok2 := hok
      unfold itemOk at hok2
      simp only [Bool.and_eq_true, decide_eq_true_eq] at hok2
      obtain ⟨hn, hd⟩ := hok2
      obtain ⟨p, hp⟩ : ∃ p, g.prods[n]? = some p := ⟨_, List.getElem?_eq_getElem hn⟩
      have hPr := HK.out.2.1.keep (w' := wr) (D' := D) fun q hq hl => ⟨hq, hb.block q hl⟩
      obtain ⟨cap, b, o, vr, epv, hbl, hvr, hpc⟩ := HK.out.2.1.at_ hp
      injection epv with e1 e2 e3
      subst e1
      subst e3
      obtain ⟨ra, rc, rfl, hrc1, hrc2, hrk⟩ := hvr
      have hrl := HK.out.2.2.2 p (List.mem_of_getElem? hp)
      have hah : aheadF g (n, d) = p.right[d]? := by unfold aheadF rightOf; rw [hp]; rfl
      obtain ⟨kg, ko, rfl, hkD, hkr⟩ := HK.out.1 (by rintro h; rw [h] at hlt; simp at hlt)
      have hst := metF_step (g := g) (s := s) hx
      have HU := Lib.hid (show ∀ W, Below w.heap.size w W → W.cell? ⟨kg, ko + i * 2, none⟩ = some (.int .i64 n) ∧ W.cell? ⟨kg, ko + i * 2 + 1, none⟩ = some (.int .i64 d) ∧ W.cell? ⟨b, o + n * 7 + 1, none⟩ = some (.slice ra p.right.length rc) from fun W h => by
        have k0 := hkr.cells i _ hx 0 _ rfl
        have k1 := hkr.cells i _ hx 1 _ rfl
        have f1 := hpc 1 _ rfl
        simp only [Nat.add_zero] at k0
        exact ⟨(World.cell?_of_block (h.block kg hkr.lt)).trans k0, (World.cell?_of_block (h.block kg hkr.lt)).trans k1, (World.cell?_of_block (h.block b hbl)).trans f1⟩)
      have HRt := Lib.hid (show ∀ y, p.right[d]? = some y → ∃ rb ro, ra = some ⟨rb, ro, none⟩ ∧ ∀ W, Below w.heap.size w W → W.cell? ⟨rb, ro + d * 6, none⟩ = some (.int .i64 y.kind) ∧ W.cell? ⟨rb, ro + d * 6 + 5, none⟩ = some (.int .i64 y.sort) from fun y hy => by
        obtain ⟨rb, ro, e, hD, hrr⟩ := hrk (by rintro h; rw [h] at hy; simp at hy)
        refine ⟨rb, ro, e, fun W h => ?_⟩
        have k0 := hrr.cells d _ hy 0 _ rfl
        have k5 := hrr.cells d _ hy 5 _ rfl
        simp only [Nat.add_zero] at k0
        exact ⟨(World.cell?_of_block (h.block rb hrr.lt)).trans k0, (World.cell?_of_block (h.block rb hrr.lt)).trans k5⟩)
      have hi0 : (0 : Int) ≤ (i : Int) := by omega
      have hi1 : (i : Int) < (l.length : Int) := by omega
      have hn0 : (0 : Int) ≤ (n : Int) := by omega
      have hn1 : (n : Int) < (g.prods.length : Int) := by omega
      have hd0 : (0 : Int) ≤ (d : Int) := by omega
      have HR := Lib.hid (And.intro hm (And.intro hB (And.intro hS (And.intro hb (And.intro hz (And.intro hst (And.intro hah (And.intro hPr (And.intro hok hx)))))))))
      obtain ⟨k0, k1, f1⟩ := HU.out wr hb
      have q0 := hB.cell 0
      have q1 := hB.cell 1
      have q2 := hB.cell 2
      have q3 := hB.cell 3
      have q4 := hB.cell 4
      simp at q0 q1 q2 q3 q4
      clear hm hB hS hb hz hst hah hPr hok hx hpc hrk hkr hd hp hn
      go_upto_region 5 with fail
      obtain ⟨wt, rfl⟩ : ∃ wt : World, wt = wr := ⟨_, rfl⟩
      go_still_tail 5, (by kernel_rfl)
      repeat still_step
      try refine wpStill_nil ?_
      change wpList _ _ _ _ _ wt.drew
      go_wp2_with fail
      refine (stands_ok D g hN n d HR.out.2.2.2.2.2.2.2.2.1 wt.drew _ _ _ _ (HR.out.2.2.2.2.2.2.2.1.keep (D' := D) (w' := wt.drew) fun q hq _ => ⟨hq, rfl⟩)).mono ?_
      rintro e w2 ⟨rfl, hb2⟩
      have hb2 : Below wt.heap.size wt w2 := (show Below wt.heap.size wt wt.drew from (Below.refl _ _).drew).trans hb2
      have hb3 := HR.out.2.2.2.1.trans (hb2.mono HR.out.2.2.2.1.size)
      have A2 := Lib.hid (And.intro hb3 (And.intro (HR.out.2.1.below hb2 HR.out.2.1.lt) (And.intro (HR.out.2.2.1.below hb2 HR.out.2.2.1.lt) (Nat.le_trans HR.out.2.2.2.2.1 hb2.size))))
      clear hb2 hb3 k0 k1 f1 q0 q1 q2 q3 q4
      go_upto_region 7 with fail
      obtain ⟨k0, k1, f1⟩ := HU.out w2 A2.out.1
      have q1 := A2.out.2.1.cell 1
      have y0 := A2.out.2.2.1.cell 0
      have y5 := A2.out.2.2.1.cell 5
      simp at q1 y0 y5
      go_quiet (fail)
      go_upto_region 8 with fail
      generalize hw3 : World.drewN w2 _ = w3
      obtain ⟨nq, hw3⟩ : ∃ nq, World.drewN w2 nq = w3 := ⟨_, hw3⟩
      have hb3 := below_drewN A2.out.1 nq
      have hB3 := A2.out.2.1.drewN nq
      have hS3 := A2.out.2.2.1.drewN nq
      rw [hw3] at hb3 hB3 hS3
      have hz3 : w.heap.size + 2 ≤ w3.heap.size := by rw [← hw3]; exact A2.out.2.2.2
      clear k0 k1 f1 q1 y0 y5 hw3
      have A3 := Lib.hid (And.intro hb3 (And.intro hB3 (And.intro hS3 hz3)))
      obtain ⟨k0, k1, f1⟩ := HU.out w3 hb3
      have y0 := hS3.cell 0
      have y5 := hS3.cell 5
      simp at y0 y5
      clear hb3 hB3 hS3 hz3
      cases hmt : metF g s (l.take i) with
      | true =>
        have HV := Lib.hid (show (metF g s (l.take i) || hitF g s (n, d)) = true from by rw [hmt]; rfl)
        clear hmt
        go_quiet (fail)
        go_wp2_with fail
        go_roundg (l.length - (i + 1))
        case measure => have := HR.out.1; omega
        case rel => exact ⟨i + 1, by omega, rfl, rfl, by rw [HR.out.2.2.2.2.2.1, HV.out], A3.out.2.1.drewN _, A3.out.2.2.1.drewN _, below_drewN A3.out.1 _, A3.out.2.2.2⟩
      | false =>
        have HM := Lib.hid hmt
        clear hmt
        by_cases hdl : d < p.right.length
        · obtain ⟨y, hy⟩ : ∃ y, p.right[d]? = some y := ⟨_, List.getElem?_eq_getElem hdl⟩
          obtain ⟨rb, ro, rfl, hrr⟩ := HRt.out y hy
          obtain ⟨r0, r5⟩ := hrr w3 A3.out.1
          have hdl1 : (d : Int) < (p.right.length : Int) := by omega
          have hhit : hitF g s (n, d) = (y.kind == s.kind && (s.kind == 0 || y.sort == s.sort)) := by unfold hitF; rw [HR.out.2.2.2.2.2.2.1, hy]
          by_cases hkk : y.kind = s.kind
          · by_cases hz : s.kind = 0
            · have HV := Lib.hid (show (metF g s (l.take i) || hitF g s (n, d)) = true from by rw [HM.out, hhit, hkk, hz]; rfl)
              rw [hkk, hz] at r0
              rw [hz] at y0
              clear hkk hhit hrr hdl hy hz
              go_quiet (fail)
              go_wp2_with fail
              go_roundg (l.length - (i + 1))
              case measure => have := HR.out.1; omega
              case rel => exact ⟨i + 1, by omega, rfl, rfl, by rw [HR.out.2.2.2.2.2.1, HV.out], A3.out.2.1.drewN _, A3.out.2.2.1.drewN _, below_drewN A3.out.1 _, A3.out.2.2.2⟩
            · have hz1 : (s.kind == 0) = false := by simpa using hz
              have HV := Lib.hid (show (metF g s (l.take i) || hitF g s (n, d)) = (y.sort == s.sort) from by rw [HM.out, hhit, hkk, hz1]; simp)
              rw [hkk] at r0
              have hz2 : decide (s.kind = 0) = false := decide_eq_false hz
              clear hkk hhit hrr hdl hy
              go_quiet (fail)
              go_wp2_with fail
              go_roundg (l.length - (i + 1))
              case measure => have := HR.out.1; omega
              case rel => exact ⟨i + 1, by omega, rfl, rfl, by rw [HR.out.2.2.2.2.2.1, HV.out], A3.out.2.1.drewN _, A3.out.2.2.1.drewN _, below_drewN A3.out.1 _, A3.out.2.2.2⟩
          · have hk1 : (y.kind == s.kind) = false := by simpa using hkk
            have HV := Lib.hid (show (metF g s (l.take i) || hitF g s (n, d)) = false from by rw [HM.out, hhit, hk1]; rfl)
            have hk2 : decide (y.kind = s.kind) = false := decide_eq_false hkk
            clear hkk hhit hrr hdl hy
            go_quiet (fail)
            go_wp2_with fail
            go_roundg (l.length - (i + 1))
            case measure => have := HR.out.1; omega
            case rel => exact ⟨i + 1, by omega, rfl, rfl, by rw [HR.out.2.2.2.2.2.1, HV.out], A3.out.2.1.drewN _, A3.out.2.2.1.drewN _, below_drewN A3.out.1 _, A3.out.2.2.2⟩
        · have HV := Lib.hid (show (metF g s (l.take i) || hitF g s (n, d)) = false from by
            rw [HM.out]; unfold hitF; rw [HR.out.2.2.2.2.2.2.1, List.getElem?_eq_none (by omega)]; rfl)
          have hd2 : decide ((d : Int) < (p.right.length : Int)) = false := decide_eq_false (by omega)
          have hd3 : decide (d < p.right.length) = false := decide_eq_false hdl
          have hd4 : ¬ ((d : Int) < (p.right.length : Int)) := by omega
          go_quiet (fail)
          go_wp2_with fail
          go_roundg (l.length - (i + 1))
          case measure => have := HR.out.1; omega
          case rel => exact ⟨i + 1, by omega, rfl, rfl, by rw [HR.out.2.2.2.2.2.1, HV.out], A3.out.2.1.drewN _, A3.out.2.2.1.drewN _, below_drewN A3.out.1 _, A3.out.2.2.2⟩
    · obtain rfl : i = l.length := by omega
      have HR := Lib.hid hb
      rw [List.take_length]
      clear hm hB hS hb hz
      go_wp2_with fail
      go_ret
      exact ⟨rfl, HR.out⟩
end Go.Proofs.YtknpkndiflodbaaGreatDoor.Tb
