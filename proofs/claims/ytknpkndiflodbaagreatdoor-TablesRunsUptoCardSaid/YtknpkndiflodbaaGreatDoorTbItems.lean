/-
  WALK of the law TablesItems.
-/
import Derived.Test.YtknpkndiflodbaaGreatDoorTbLawIt
import Derived.ChangeKeysEq
import Derived.Laws.StructEq
set_option linter.unusedVariables false
set_option linter.unusedSimpArgs false
namespace Go.Proofs.YtknpkndiflodbaaGreatDoor.Tb
open Go Go.RowKit Go.Proofs Go.Maps Mx
theorem eqIt (a b c d : Int) (w : World) : (Op.equalIn 10000 53 (.agg #[.int .i64 a, .int .i64 b]) (.agg #[.int .i64 c, .int .i64 d])).run Tryz.prog w = .ok (decide (a = c) && decide (b = d)) w := by
  have hf : (Tryz.prog.fieldsOf 53).toList.map (fun f => (f.name, f.type, f.offset)) = [("Prod", 3, 0), ("Dot", 3, 1)] := by kernel_rfl
  rw [show (10000 : Nat) = 9999 + 1 from rfl, run_equalIn_struct w 9999 _ _ _ (by kernel_rfl) (by kernel_rfl)]
  generalize (Tryz.prog.fieldsOf 53).toList = fs at hf ⊢
  match fs, hf with
  | [⟨m0, y0, o0, _, _, _, _⟩, ⟨m1, y1, o1, _, _, _, _⟩], hf =>
    simp only [List.map_cons, List.map_nil, List.cons.injEq, Prod.mk.injEq, and_true] at hf
    obtain ⟨⟨rfl, rfl, rfl⟩, ⟨rfl, rfl, rfl⟩⟩ := hf
    have hp : ∀ (xs : Array Value) (k : Nat) (v : Value) (w : World), xs[k]? = some v → (part 3 xs k).run Tryz.prog w = .ok v w := by
      intro xs k v w h
      simp [part, isAgg, run_underlying Tryz.underlying3, go_sem, h]
    have q0 : ∀ (v0 v1 : Value) (w : World), (part 3 #[v0, v1] 0).run Tryz.prog w = .ok v0 w := fun _ _ w => hp _ 0 _ w rfl
    have q1 : ∀ (v0 v1 : Value) (w : World), (part 3 #[v0, v1] 1).run Tryz.prog w = .ok v1 w := fun _ _ w => hp _ 1 _ w rfl
    have e1 : ∀ (a b : Int) (w : World), (Op.equalIn 9999 3 (.int .i64 a) (.int .i64 b)).run Tryz.prog w = .ok (a == b) w := fun a b w => run_equalIn_int w 9998 _ .i64 .i64 a b Tryz.underlying3
    by_cases h0 : a = c
    · by_cases h1 : b = d <;> simp [Op.eqFields, Sem.run_bind, Result.andThen_ok, q0, q1, e1, h0, h1]
    · simp [Op.eqFields, Sem.run_bind, Result.andThen_ok, q0, q1, e1, h0]
theorem eql_item (a b c d : Int) (w : World) : (binOp .eql 53 (.agg #[.int .i64 a, .int .i64 b]) (.agg #[.int .i64 c, .int .i64 d])).run Tryz.prog w = .ok (.bool (decide (a = c) && decide (b = d))) w := by
  rw [run_eql_struct, eqIt]; rfl
theorem infoBool : (Tryz.prog.info? 4).map (fun i => (i.zero, i.size, i.bytes)) = some (some (.bool false), 1, 1) := by kernel_rfl
theorem made_bools (L : Nat) : madeCells (Value.bool false).cells L = ledC L (fun _ => false) := by
  apply Array.ext
  · simp [madeCells, ledC]
  · intro i h1 h2
    simp [madeCells, ledC, Value.cells, Nat.mod_one]
theorem make_bools (L : Nat) (hL : L ≤ 2000000) (w : World) : (Instr.makeSlice 49 (.int .i64 (L : Int)) (.int .i64 (L : Int))).run Tryz.prog w = .ok (.slice (some ⟨w.heap.size, 0, none⟩) L L) (w.alloc (.cells (ledC L (fun _ => false)) 4)) := by
  obtain ⟨i0, hi, hz0, hz1, hz2⟩ := info_parts infoBool
  have h := run_make (P := Tryz.prog) w 49 4 i0 _ Tryz.underlying49 hi hz0 .i64 .i64 (L : Int) (L : Int) (by omega) (by omega) (by rw [hz2]; omega) (by omega)
  rw [hz1, Int.toNat_natCast, Nat.mul_one, made_bools] at h
  exact h
/-- What an edge of a state has. -/
theorem edge_law {g : Gr} {sm : List SM} (hm : MadeLaw g (sm.map toSt)) {n : Nat} (hn : n < sm.length) : ∀ e ∈ (stAt sm n).edges, e.2 < sm.length ∧ metF g e.1 (stAt sm n).items = true := by
  obtain ⟨s, hs⟩ : ∃ s, sm[n]? = some s := ⟨_, List.getElem?_eq_getElem hn⟩
  rw [stAt_in hs]
  intro e he
  have hst := hm.state (toSt s) (List.mem_map.2 ⟨s, List.mem_of_getElem? hs, rfl⟩)
  obtain ⟨k, hk⟩ := List.getElem?_of_mem he
  have hlen : s.edges.length = (leadsF g s.items).length := hst.len
  have hkl : k < (leadsF g s.items).length := by rw [← hlen]; exact (List.getElem?_eq_some_iff.1 hk).1
  obtain ⟨m, h1, h2⟩ := hst.edge k _ _ (List.getElem?_eq_getElem hkl)
  have h1 : s.edges[k]? = some ((leadsF g s.items)[k].1, m) := h1
  rw [hk] at h1
  injection h1 with h1
  subst h1
  refine ⟨by have := (List.getElem?_eq_some_iff.1 h2).1; simpa using this, leads_met g s.items _ (leadsF g s.items)[k].2 (List.getElem_mem hkl)⟩
theorem states_apart {g : Gr} {sm : List SM} (hm : MadeLaw g (sm.map toSt)) {n k : Nat} (hn : n < sm.length) (hk : k < n) : (stAt sm n).items ≠ (stAt sm k).items := by
  obtain ⟨s, hs⟩ : ∃ s, sm[n]? = some s := ⟨_, List.getElem?_eq_getElem hn⟩
  obtain ⟨t, ht⟩ : ∃ t, sm[k]? = some t := ⟨_, List.getElem?_eq_getElem (by omega)⟩
  rw [stAt_in hs, stAt_in ht]
  have h1 := List.pairwise_iff_getElem.1 hm.nodup k n (by simp; omega) (by simpa using hn) hk
  simp only [List.getElem_map] at h1
  rw [List.getElem?_eq_getElem hn] at hs
  rw [List.getElem?_eq_getElem (by omega)] at ht
  injection hs with hs
  injection ht with ht
  rw [hs, ht] at h1
  exact fun e => h1 e.symm
theorem led_law {g : Gr} {sm : List SM} (hm : MadeLaw g (sm.map toSt)) {n : Nat} (hn : n < sm.length) (led : Nat → Bool) (h0 : led 0 = true) (h : ∀ i, i < n → ∀ e ∈ (stAt sm i).edges, led e.2 = true) : led n = true := by
  by_cases hz : n = 0
  · rw [hz]; exact h0
  · obtain ⟨i, s, h1, h2, e, h3, h4⟩ := hm.led n (by omega) (by simpa using hn)
    rw [List.getElem?_map] at h2
    cases hs : sm[i]? with
    | none => rw [hs] at h2; cases h2
    | some t =>
      rw [hs] at h2
      injection h2 with h2
      subst h2
      have := h i h1 e (by rw [stAt_in hs]; exact h3)
      rw [h4] at this
      exact this
set_option maxRecDepth 100000 in
set_option maxHeartbeats 16000000 in
theorem items_law (g : Gr) (N : Nat) (hN : N ≤ 2000000) (w : World) (sv pv fv lv : Value) (hG : GramAt w N g sv pv fv lv) (hbru : Bru w) (hLB : LB ≤ w.heap.size) :
    Calls Tryz.prog 4 #[.agg #[sv, pv, .int .i64 g.start, fv, lv]] w fun e w' => e = .returned (.bool true) ∧ Below w.heap.size w w' := by
  obtain ⟨fa, fc, rfl⟩ := slice_shape hG.forbid
  obtain ⟨la, lc, rfl⟩ := slice_shape hG.follow
  have hwks : ∀ W, Below w.heap.size w W → Calls Tryz.prog 8 #[] W fun e w' => e = .returned (.bool true) ∧ Below W.heap.size W w' := fun W h => works_any W (hbru.below h hLB) (Nat.le_trans hLB h.size)
  have hchk : ∀ W, Below w.heap.size w W → Calls Tryz.prog 14 #[.agg #[sv, pv, .int .i64 g.start, .slice fa g.forbid.length fc, .slice la g.follow.length lc]] W fun e w' => e = .returned (.int .i64 (chkN g)) ∧ Below W.heap.size W w' := fun W h => check_any g N hN W _ _ _ _ (hG.keep h)
  have HE := Lib.hid (And.intro hG (And.intro hbru (And.intro hLB (And.intro hwks hchk))))
  have hvst := fun W h => vast_any g N hN W _ _ _ _ (hG.keep h)
  clear hG hbru hLB hwks hchk
  go_enter Tryz.func4, Tryz.ntmps4
  go_wp2_with fail
  have hB1 : Blk (w.alloc (.cells #[sv, pv, .int .i64 g.start, .slice fa g.forbid.length fc, .slice la g.follow.length lc] 39)) w.heap.size 39 #[sv, pv, .int .i64 g.start, .slice fa g.forbid.length fc, .slice la g.follow.length lc] := Blk.new _ _ _
  have hb1 : Below w.heap.size w (w.alloc (.cells #[sv, pv, .int .i64 g.start, .slice fa g.forbid.length fc, .slice la g.follow.length lc] 39)) := (Below.refl _ w).alloc (Nat.le_refl _) _
  generalize (w.alloc (.cells #[sv, pv, .int .i64 g.start, .slice fa g.forbid.length fc, .slice la g.follow.length lc] 39)) = w1 at hB1 hb1 ⊢
  refine (hvst w1 hb1).mono ?_
  rintro e w2 ⟨rfl, hb2⟩
  have A2 := Lib.hid (And.intro (hB1.below hb2 hB1.lt) (hb1.trans (hb2.mono hb1.size)))
  clear hB1 hb1 hb2 hvst
  cases hv : vastB g with
  | true =>
    go_wp2_with fail
    refine (HE.out.2.2.2.1 w2 A2.out.2).mono ?_
    rintro e w3 ⟨rfl, hb3⟩
    have A3 := Lib.hid (A2.out.2.trans (hb3.mono A2.out.2.size))
    clear hb3
    go_wp2_with fail
    go_ret
    exact ⟨rfl, A3.out⟩
  | false =>
    have HV := Lib.hid hv
    clear hv
    have g0 := A2.out.1.cell 0
    have g1 := A2.out.1.cell 1
    have g2 := A2.out.1.cell 2
    have g3 := A2.out.1.cell 3
    have g4 := A2.out.1.cell 4
    simp at g0 g1 g2 g3 g4
    go_wp2_with fail
    refine (HE.out.2.2.2.2 w2 A2.out.2).mono ?_
    rintro e w3 ⟨rfl, hb3⟩
    have A3 := Lib.hid (And.intro (A2.out.1.below hb3 A2.out.1.lt) (A2.out.2.trans (hb3.mono A2.out.2.size)))
    clear hb3 g0 g1 g2 g3 g4
    go_wp2_with fail
    refine (num_any (chkN g) w3).mono ?_
    rintro e w3 ⟨rfl, rfl⟩
    by_cases hc : chkN g = 0
    · have hgd := good_of HE.out.1 HV.out hc
      have g0 := A3.out.1.cell 0
      have g1 := A3.out.1.cell 1
      have g2 := A3.out.1.cell 2
      have g3 := A3.out.1.cell 3
      have g4 := A3.out.1.cell 4
      simp at g0 g1 g2 g3 g4
      have hGW := HE.out.1.keep A3.out.2
      have hmk := make_any (fun _ => True) g hgd w3 sv pv fa la g.forbid.length fc g.follow.length lc hGW.sorts hGW.prodsAt (fun W hW => by have := HE.out.2.2.2.2 W (A3.out.2.trans (hW.mono A3.out.2.size)); rw [hc] at this; exact this) (HE.out.2.1.below A3.out.2 HE.out.2.2.1) (Nat.le_trans HE.out.2.2.1 A3.out.2.size)
      rw [hc]
      have HC := Lib.hid hc
      clear hGW hc hgd
      go_wp2_with fail
      refine hmk.mono ?_
      clear hmk g0 g1 g2 g3 g4
      rintro e w4 hcase
      rcases hcase with ⟨tb, B, sm, h1, rfl, hT, _, hb4⟩ | ⟨_, rfl, hb4⟩
      · have A4 := Lib.hid (And.intro (A3.out.1.below hb4 A3.out.1.lt) (And.intro (A3.out.2.trans (hb4.mono A3.out.2.size)) (And.intro (show TabP g B (.pointer (some ⟨tb, 0, none⟩)) sm w4 from .inr ⟨tb, rfl, hT⟩) (And.intro (makeF_law h1) hT.many))))
        clear hb4 hT h1
        go_wp2_with fail
        refine (num_any 0 w4).mono ?_
        rintro e w4 ⟨rfl, rfl⟩
        go_wp2_with fail
        refine (states_any g B _ sm w4 A4.out.2.2.1).mono ?_
        rintro e w4 ⟨rfl, rfl⟩
        by_cases h200 : 200 < sm.length
        · have hd : (200 : Int) < (sm.length : Int) := by omega
          go_wp2_with fail
          refine (num_any 0 w4).mono ?_
          rintro e w4 ⟨rfl, rfl⟩
          go_wp2_with fail
          refine (HE.out.2.2.2.1 w4 A4.out.2.1).mono ?_
          rintro e w5 ⟨rfl, hb5⟩
          have A5 := Lib.hid (A4.out.2.1.trans (hb5.mono A4.out.2.1.size))
          clear hb5
          go_wp2_with fail
          go_ret
          exact ⟨rfl, A5.out⟩
        · have hd : decide ((200 : Int) < (sm.length : Int)) = false := decide_eq_false (by omega)
          have hpos : 1 ≤ sm.length := by
            obtain ⟨s, hs, _⟩ := A4.out.2.2.2.1.start
            have := (List.getElem?_eq_some_iff.1 hs).1
            rw [List.length_map] at this
            omega
          go_wp2_with fail
          refine (states_any g B _ sm w4 A4.out.2.2.1).mono ?_
          rintro e w4 ⟨rfl, rfl⟩
          have hd1 : decide ((sm.length : Int) < 1) = false := decide_eq_false (by omega)
          go_wp2_with fail
          refine (states_any g B _ sm w4 A4.out.2.2.1).mono ?_
          rintro e w4 ⟨rfl, rfl⟩
          have hl0 : (0 : Int) ≤ (sm.length : Int) := by omega
          have hl1 : (sm.length : Int) ≤ 200 := by omega
          have hl2 : (0 : Int) < (sm.length : Int) := by omega
          have hmkb := make_bools sm.length (by omega)
          go_upto_region 9 with fail
          have hb45 : Below w4.heap.size w4 (w4.alloc (.cells (ledC sm.length (fun _ => false)) 4)) := (Below.refl _ w4).alloc (Nat.le_refl _) _
          have hL45 : Blk (w4.alloc (.cells (ledC sm.length (fun _ => false)) 4)) w4.heap.size 4 (ledC sm.length (fun _ => false)) := Blk.new _ _ _
          generalize (w4.alloc (.cells (ledC sm.length (fun _ => false)) 4)) = w45 at hb45 hL45 ⊢
          have hlc := hL45.cell 0
          rw [ledC_get sm.length (fun _ => false) 0 (by omega)] at hlc
          have hlf := hL45.frozen 0
          have B5 := Lib.hid (And.intro hb45 hL45)
          clear hb45 hL45
          go_wp2_with fail
          have hb5 : Below w4.heap.size w4 (w45.setCell ⟨w4.heap.size, 0, none⟩ (.bool true)) := B5.out.1.setCell (p := ⟨w4.heap.size, 0, none⟩) (Nat.le_refl _) _
          have hL5 : Blk (w45.setCell ⟨w4.heap.size, 0, none⟩ (.bool true)) w4.heap.size 4 (ledC sm.length (fun j => false || 0 == j)) := by
            have h1 := B5.out.2.set_ 0 (.bool true)
            rw [ledC_set] at h1
            exact h1
          generalize w45.setCell ⟨w4.heap.size, 0, none⟩ (.bool true) = w5 at hb5 hL5 ⊢
          obtain ⟨lb, hlb⟩ : ∃ lb, w4.heap.size = lb := ⟨_, rfl⟩
          have A5 := Lib.hid (And.intro (show Blk w5 lb 4 _ from hlb ▸ hL5) (And.intro (A4.out.1.below hb5 A4.out.1.lt) (And.intro (A4.out.2.1.trans (hb5.mono A4.out.2.1.size)) (And.intro (A4.out.2.2.1.below hb5) (show w.heap.size < lb from hlb ▸ A4.out.1.lt)))))
          rw [hlb]
          clear hb5 hL5 hmkb hlc hlf hl0 hl1 hl2 hd hd1 hlb B5
          go_loopg [6] sm.length (fun m v6 wr => ∃ (n : Nat) (led : Nat → Bool), n ≤ sm.length ∧ m = sm.length - n ∧ v6 = .int .i64 n ∧ Blk wr lb 4 (ledC sm.length led) ∧ led 0 = true ∧ (∀ i : Nat, i < n → ∀ e ∈ (stAt sm i).edges, led e.2 = true) ∧ TabP g B (.pointer (some ⟨tb, 0, none⟩)) sm wr ∧ Blk wr w.heap.size 39 #[sv, pv, .int .i64 g.start, .slice fa g.forbid.length fc, .slice la g.follow.length lc] ∧ Below w.heap.size w wr)
          case atStart => exact ⟨0, _, by omega, rfl, rfl, A5.out.1, rfl, fun i hi => by omega, A5.out.2.2.2.1, A5.out.2.1, A5.out.2.2.1⟩
          case round =>
            obtain ⟨n, led, hn, hm, rfl, hL, hl0, hle, hT, hB, hb⟩ := hrel
            have hst := states_any g B _ sm wr hT
            have A := Lib.hid (And.intro hm (And.intro hL (And.intro hl0 (And.intro hle (And.intro hT (And.intro hB hb))))))
            clear hm hL hl0 hle hT hB hb
            go_wp2_with fail
            refine hst.mono ?_
            rintro e wr ⟨rfl, rfl⟩
            clear hst
            by_cases hnL : n < sm.length
            · have hnL1 : (n : Int) < (sm.length : Int) := by omega
              go_wp2_with fail
              refine (items_any g B _ sm n wr A.out.2.2.2.2.1).mono ?_
              rintro e w7 ⟨v', rfl, hv', hb7⟩
              obtain ⟨ia, ic, rfl⟩ := own_shape hv'
              have hic : (stAt sm n).items.length ≤ 10000 := (A.out.2.2.2.2.1.at_ n).len
              have hIt := own_sliceK encIt_len hv'
              have A7 := Lib.hid (And.intro hIt hb7)
              clear hv' hb7 hIt
              go_wp2_with fail
              obtain ⟨wo, rfl⟩ : ∃ wo : World, wo = wr := ⟨_, rfl⟩
              go_loopg [8] n (fun m v8 wx => ∃ k : Nat, k ≤ n ∧ m = n - k ∧ v8 = .int .i64 k ∧ Below w7.heap.size w7 wx)
              case atStart => exact ⟨0, by omega, rfl, rfl, Below.refl _ _⟩
              case round =>
                obtain ⟨k, hk, hm, rfl, hbx⟩ := hrel
                have hbox : Below wo.heap.size wo wr := A7.out.2.trans (hbx.mono A7.out.2.size)
                by_cases hkn : k < n
                · have hkn1 : (k : Int) < (n : Int) := by omega
                  have hik := items_any g B _ sm k wr (A.out.2.2.2.2.1.below hbox)
                  have hmk : (stAt sm k).items.length ≤ 10000 := (A.out.2.2.2.2.1.at_ k).len
                  have hap := states_apart A4.out.2.2.2.1 hnL hkn
                  have AX := Lib.hid (And.intro hm (And.intro hbx (And.intro hbox hap)))
                  clear hm hbx hbox hap
                  go_wp2_with fail
                  refine hik.mono ?_
                  rintro e w8 ⟨v2, rfl, hv2, hb8⟩
                  obtain ⟨ma, mc, rfl⟩ := own_shape hv2
                  have A8 := Lib.hid (And.intro (own_sliceK encIt_len hv2) hb8)
                  clear hv2 hb8 hik
                  obtain ⟨wi, rfl⟩ : ∃ wi : World, wi = wr := ⟨_, rfl⟩
                  go_wp2_with fail
                  go_loopg [10, 11] (stAt sm n).items.length (fun m v10 v11 wx => ∃ (i : Nat) (b : Bool) (q : Nat), i ≤ (stAt sm n).items.length ∧ m = (stAt sm n).items.length - i ∧ v11 = .int .i64 i ∧ v10 = .bool b ∧ (b = true → (stAt sm k).items.length = (stAt sm n).items.length ∧ (stAt sm n).items.take i = (stAt sm k).items.take i) ∧ wx = w8.drewN q)
                  case atStart => exact ⟨0, _, 0, by omega, rfl, rfl, rfl, fun h => ⟨by simp at h; omega, rfl⟩, rfl⟩
                  case round =>
                    obtain ⟨i, b, q, hi, hm, rfl, rfl, hb, rfl⟩ := hrel
                    have hout : b = false → Below w7.heap.size w7 (w8.drewN q) := fun _ => AX.out.2.1.trans ((below_drewN A8.out.2 q).mono AX.out.2.1.size)
                    by_cases hil : i < (stAt sm n).items.length
                    · have hil1 : (i : Int) < ((stAt sm n).items.length : Int) := by omega
                      cases b with
                      | false =>
                        have HO := Lib.hid (hout rfl)
                        clear hout hb hm
                        go_wp2_with fail
                        go_roundg (n - (k + 1))
                        case measure => have := AX.out.1; omega
                        case rel => exact ⟨k + 1, by omega, rfl, rfl, HO.out⟩
                      | true =>
                        obtain ⟨he1, he2⟩ := hb rfl
                        have him : i < (stAt sm k).items.length := by omega
                        obtain ⟨⟨n1, d1⟩, hx1⟩ : ∃ x, (stAt sm n).items[i]? = some x := ⟨_, List.getElem?_eq_getElem hil⟩
                        obtain ⟨⟨n2, d2⟩, hx2⟩ : ∃ x, (stAt sm k).items[i]? = some x := ⟨_, List.getElem?_eq_getElem him⟩
                        obtain ⟨ia2, ic2, ei, _, _, hk1⟩ := A7.out.1
                        injection ei with ei1 _ ei3
                        subst ei1
                        subst ei3
                        obtain ⟨kg, ko, rfl, hkD, hkr⟩ := hk1 (by rintro h; rw [h] at hil; simp at hil)
                        obtain ⟨ma2, mc2, em, _, _, hk2⟩ := A8.out.1
                        injection em with em1 _ em3
                        subst em1
                        subst em3
                        obtain ⟨mg, mo, rfl, hmD, hmr⟩ := hk2 (by rintro h; rw [h] at him; simp at him)
                        have hb78 : Below w7.heap.size w7 (w8.drewN q) := AX.out.2.1.trans ((below_drewN A8.out.2 q).mono AX.out.2.1.size)
                        have c0 := (World.cell?_of_block (hb78.block kg hkr.lt)).trans (hkr.cells i _ hx1 0 _ rfl)
                        have c1 := (World.cell?_of_block (hb78.block kg hkr.lt)).trans (hkr.cells i _ hx1 1 _ rfl)
                        have m0 : (w8.drewN q).cell? _ = _ := hmr.cells i _ hx2 0 _ rfl
                        have m1 : (w8.drewN q).cell? _ = _ := hmr.cells i _ hx2 1 _ rfl
                        simp only [Nat.add_zero] at c0 m0
                        have him1 : (i : Int) < ((stAt sm k).items.length : Int) := by omega
                        have hi0 : (0 : Int) ≤ (i : Int) := by omega
                        have HM := Lib.hid (And.intro hm (And.intro he1 (And.intro he2 (And.intro hx1 hx2))))
                        generalize hwq : w8.drewN q = wq at c0 c1 m0 m1 ⊢
                        have HQ := Lib.hid hwq
                        clear hm he1 he2 hx1 hx2 hkr hmr hb78 hb hout hwq hk1 hk2
                        have hqe := eql_item n1 d1 n2 d2
                        go_upto_region 22 with fail
                        go_quiet (fail)
                        go_wp2_with fail
                        go_roundg ((stAt sm n).items.length - (i + 1))
                        case measure => have := HM.out.1; omega
                        case rel =>
                          refine ⟨i + 1, _, _, by omega, rfl, rfl, rfl, fun h => ⟨HM.out.2.1, ?_⟩, by rw [← HQ.out, World.drewN_drewN]⟩
                          simp only [Bool.and_eq_true, decide_eq_true_eq] at h
                          obtain ⟨h1, h2⟩ := h
                          have e1 : n1 = n2 := by omega
                          have e2 : d1 = d2 := by omega
                          rw [List.take_add_one, List.take_add_one, HM.out.2.2.2.1, HM.out.2.2.2.2, HM.out.2.2.1, e1, e2]
                    · obtain rfl : i = (stAt sm n).items.length := by omega
                      cases b with
                      | true =>
                        obtain ⟨he1, he2⟩ := hb rfl
                        rw [List.take_length, ← he1, List.take_length] at he2
                        exact absurd he2 AX.out.2.2.2
                      | false =>
                        have HO := Lib.hid (hout rfl)
                        clear hout hb hm
                        go_wp2_with fail
                        go_roundg (n - (k + 1))
                        case measure => have := AX.out.1; omega
                        case rel => exact ⟨k + 1, by omega, rfl, rfl, HO.out⟩
                · obtain rfl : k = n := by omega
                  have hTr := A.out.2.2.2.2.1.below hbox
                  have hLr := A.out.2.1.below hbox A.out.2.1.lt
                  have hBr := A.out.2.2.2.2.2.1.below hbox A.out.2.2.2.2.2.1.lt
                  have hbr := A.out.2.2.2.2.2.2.trans (hbox.mono A.out.2.2.2.2.2.2.size)
                  have hlbl := A5.out.2.2.2.2
                  have hPr : ProdsAt (fun q => q < w.heap.size) wr pv g.prods := HE.out.1.prodsAt.keep fun q hq hl => ⟨hl, hbr.block q hl⟩
                  have hcell := hLr.cell k
                  rw [ledC_get _ _ _ hnL, led_law A4.out.2.2.2.1 hnL led A.out.2.2.1 A.out.2.2.2.1] at hcell
                  have hld := leads_ok (fun q => q < w.heap.size) g (by have := HE.out.1.nprods; omega) (fun p hp => by have := (HE.out.1.ok p hp).1; omega) B _ sm k sm.length led (by omega) (edge_law A4.out.2.2.2.1 hnL) wr sv pv (.slice fa g.forbid.length fc) (.slice la g.follow.length lc) hPr hTr lb sm.length (fun q (hq : q < w.heap.size) => by omega) hLr
                  have g0 := hBr.cell 0
                  have g1 := hBr.cell 1
                  have g2 := hBr.cell 2
                  have g3 := hBr.cell 3
                  have g4 := hBr.cell 4
                  simp at g0 g1 g2 g3 g4
                  have hk0 : (0 : Int) ≤ (k : Int) := by omega
                  have AK := Lib.hid (And.intro hTr (And.intro hLr (And.intro hBr (And.intro hbr hlbl))))
                  clear hTr hLr hBr hbr hlbl hPr hbox hbx hm
                  go_wp2_with fail
                  refine hld.mono ?_
                  rintro e w9 ⟨rfl, hfar, hL9⟩
                  have A9 := Lib.hid (And.intro hfar hL9)
                  clear hfar hL9 hld hcell g0 g1 g2 g3 g4
                  go_wp2_with fail
                  have hg9 : wr.grownBy w9 (some lb) := ⟨A9.out.1.os, A9.out.1.tape, A9.out.1.output, A9.out.1.size, fun q hq hne => A9.out.1.block q hq (fun e => hne (by rw [e])) (fun e => hne (by rw [e]))⟩
                  have hwr := AK.out.2.2.2.1.size
                  have hlb2 := AK.out.2.2.2.2
                  go_roundg (sm.length - (k + 1))
                  case measure => have := A.out.1; omega
                  case rel =>
                    refine ⟨k + 1, ledK led (stAt sm k).edges, by omega, rfl, rfl, A9.out.2, by simp [ledK, A.out.2.2.1], fun i hi e he => ?_, AK.out.1.grown AK.out.2.1 hg9, (A9.out.1.block w.heap.size AK.out.2.2.1.lt (Nat.ne_of_lt hlb2) (Nat.ne_of_lt hlb2)).trans AK.out.2.2.1,
                      AK.out.2.2.2.1.trans ⟨A9.out.1.os, A9.out.1.tape, A9.out.1.output, A9.out.1.size, fun q hq => A9.out.1.block q (Nat.lt_of_lt_of_le hq hwr) (Nat.ne_of_lt (Nat.lt_trans hq hlb2)) (Nat.ne_of_lt (Nat.lt_trans hq hlb2))⟩⟩
                    unfold ledK
                    rcases Nat.lt_or_ge i k with h | h
                    · rw [A.out.2.2.2.1 i h e he]; rfl
                    · obtain rfl : i = k := by omega
                      rw [List.any_eq_true.2 ⟨e, he, by simp⟩, Bool.or_true]
            · obtain rfl : n = sm.length := by omega
              go_wp2_with fail
              refine (HE.out.2.2.2.1 wr A.out.2.2.2.2.2.2).mono ?_
              rintro e w6 ⟨rfl, hb6⟩
              have A6 := Lib.hid (A.out.2.2.2.2.2.2.trans (hb6.mono A.out.2.2.2.2.2.2.size))
              clear hb6
              go_wp2_with fail
              go_ret
              exact ⟨rfl, A6.out⟩
      · have A4 := Lib.hid (A3.out.2.trans (hb4.mono A3.out.2.size))
        clear hb4
        go_wp2_with fail
        refine (num_any 3 w4).mono ?_
        rintro e w4 ⟨rfl, rfl⟩
        go_wp2_with fail
        refine (num_any 3 w4).mono ?_
        rintro e w4 ⟨rfl, rfl⟩
        go_wp2_with fail
        refine (num_any 3 w4).mono ?_
        rintro e w4 ⟨rfl, rfl⟩
        go_wp2_with fail
        refine (HE.out.2.2.2.1 w4 A4.out).mono ?_
        rintro e w5 ⟨rfl, hb5⟩
        have A5 := Lib.hid (A4.out.trans (hb5.mono A4.out.size))
        clear hb5
        go_wp2_with fail
        go_ret
        exact ⟨rfl, A5.out⟩
    · have hd : (chkN g != 0) = true := by simpa using hc
      have hd2 : decide (chkN g = 0) = false := decide_eq_false hc
      go_wp2_with fail
      refine (HE.out.2.2.2.1 w3 A3.out.2).mono ?_
      rintro e w4 ⟨rfl, hb4⟩
      have A4 := Lib.hid (A3.out.2.trans (hb4.mono A3.out.2.size))
      clear hb4
      go_wp2_with fail
      go_ret
      exact ⟨rfl, A4.out⟩
end Go.Proofs.YtknpkndiflodbaaGreatDoor.Tb
