/-
  WALKS: cmp.Compare and cmp.Or at int, order of items.
  WALKS: slices.Compact at items.
  WALKS: slices.Clone at items.
-/
import Derived.Test.YtknpkndiflodbaaGreatDoorProg
import Derived.Test.YtknpkndiflodbaaGreatDoorRowsA
import Derived.Test.YtknpkndiflodbaaGreatDoorTbMem
import Derived.Shelf.SlSortCmp.Insertion
import Derived.Sort.Statements
import Derived.KernelRfl
import Derived.RegionTactic
import Derived.Deep.RegionWith
import Derived.Deep.QuietTactic
import Derived.BigQuiet
import Derived.StillTailTactics
import Derived.Sort.Grow
import Derived.Test.YtknpkndiflodbaaGreatDoorTbPureA
import Derived.Laws.StructEq
import Derived.OwnWalk
set_option linter.unusedVariables false
set_option linter.unusedSimpArgs false
namespace Go.Proofs.YtknpkndiflodbaaGreatDoor.Tb
open Go Go.RowKit Go.Proofs Go.Sort Mx

theorem nan_any (x : Int) (w : World) : Calls Tryz.prog 122 #[.int .i64 x] w fun e w' => e = .returned (.bool false) ∧ w = w' := by
  go_enter Tryz.func122, Tryz.ntmps122
  go_wp2
  go_ret
  exact ⟨by simp, rfl⟩
def cmpI (x y : Int) : Int := if x < y then -1 else if y < x then 1 else 0
theorem cmp_any (x y : Int) (w : World) : Calls Tryz.prog 97 #[.int .i64 x, .int .i64 y] w fun e w' => e = .returned (.int .i64 (cmpI x y)) ∧ w' = w := by
  have hn := nan_any
  go_enter Tryz.func97, Tryz.ntmps97
  go_wp2_with (go_at_call 122; refine (hn _ _).mono ?_; rintro e w' ⟨rfl, rfl⟩)
  all_goals
    go_ret
    refine ⟨?_, rfl⟩
    unfold cmpI
    first
      | (simp_all; done)
      | (rw [if_neg (by omega), if_pos (by omega)]; done)
      | (rw [if_neg (by omega), if_neg (by omega)]; rfl)
theorem or_any (a b : Int) (g c : Nat) (w : World) (h0 : w.cell? ⟨g, 0, none⟩ = some (.int .i64 a)) (h1 : w.cell? ⟨g, 1, none⟩ = some (.int .i64 b)) :
    Calls Tryz.prog 96 #[.slice (some ⟨g, 0, none⟩) 2 c] w fun e w' => e = .returned (.int .i64 (if a = 0 then b else a)) ∧ w' = w := by
  go_enter Tryz.func96, Tryz.ntmps96
  go_wp2
  go_loopg [8] 2 (fun m v8 wr => wr = w ∧ ∃ i : Nat, i ≤ 2 ∧ m = 2 - i ∧ v8 = .int .i64 i ∧ (0 < i → a = 0) ∧ (1 < i → b = 0))
  case atStart => exact ⟨rfl, 0, by omega, rfl, rfl, by omega, by omega⟩
  case round =>
    obtain ⟨rfl, i, hi, hm, rfl, h2, h3⟩ := hrel
    rcases (show i = 0 ∨ i = 1 ∨ i = 2 by omega) with rfl | rfl | rfl
    · by_cases ha : a = 0
      · have hx : (a != 0) = false := by simp [ha]
        go_wp2
        go_roundg 1
        case measure => omega
        case rel => exact ⟨rfl, 1, by omega, by omega, rfl, fun _ => ha, by omega⟩
      · have hx : (a != 0) = true := by simp [ha]
        go_wp2
        go_ret
        exact ⟨by first | rfl | rw [if_neg ha], rfl⟩
    · have ha := h2 (by omega)
      by_cases hb : b = 0
      · have hx : (b != 0) = false := by simp [hb]
        go_wp2
        go_roundg 0
        case measure => omega
        case rel => exact ⟨rfl, 2, by omega, by omega, rfl, fun _ => ha, fun _ => hb⟩
      · have hx : (b != 0) = true := by simp [hb]
        go_wp2
        go_ret
        exact ⟨by first | rfl | rw [if_pos ha], rfl⟩
    · have ha := h2 (by omega)
      have hb := h3 (by omega)
      go_wp2
      go_ret
      exact ⟨by first | rw [if_pos ha, hb]; done | rw [hb]; done | simp_all, rfl⟩
/-- What order answers. -/
def cfIt (x y : It) : Int := if cmpI x.1 y.1 = 0 then cmpI x.2 y.2 else cmpI x.1 y.1
set_option maxRecDepth 100000 in
set_option maxHeartbeats 4000000 in
theorem order_any (x y : It) (w : World) :
    Calls Tryz.prog 82 #[.agg #[.int .i64 (x.1 : Int), .int .i64 (x.2 : Int)], .agg #[.int .i64 (y.1 : Int), .int .i64 (y.2 : Int)]] w fun e w' => e = .returned (.int .i64 (cfIt x y)) ∧ ∃ q os', w' = Sort.grow (w.drewN q) os' := by
  have hc1 := cmp_any (x.1 : Int) (y.1 : Int)
  have hc2 := cmp_any (x.2 : Int) (y.2 : Int)
  unfold cfIt
  generalize cmpI x.1 y.1 = c1 at *
  generalize cmpI x.2 y.2 = c2 at *
  have ho := fun g c w h0 h1 => or_any c1 c2 g c w h0 h1
  generalize (if c1 = 0 then c2 else c1) = r at ho ⊢
  go_enter Tryz.func82, Tryz.ntmps82
  go_wp2
  generalize hw1 : (w.alloc (.cells #[.int .i64 (x.1 : Int), .int .i64 (x.2 : Int)] 53)).alloc (.cells #[.int .i64 (y.1 : Int), .int .i64 (y.2 : Int)] 53) = w1
  have B0 : Blk w1 w.heap.size 53 #[.int .i64 (x.1 : Int), .int .i64 (x.2 : Int)] := by rw [← hw1]; exact (Blk.new w _ _).alloc _
  have B1 : Blk w1 (w.heap.size + 1) 53 #[.int .i64 (y.1 : Int), .int .i64 (y.2 : Int)] := by rw [← hw1]; exact Blk.new_ (by simp) _ _
  have hG : w1 = Sort.grow (w.drewN 0) #[.cells #[.int .i64 (x.1 : Int), .int .i64 (x.2 : Int)] 53, .cells #[.int .i64 (y.1 : Int), .int .i64 (y.2 : Int)] 53] := by
    rw [← hw1, Sort.alloc_eq_grow, Sort.alloc_eq_grow, Sort.grow_grow]; rfl
  obtain ⟨p0, p1, pf⟩ := B0.facts2
  obtain ⟨q0, q1, qf⟩ := B1.facts2
  have HG := Lib.hid hG
  clear hG B0 B1
  clear hw1
  generalize w.heap.size = b0 at *
  go_still_tail 10, (by kernel_rfl)
  still_call (hc1 _)
  repeat still_step
  still_call (hc2 _)
  try refine wpStill_nil ?_
  change wpList _ _ _ _ _ w1.drew
  go_wp2_with fail
  have N := Blk.new_ (w := w1) rfl 3 #[.int .i64 c1, .int .i64 c2]
  refine (ho _ _ _ (N.drew.cell 0) (N.drew.cell 1)).mono ?_
  rintro e w' ⟨rfl, rfl⟩
  go_wp2_with fail
  go_ret
  refine ⟨rfl, 1, #[.cells #[.int .i64 (x.1 : Int), .int .i64 (x.2 : Int)] 53, .cells #[.int .i64 (y.1 : Int), .int .i64 (y.2 : Int)] 53] ++ #[.cells #[.int .i64 c1, .int .i64 c2] 3], ?_⟩
  rw [HG.out, Sort.alloc_eq_grow, Sort.grow_grow]
  rfl
theorem lt_cfIt (x y : It) : ltOf cfIt x y = !itLe y x := by
  unfold ltOf cfIt cmpI itLe
  rcases Nat.lt_trichotomy x.1 y.1 with h | h | h
  · have h1 : (x.1 : Int) < y.1 := by omega
    have h2 : ¬ y.1 < x.1 := by omega
    have h3 : ¬ y.1 = x.1 := by omega
    simp [h1, h2, h3]
  · have h1 : ¬ (x.1 : Int) < y.1 := by omega
    have h1' : ¬ (y.1 : Int) < x.1 := by omega
    rcases Nat.lt_trichotomy x.2 y.2 with k | k | k
    · have k1 : (x.2 : Int) < y.2 := by omega
      have k2 : ¬ y.2 ≤ x.2 := by omega
      simp [h1, h1', h, k1, k2]
    · simp [h1, h1', h, k]
    · have k1 : ¬ (x.2 : Int) < y.2 := by omega
      have k2 : y.2 ≤ x.2 := by omega
      have k3 : (y.2 : Int) < x.2 := by omega
      simp [h1, h1', h, k1, k2, k3]
  · have h1 : ¬ (x.1 : Int) < y.1 := by omega
    have h2 : (y.1 : Int) < x.1 := by omega
    simp [h1, h, h2]
theorem swo_cfIt : SWO (ltOf cfIt) where
  irrefl x := by rw [lt_cfIt]; have := itLe_total x x; simp_all
  trans x y z h1 h2 := by
    rw [lt_cfIt] at *
    have a := itLe_total x y; have b := itLe_total y z
    simp at h1 h2 ⊢
    rw [h1] at a; rw [h2] at b; simp at a b
    cases hz : itLe z x with
    | false => rfl
    | true => have := itLe_trans (itLe_trans hz a) b; have := itLe_trans hz a; simp_all
  ntrans x y z h1 h2 := by
    rw [lt_cfIt] at *
    simp at h1 h2 ⊢
    exact itLe_trans h2 h1
end Go.Proofs.YtknpkndiflodbaaGreatDoor.Tb
set_option linter.unusedVariables false
set_option linter.unusedSimpArgs false
namespace Go.Proofs.YtknpkndiflodbaaGreatDoor.Tb
open Go Go.RowKit Go.Proofs Mx

@[local go_sem] theorem guardIt : Tryz.prog.eqGuardType Tryz.prog.depth 53 = false := by kernel_rfl
/-- Two elements' cells. -/
theorem it_cells {w : World} {B g cap : Nat} {t : TypeId} {l : List It} {n : Nat} (h : w.ownsRow B t 2 (.slice (some ⟨g, 0, none⟩) n cap) n (flatK encIt l)) (hn : n = l.length) (i : Nat) (x : It) (hx : l[i]? = some x) :
    w.cell? ⟨g, i * 2, none⟩ = some (.int .i64 (x.1 : Int)) ∧ w.cell? ⟨g, i * 2 + 1, none⟩ = some (.int .i64 (x.2 : Int)) := by
  have hi := (List.getElem?_eq_some_iff.1 hx).1
  constructor
  · rw [h.cellAt (i * 2) (by omega)]
    exact flatK_get encIt_len l i x 0 _ hx rfl
  · rw [h.cellAt (i * 2 + 1) (by omega)]
    exact flatK_get encIt_len l i x 1 _ hx rfl
theorem flat_set : ∀ (l : List It) (i : Nat) (x : It), i < l.length → ((flatK encIt l).set (i * 2) (.int .i64 (x.1 : Int))).set (i * 2 + 1) (.int .i64 (x.2 : Int)) = flatK encIt (l.set i x)
  | [], i, x, h => by simp at h
  | y :: l, 0, x, h => by simp [flatK_cons, encIt]
  | y :: l, i + 1, x, h => by
    have ih := flat_set l i x (by simpa using h)
    rw [flatK_cons, List.set_cons_succ, flatK_cons, ← ih]
    have e1 : (i + 1) * 2 = (encIt y).length + i * 2 := by rw [encIt_len]; omega
    have e2 : (i + 1) * 2 + 1 = (encIt y).length + (i * 2 + 1) := by rw [encIt_len]; omega
    rw [e1, List.set_append_right _ _ (by omega), Nat.add_sub_cancel_left, show (encIt y).length + i * 2 + 1 = (encIt y).length + (i * 2 + 1) by omega, List.set_append_right _ _ (by omega), Nat.add_sub_cancel_left]
theorem compact_short (l : List It) (h : l.length < 2) : compactIt l = l := by
  match l, h with
  | [], _ => rfl
  | [x], _ => rfl
theorem it_eq (x y : It) : x = y ↔ x.1 = y.1 ∧ x.2 = y.2 := by cases x; cases y; simp
set_option maxRecDepth 100000 in
set_option maxHeartbeats 4000000 in
theorem compact_any (l : List It) (B : Nat) (v : Value) (w : World) (h : w.ownsRow B 53 2 v l.length (flatK encIt l)) (hmax0 : l.length < 4611686018427387904) :
    Calls Tryz.prog 83 #[v] w fun e w' => ∃ v', e = .returned v' ∧ SliceK (TyD B 53 w') encIt 2 w' v' (compactIt l) ∧ w.grownBy w' v.ownBlock := by
  by_cases hs : l.length < 2
  · rw [compact_short l hs]
    have hsl : SliceK (TyD B 53 w) encIt 2 w v l := own_sliceT encIt_len h
    obtain ⟨a, cap, rfl, hK⟩ := hsl
    have hs' : (l.length : Int) < 2 := by omega
    have HK := Lib.hid (And.intro h hK)
    clear h hK
    go_enter Tryz.func83, Tryz.ntmps83
    go_wp2
    go_ret
    exact ⟨_, rfl, ⟨a, cap, rfl, HK.out.2⟩, grown_refl _ _⟩
  · obtain ⟨g, cap, rfl, hBg⟩ : ∃ g cap, v = .slice (some ⟨g, 0, none⟩) l.length cap ∧ B ≤ g := by
      rcases h.2 with ⟨rfl, h1⟩ | ⟨g, cap, cur, rfl, hg, _⟩
      · omega
      · exact ⟨g, cap, rfl, hg⟩
    have hcap : l.length ≤ cap ∧ cap ≤ maxLen := by
      rcases h.2 with ⟨h1, _⟩ | ⟨g, cap, cur, h1, hg, _, h2, h3, _⟩
      · cases h1
      · injection h1 with e1 e2 e3; subst e3; exact ⟨h2, h3⟩
    obtain ⟨n, hnl⟩ : ∃ n, l.length = n := ⟨_, rfl⟩
    rw [hnl] at h hs hcap hmax0 ⊢
    have hmax : (n : Int) < 4611686018427387904 := by omega
    clear hmax0
    have hge : ¬ (n : Int) < 2 := by omega
    have HL := Lib.hid (And.intro hnl (And.intro h (And.intro hcap hBg)))
    clear hnl h hs hBg hcap
    go_enter Tryz.func83, Tryz.ntmps83
    go_wp2
    go_loopg [3] (n - 1) (fun m v3 wr => ∃ k q, 1 ≤ k ∧ k ≤ n ∧ m = n - k ∧ v3 = .int .i64 (k : Nat) ∧ wr = w.drewN q ∧ compactIt (l.take k) = l.take k)
    case atStart =>
      exact ⟨1, 0, by omega, by omega, rfl, rfl, rfl, compact_short _ (by simp; omega)⟩
    case round =>
      obtain ⟨k, q, hk1, hkn, hm, rfl, rfl, hc⟩ := hrel
      by_cases hlt : k < n
      · obtain ⟨j, rfl⟩ : ∃ j, k = j + 1 := ⟨k - 1, by omega⟩
        have hlen := HL.out.1
        obtain ⟨y, hy⟩ : ∃ y, l[j]? = some y := ⟨_, List.getElem?_eq_getElem (by omega)⟩
        obtain ⟨x, hx⟩ : ∃ x, l[j + 1]? = some x := ⟨_, List.getElem?_eq_getElem (by omega)⟩
        have hcx := it_cells HL.out.2.1 (HL.out.1.symm) _ x hx
        have hcy := it_cells HL.out.2.1 (HL.out.1.symm) _ y hy
        have hct := compactIt_take l j (by omega)
        have ey : l[j] = y := (List.getElem?_eq_some_iff.1 hy).2
        have ex : l[j + 1] = x := (List.getElem?_eq_some_iff.1 hx).2
        rw [ey, ex] at hct
        have A := Lib.hid (And.intro hm (And.intro hc (And.intro hct (And.intro hy hx))))
        obtain ⟨kk, hkk⟩ : ∃ kk, j + 1 = kk := ⟨_, rfl⟩
        rw [hkk] at hcx hlt
        have hwk : IntKind.i64.wrap ((kk : Int) - 1) = (j : Int) := by rw [IntKind.wrap_i64]; omega
        obtain ⟨cx1, cx2⟩ := hcx
        obtain ⟨cy1, cy2⟩ := hcy
        have hj0 : (0 : Int) ≤ (j : Int) := by omega
        have hjn : (j : Int) < (n : Int) := by omega
        have hk0 : (0 : Int) ≤ (kk : Int) := by omega
        have hkn' : (kk : Int) < (n : Int) := by omega
        clear hm hc hct hy hx ey ex hlen hk1 hkn
        obtain ⟨x1, x2⟩ := x
        obtain ⟨y1, y2⟩ := y
        have hkx := Lib.hid hkk
        rw [hkk]
        clear hkk hlt
        by_cases e : ((x1, x2) : It) = (y1, y2)
        · have he := Lib.hid e
          clear e
          have hlt' : kk < n := by omega
          have hkk0 : 1 ≤ kk := by have := hkx.out; omega
          injection he.out with e1 e2
          subst e1
          subst e2
          have hkn1 : (kk : Int) ≤ (n : Int) := by omega
          have hcp := HL.out.2.2.1
          have hcp0 : n ≤ cap := hcp.1
          have hcp1 : (n : Int) ≤ (cap : Int) := by omega
          have hkc : (kk : Int) ≤ (cap : Int) := by omega
          have hkN : kk ≤ n := by omega
          clear hcp
          go_wp2
          go_quiet (fail)
          go_wp2_with fail
          obtain ⟨N, hN⟩ : ∃ N, n - kk = N := ⟨_, rfl⟩
          rw [hN]
          have HK := Lib.hid (And.intro hN (And.intro hlt' hkk0))
          have hNb : (N : Int) < 4611686018427387904 := by omega
          clear hN hkk0 hlt' hkn1 hcp0 hcp1 hkc hkN cx1 cx2 cy1 cy2 hwk hj0 hjn hkn'
          go_loopg [3, 5] (N - 1) (fun m v3 v5 wr => ∃ (p k' : Nat) (L' : List It), 1 ≤ p ∧ p ≤ N ∧ m = N - p ∧ v5 = .int .i64 (p : Nat) ∧ v3 = .int .i64 (k' : Nat) ∧ wr.ownsRow B 53 2 (.slice (some ⟨g, 0, none⟩) n cap) n (flatK encIt L') ∧ L'.length = n ∧
              L'.take k' = compactIt (l.take (kk + p)) ∧ k' < kk + p ∧ (∀ i, k' ≤ i → L'[i]? = l[i]?) ∧ w.grownBy wr (some g))
          case atStart =>
            refine ⟨1, kk, l, by omega, by have := HK.out; omega, rfl, rfl, rfl, HL.out.2.1, HL.out.1, ?_, by omega, fun _ _ => rfl, grown_drewN (grown_refl _ _) _⟩
            have h1 := A.out.2.2.1
            simp only [if_true] at h1
            have h2 := A.out.2.1
            rw [hkx.out] at h1 h2
            rw [← hkx.out]
            rw [h1, show j + 1 = kk from hkx.out, h2]
          case round =>
            obtain ⟨p, k', L', hp1, hpN, hm, rfl, rfl, hown, hL', htk, hkp, hrest, hgr⟩ := hrel
            have hkN := HK.out
            have hnl := HL.out.1
            have R := Lib.hid (And.intro hm (And.intro hown (And.intro hL' (And.intro htk (And.intro hkp (And.intro hrest hgr))))))
            by_cases hlp : p < N
            · obtain ⟨r, rfl⟩ : ∃ r, p = r + 1 := ⟨p - 1, by omega⟩
              obtain ⟨y, hy⟩ : ∃ y, l[kk + r]? = some y := ⟨_, List.getElem?_eq_getElem (by omega)⟩
              obtain ⟨x, hx⟩ : ∃ x, l[kk + (r + 1)]? = some x := ⟨_, List.getElem?_eq_getElem (by omega)⟩
              obtain ⟨z, hz⟩ : ∃ z, L'[k']? = some z := ⟨_, List.getElem?_eq_getElem (by omega)⟩
              obtain ⟨cx1, cx2⟩ := it_cells hown hL'.symm (kk + (r + 1)) x (by rw [hrest _ (by omega)]; exact hx)
              obtain ⟨cy1, cy2⟩ := it_cells hown hL'.symm (kk + r) y (by rw [hrest _ (by omega)]; exact hy)
              obtain ⟨cz1, cz2⟩ := it_cells hown hL'.symm k' z hz
              have hfz := hown.frozenAt
              rw [Nat.add_mul] at cx1 cx2 cy1 cy2
              have hct := compactIt_take l (kk + r) (by omega)
              rw [(List.getElem?_eq_some_iff.1 hy).2, show l[kk + r + 1] = x from (List.getElem?_eq_some_iff.1 hx).2] at hct
              have R2 := Lib.hid (And.intro hct (And.intro hx hy))
              have hkn2 : k' < n := by omega
              clear hm hown hL' htk hkp hrest hgr hct hx hy hz hkN hnl
              obtain ⟨q, hq⟩ : ∃ q, r + 1 = q := ⟨_, rfl⟩
              rw [hq] at cx1 cx2 hlp
              have hwq : IntKind.i64.wrap ((q : Int) - 1) = (r : Int) := by rw [IntKind.wrap_i64]; omega
              have hr0 : (0 : Int) ≤ (r : Int) := by omega
              have hrN : (r : Int) < (N : Int) := by omega
              have hq0 : (0 : Int) ≤ (q : Int) := by omega
              have hqN : (q : Int) < (N : Int) := by omega
              have hz0 : (0 : Int) ≤ (k' : Int) := by omega
              have hzn : (k' : Int) < (n : Int) := by omega
              rw [hq]
              have HQ := Lib.hid hq
              clear hq hp1 hpN hlp
              obtain ⟨a1, a2⟩ := x
              obtain ⟨b1, b2⟩ := y
              by_cases e : ((a1, a2) : It) = (b1, b2)
              · have he' := Lib.hid e
                clear e
                injection he'.out with e1 e2
                subst e1
                subst e2
                go_wp2_with fail
                go_quiet (fail)
                go_wp2_with fail
                go_roundg (N - (q + 1))
                case measure => have := R.out.1; have := HQ.out; omega
                case rel =>
                  have hq := HQ.out
                  refine ⟨q + 1, k', L', by omega, by omega, rfl, rfl, rfl, R.out.2.1, R.out.2.2.1, ?_, by have := R.out.2.2.2.2.1; omega, R.out.2.2.2.2.2.1, grown_drewN R.out.2.2.2.2.2.2 _⟩
                  have h1 := R2.out.1
                  simp only [if_true] at h1
                  rw [R.out.2.2.2.1, show kk + (q + 1) = kk + r + 2 by omega, h1, show kk + (r + 1) = kk + r + 1 by omega]
              · have he' := Lib.hid e
                have hne : (a1 = b1 ∧ ¬ (a2 : Int) = (b2 : Int)) ∨ ¬ (a1 : Int) = (b1 : Int) := by
                  by_cases h1 : a1 = b1
                  · refine .inl ⟨h1, fun h2 => e (by rw [h1, Int.ofNat.inj h2])⟩
                  · exact .inr (fun h2 => h1 (Int.ofNat.inj h2))
                clear e
                rcases hne with ⟨rfl, hne⟩ | hne
                all_goals
                  go_wp2_with fail
                  go_quiet (fail)
                  go_wp2_with fail
                  go_roundg (N - (q + 1))
                  case measure => have := R.out.1; have := HQ.out; omega
                  case rel =>
                    have hq := HQ.out
                    have hn := HL.out.1
                    have h1 := own_put (own_put R.out.2.1 (k' * 2) (by omega) (.int .i64 (a1 : Int))) (k' * 2 + 1) (by omega) (.int .i64 (a2 : Int))
                    have hL' := R.out.2.2.1
                    have hs := flat_set L' k' (a1, a2) (by omega)
                    rw [hs] at h1
                    refine ⟨q + 1, k' + 1, L'.set k' (a1, a2), by omega, by omega, rfl, rfl, rfl, h1, by simpa using hL', ?_, by have := R.out.2.2.2.2.1; omega, ?_, grown_set (p := ⟨g, k' * 2 + 1, none⟩) (grown_set (p := ⟨g, k' * 2, none⟩) (grown_drewN R.out.2.2.2.2.2.2 _) rfl _) rfl _⟩
                    · have h2 := R2.out.1
                      rw [if_neg (fun h => he'.out h.symm)] at h2
                      rw [show kk + (q + 1) = kk + r + 2 by omega, h2, show kk + r + 1 = kk + (r + 1) by omega, ← R.out.2.2.2.1]
                      rw [List.take_succ_eq_append_getElem (by simp; omega), List.take_set_of_le (Nat.le_refl _)]
                      simp
                    · intro i hi
                      rw [List.getElem?_set_ne (by omega)]
                      exact R.out.2.2.2.2.2.1 i (by omega)
            · obtain rfl : p = N := by omega
              have hk'n : k' < n := by omega
              obtain ⟨vs, hvs⟩ : ∃ vs, (Builtin.zeroCells (Value.agg #[.int .i64 0, .int .i64 0]).cells (n - k')).toList = vs := ⟨_, rfl⟩
              have hvl : vs.length = (n - k') * 2 := by rw [← hvs, zero_cells_len]; rfl
              have hv1 : ∀ u ∈ vs, u.oneCell' = true := by
                intro u hu
                rw [← hvs] at hu
                simp only [Builtin.zeroCells, Array.toList_map, List.mem_map] at hu
                obtain ⟨i, _, rfl⟩ := hu
                have hmod : i % 2 = 0 ∨ i % 2 = 1 := by omega
                show (#[Value.int .i64 0, Value.int .i64 0][i % 2]!).oneCell' = true
                rcases hmod with e | e <;> rw [e] <;> rfl
              have hclr : ∀ ty, (Builtin.clear_ #[50] ty #[.slice (some ⟨g, k' * 2, none⟩) (n - k') (cap - k')]).run Tryz.prog wr = .ok (.tuple #[]) (wr.setCells g (k' * 2) vs) := fun ty =>
                run_clear_cells wr _ 53 ty _ Tryz.underlying50 Tryz.zeroValue53 vs g (k' * 2) (n - k') (cap - k') (by omega) hvs hv1
                  (fun j hj => by
                    rw [hvl] at hj
                    rw [hown.cellAt _ (by omega)]
                    simp [flatK_len encIt_len, hL']; omega)
                  (fun j hj => hown.frozenAt _)
              have HE := Lib.hid (own_fars vs (k' * 2) wr (Nat.le_refl _) (own_cut hown (Nat.le_of_lt hk'n)))
              have hcp := HL.out.2.2.1
              have hcp0 : n ≤ cap := hcp.1
              have hcp1 : (n : Int) ≤ (cap : Int) := by omega
              have hkc : (k' : Int) ≤ (cap : Int) := by omega
              have hkn1 : (k' : Int) ≤ (n : Int) := by omega
              have hkNN : k' ≤ n := by omega
              have hkcN : k' ≤ cap := by omega
              clear hm hown hL' htk hkp hrest hgr hvs hvl hv1 hcp
              go_wp2_with fail
              go_ret
              have hK := HK.out
              have hn := HL.out.1
              have hL' := R.out.2.2.1
              have htk := R.out.2.2.2.1
              rw [show kk + p = l.length by omega, List.take_length] at htk
              have hlk : (L'.take k').length = k' := by rw [List.length_take]; omega
              have h1 := HE.out
              rw [flatK_take encIt_len] at h1
              refine ⟨_, rfl, ?_, grown_sets _ _ _ R.out.2.2.2.2.2.2⟩
              rw [← htk]
              have h2 : (wr.setCells g (k' * 2) vs).ownsRow B 53 2 (.slice (some ⟨g, 0, none⟩) k' cap) (L'.take k').length (flatK encIt (L'.take k')) := by rw [hlk]; exact h1
              exact own_sliceT encIt_len h2
        · have he := Lib.hid e
          have hne : (x1 = y1 ∧ ¬ (x2 : Int) = (y2 : Int)) ∨ ¬ (x1 : Int) = (y1 : Int) := by
            by_cases h1 : x1 = y1
            · refine .inl ⟨h1, fun h2 => e (by rw [h1, Int.ofNat.inj h2])⟩
            · exact .inr (fun h2 => h1 (Int.ofNat.inj h2))
          clear e
          rcases hne with ⟨rfl, hne⟩ | hne
          all_goals
            go_wp2
            go_quiet (fail)
            go_wp2
            go_roundg (n - (kk + 1))
            case measure => have := A.out.1; have := hkx.out; omega
            case rel =>
              refine ⟨kk + 1, q + nq, by omega, by omega, rfl, rfl, rfl, ?_⟩
              have h1 := A.out.2.2.1
              rw [if_neg (fun h => he.out h.symm)] at h1
              have h2 := A.out.2.1
              rw [hkx.out] at h1 h2
              rw [← hkx.out, h1, show j + 1 = kk from hkx.out, h2, ← hkx.out]
              have h3 := List.take_succ_eq_append_getElem (l := l) (i := j + 1) (by have := HL.out.1; omega)
              rw [h3, (List.getElem?_eq_some_iff.1 A.out.2.2.2.2).2]
      · obtain rfl : k = n := by omega
        have A := Lib.hid hc
        clear hc
        go_wp2
        go_ret
        refine ⟨_, rfl, ?_, grown_drewN (grown_refl _ _) _⟩
        have h1 := A.out
        rw [← HL.out.1, List.take_length] at h1
        rw [h1]
        have hsl : SliceK (TyD B 53 w) encIt 2 w (.slice (some ⟨g, 0, none⟩) k cap) l := own_sliceT encIt_len (by rw [HL.out.1]; exact HL.out.2.1)
        exact hsl.keep fun _ hg _ => ⟨hg, rfl⟩
end Go.Proofs.YtknpkndiflodbaaGreatDoor.Tb
set_option linter.unusedVariables false
set_option linter.unusedSimpArgs false
namespace Go.Proofs.YtknpkndiflodbaaGreatDoor.Tb
open Go Go.RowKit Go.Proofs Mx
theorem infoItem : (Tryz.prog.info? 53).map (fun i => (i.zero, i.size, i.bytes)) = some (some (.agg #[.int .i64 0, .int .i64 0]), 2, 16) := by kernel_rfl
theorem flat_one : ∀ (l : List It), ∀ u ∈ flatK encIt l, u.oneCell' = true
  | [], u, hu => by simp [flatK] at hu
  | x :: l, u, hu => by
    rw [flatK_cons] at hu
    rcases List.mem_append.1 hu with h | h
    · exact encIt_one x u h
    · exact flat_one l u h
theorem flatK_cell {α : Type} {enc : α → List Value} {k : Nat} (hk : ∀ x, (enc x).length = k) (hk0 : 0 < k) (l : List α) (t : Nat) (u : Value) (h : (flatK enc l)[t]? = some u) : ∃ x, l[t / k]? = some x ∧ (enc x)[t % k]? = some u := by
  have ht : t < (flatK enc l).length := (List.getElem?_eq_some_iff.1 h).1
  rw [flatK_len hk] at ht
  have h1 : t / k < l.length := Nat.div_lt_of_lt_mul (by rwa [Nat.mul_comm] at ht)
  have h2 := Nat.mod_lt t hk0
  refine ⟨l[t / k], List.getElem?_eq_getElem h1, ?_⟩
  have h3 : (enc l[t / k])[t % k]? = some ((enc l[t / k])[t % k]'(by rw [hk]; exact h2)) := List.getElem?_eq_getElem _
  have h4 := flatK_get hk l (t / k) _ (t % k) _ (List.getElem?_eq_getElem h1) h3
  rw [Nat.mul_comm, Nat.div_add_mod, h] at h4
  rw [h3, h4]
theorem addr_add (g o j : Nat) : (⟨g, o, none⟩ : Addr).add j = ⟨g, o + j, none⟩ := by
  unfold Addr.add
  by_cases h : j = 0 <;> simp [h]
theorem clone_any (D : Nat → Prop) (l : List It) (v : Value) (w : World) (h : SliceK D encIt 2 w v l) (hn : l.length ≤ 1000000000000) :
    Calls Tryz.prog 41 #[v] w fun e w' => ∃ v', e = .returned v' ∧ w'.ownsRow w.heap.size 53 2 v' l.length (flatK encIt l) ∧ Below w.heap.size w w' := by
  obtain ⟨a, cap, rfl, hc1, hc2, hK⟩ := h
  obtain ⟨i0, hi, hz0, hz1, hz2⟩ := info_parts infoItem
  have q50 : ∀ (w : World) (a : Option Addr) (n c n' c' : Nat), (binOp .eql 50 (.slice a n c) (.slice none n' c')).run Tryz.prog w = .ok (.bool a.isNone) w := fun w a n c n' c' => Lib.run_eql_slice_nil w _ _ a n c n' c' Tryz.underlying50
  cases a with
  | none =>
    have hl : l = [] := by
      apply Classical.byContradiction
      intro hl
      obtain ⟨g, o, e, _⟩ := hK hl
      cases e
    subst hl
    clear hK
    go_enter Tryz.func41, Tryz.ntmps41
    go_wp2
    go_ret
    exact ⟨_, rfl, World.ownsRow_nil _ _ _ _, Below.refl _ _⟩
  | some ad =>
    have hcell : ∀ j u, (flatK encIt l)[j]? = some u → w.cell? (ad.add j) = some u := by
      intro j u hu
      have hl : l ≠ [] := by rintro rfl; simp [flatK] at hu
      obtain ⟨g, o, e, _, hr⟩ := hK hl
      have e := Option.some.inj e
      subst e
      obtain ⟨x, hx, hxu⟩ := flatK_cell encIt_len (by decide) l j u hu
      have := hr.cells _ x hx _ u hxu
      rw [show o + j / 2 * 2 + j % 2 = o + j by omega] at this
      rw [addr_add]
      exact this
    have A := Lib.hid hcell
    clear hK hcell
    go_enter Tryz.func41, Tryz.ntmps41
    go_wp2_with (at_builtin; refine wpList_append_own _ rfl _ _ 50 rfl w.heap.size 53 i0 (.agg #[.int .i64 0, .int .i64 0]) 2 16 Tryz.underlying50 hi hz0 hz1 hz2 rfl (by decide) _ _ _ rfl (World.ownsRow_made w #[] 0 (Nat.le_refl _) (Nat.zero_le _) (by simp)) ad l.length cap (flatK encIt l) rfl ?c0 ?c1 ?c2 ?c3 ?c4 ?c5 ?_)
    case c0 => exact flatK_len encIt_len l
    case c1 =>
      intro j u hj
      exact cell_alloc_ (A.out j u hj) _
    case c2 => exact flat_one l
    case c3 => have := hc1; have := hc2; omega
    case c4 => omega
    case c5 => simp
    intro v' w1 hown hg _
    have H := Lib.hid (And.intro hown hg)
    clear hown hg
    go_wp2_with fail
    go_ret
    have h1 := H.out.1
    first | rw [Nat.zero_add, List.nil_append] at h1 | skip
    refine ⟨_, rfl, h1, ?_⟩
    exact ((Below.refl _ w).alloc (Nat.le_refl _) _).grown H.out.2 (by simp) (fun b hb => by simp [Value.ownBlock] at hb; omega)
end Go.Proofs.YtknpkndiflodbaaGreatDoor.Tb
