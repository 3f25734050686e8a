/- Walks and plain laws that the last text stands on: TbOrderA, TbMaker. -/
import Derived.Test.YtknpkndiflodbaaGreatDoorProg
import Derived.Test.YtknpkndiflodbaaGreatDoorTs2
import Derived.Shelf.SlSortCmp.Insertion
import Derived.Sort.Statements
import Derived.KernelRfl
import Derived.RegionTactic
import Derived.Deep.RegionWith
import Derived.Deep.QuietTactic
import Derived.BigQuiet
import Derived.StillTailTactics
import Derived.Sort.Grow
import Derived.Test.YtknpkndiflodbaaGreatDoorTs1
import Derived.Laws.StructEq
import Derived.OwnWalk
import Derived.Test.YtknpkndiflodbaaGreatDoorTs4
set_option linter.unusedVariables false
set_option linter.unusedSimpArgs false
set_option maxRecDepth 100000
set_option maxHeartbeats 16000000
namespace Go.Proofs.YtknpkndiflodbaaGreatDoor.Tb
open Go Go.RowKit Go.Proofs Go.Sort Mx

theorem nan_any (x : Int) (w : World) : Calls Tryz.prog 122 #[.int .i64 x] w fun e w' => e = .returned (.bool false) /\ w = w' := by
 go_enter Tryz.func122, Tryz.ntmps122
 go_wp2
 go_ret
 exact ⟨by simp, rfl⟩
def cmpI (x y : Int) : Int := if x < y then -1 else if y < x then 1 else 0
theorem cmp_any (x y : Int) (w : World) : Calls Tryz.prog 97 #[.int .i64 x, .int .i64 y] w fun e w' => e = .returned (.int .i64 (cmpI x y)) /\ w' = w := by
 have hn := nan_any
 go_enter Tryz.func97, Tryz.ntmps97
 go_wp2_with (go_at_call 122; refine (hn _ _).mono ?_; rintro e w' ⟨rfl, rfl⟩)
 all_goals
  go_ret
  refine ⟨?_, rfl⟩
  unfold cmpI
  first
   | (simp_all; done)
   | (rw [if_neg (by omega), if_pos (by omega)]; done)
   | (rw [if_neg (by omega), if_neg (by omega)]; rfl)
theorem or_any (a b : Int) (g c : Nat) (w : World) (h0 : w.cell? ⟨g, 0, none⟩ = some (.int .i64 a)) (h1 : w.cell? ⟨g, 1, none⟩ = some (.int .i64 b)) :
  Calls Tryz.prog 96 #[.slice (some ⟨g, 0, none⟩) 2 c] w fun e w' => e = .returned (.int .i64 (if a = 0 then b else a)) /\ w' = w := by
 go_enter Tryz.func96, Tryz.ntmps96
 go_wp2
 go_loopg [8] 2 (fun m v8 wr => wr = w /\ ∃ i : Nat, i <= 2 /\ m = 2 - i /\ v8 = .int .i64 i /\ (0 < i -> a = 0) /\ (1 < i -> b = 0))
 case atStart => exact ⟨rfl, 0, by omega, rfl, rfl, by omega, by omega⟩
 case round =>
  obtain ⟨rfl, i, hi, hm, rfl, h2, h3⟩ := hrel
  rcases (show i = 0 ∨ i = 1 ∨ i = 2 by omega) with rfl | rfl | rfl
  ·by_cases ha : a = 0
   ·have hx : (a != 0) = false := by simp [ha]
    go_wp2
    go_roundg 1
    case measure => omega
    case rel => exact ⟨rfl, 1, by omega, by omega, rfl, fun _ => ha, by omega⟩
   ·have hx : (a != 0) = true := by simp [ha]
    go_wp2
    go_ret
    exact ⟨by first | rfl | rw [if_neg ha], rfl⟩
  ·have ha := h2 (by omega)
   by_cases hb : b = 0
   ·have hx : (b != 0) = false := by simp [hb]
    go_wp2
    go_roundg 0
    case measure => omega
    case rel => exact ⟨rfl, 2, by omega, by omega, rfl, fun _ => ha, fun _ => hb⟩
   ·have hx : (b != 0) = true := by simp [hb]
    go_wp2
    go_ret
    exact ⟨by first | rfl | rw [if_pos ha], rfl⟩
  ·have ha := h2 (by omega)
   have hb := h3 (by omega)
   go_wp2
   go_ret
   exact ⟨by first | rw [if_pos ha, hb]; done | rw [hb]; done | simp_all, rfl⟩
def cfIt (x y : It) : Int := if cmpI x.1 y.1 = 0 then cmpI x.2 y.2 else cmpI x.1 y.1
theorem order_any (x y : It) (w : World) :
  Calls Tryz.prog 82 #[.agg #[.int .i64 (x.1 : Int), .int .i64 (x.2 : Int)], .agg #[.int .i64 (y.1 : Int), .int .i64 (y.2 : Int)]] w fun e w' => e = .returned (.int .i64 (cfIt x y)) /\ ∃ q os', w' = Sort.grow (w.drewN q) os' := by
 have hc1 := cmp_any (x.1 : Int) (y.1 : Int)
 have hc2 := cmp_any (x.2 : Int) (y.2 : Int)
 unfold cfIt
 generalize cmpI x.1 y.1 = c1 at *
 generalize cmpI x.2 y.2 = c2 at *
 have ho := fun g c w h0 h1 => or_any c1 c2 g c w h0 h1
 generalize (if c1 = 0 then c2 else c1) = r at ho ⊢
 go_enter Tryz.func82, Tryz.ntmps82
 go_wp2
 generalize hw1 : (w.alloc (.cells #[.int .i64 (x.1 : Int), .int .i64 (x.2 : Int)] 53)).alloc (.cells #[.int .i64 (y.1 : Int), .int .i64 (y.2 : Int)] 53) = w1
 have B0 : Blk w1 w.heap.size 53 #[.int .i64 (x.1 : Int), .int .i64 (x.2 : Int)] := by rw [<- hw1]; exact (Blk.new w _ _).alloc _
 have B1 : Blk w1 (w.heap.size + 1) 53 #[.int .i64 (y.1 : Int), .int .i64 (y.2 : Int)] := by rw [<- hw1]; exact Blk.new_ (by simp) _ _
 have hG : w1 = Sort.grow (w.drewN 0) #[.cells #[.int .i64 (x.1 : Int), .int .i64 (x.2 : Int)] 53, .cells #[.int .i64 (y.1 : Int), .int .i64 (y.2 : Int)] 53] := by
  rw [<- hw1, Sort.alloc_eq_grow, Sort.alloc_eq_grow, Sort.grow_grow]; rfl
 obtain ⟨p0, p1, pf⟩ := B0.facts2
 obtain ⟨q0, q1, qf⟩ := B1.facts2
 have HG := Hd hG
 clear hG B0 B1
 clear hw1
 generalize w.heap.size = b0 at *
 go_still_tail 10, (by kernel_rfl)
 still_call (hc1 _)
 repeat still_step
 still_call (hc2 _)
 try refine wpStill_nil ?_
 change wpList _ _ _ _ _ w1.drew
 go_wp2_with fail
 have N := Blk.new_ (w := w1) rfl 3 #[.int .i64 c1, .int .i64 c2]
 refine (ho _ _ _ (N.drew.cell 0) (N.drew.cell 1)).mono ?_
 rintro e w' ⟨rfl, rfl⟩
 go_wp2_with fail
 go_ret
 refine ⟨rfl, 1, #[.cells #[.int .i64 (x.1 : Int), .int .i64 (x.2 : Int)] 53, .cells #[.int .i64 (y.1 : Int), .int .i64 (y.2 : Int)] 53] ++ #[.cells #[.int .i64 c1, .int .i64 c2] 3], ?_⟩
 rw [HG.out, Sort.alloc_eq_grow, Sort.grow_grow]
 rfl
theorem lt_cfIt (x y : It) : ltOf cfIt x y = !itLe y x := by
 unfold ltOf cfIt cmpI itLe
 rcases Nat.lt_trichotomy x.1 y.1 with h | h | h
 ·have h1 : (x.1 : Int) < y.1 := by omega
  have h2 : ¬ y.1 < x.1 := by omega
  have h3 : ¬ y.1 = x.1 := by omega
  simp [h1, h2, h3]
 ·have h1 : ¬ (x.1 : Int) < y.1 := by omega
  have h1' : ¬ (y.1 : Int) < x.1 := by omega
  rcases Nat.lt_trichotomy x.2 y.2 with k | k | k
  ·have k1 : (x.2 : Int) < y.2 := by omega
   have k2 : ¬ y.2 <= x.2 := by omega
   simp [h1, h1', h, k1, k2]
  ·simp [h1, h1', h, k]
  ·have k1 : ¬ (x.2 : Int) < y.2 := by omega
   have k2 : y.2 <= x.2 := by omega
   have k3 : (y.2 : Int) < x.2 := by omega
   simp [h1, h1', h, k1, k2, k3]
 ·have h1 : ¬ (x.1 : Int) < y.1 := by omega
  have h2 : (y.1 : Int) < x.1 := by omega
  simp [h1, h, h2]
theorem swo_cfIt : SWO (ltOf cfIt) where
 irrefl x := by rw [lt_cfIt]; have := itLe_total x x; simp_all
 trans x y z h1 h2 := by
  rw [lt_cfIt] at *
  have a := itLe_total x y; have b := itLe_total y z
  simp at h1 h2 ⊢
  rw [h1] at a; rw [h2] at b; simp at a b
  cases hz : itLe z x with
  | false => rfl
  | true => have := itLe_trans (itLe_trans hz a) b; have := itLe_trans hz a; simp_all
 ntrans x y z h1 h2 := by
  rw [lt_cfIt] at *
  simp at h1 h2 ⊢
  exact itLe_trans h2 h1
end Go.Proofs.YtknpkndiflodbaaGreatDoor.Tb
namespace Go.Proofs.YtknpkndiflodbaaGreatDoor.Tb
open Go Go.RowKit Go.Proofs Mx

@[local go_sem] theorem guardIt : Tryz.prog.eqGuardType Tryz.prog.depth 53 = false := by kernel_rfl
theorem it_cells {w : World} {B g cap : Nat} {t : TypeId} {l : List It} {n : Nat} (h : w.ownsRow B t 2 (.slice (some ⟨g, 0, none⟩) n cap) n (flatK encIt l)) (hn : n = l.length) (i : Nat) (x : It) (hx : l[i]? = some x) :
  w.cell? ⟨g, i * 2, none⟩ = some (.int .i64 (x.1 : Int)) /\ w.cell? ⟨g, i * 2 + 1, none⟩ = some (.int .i64 (x.2 : Int)) := by
 have hi := (List.getElem?_eq_some_iff.1 hx).1
 constructor
 ·rw [h.cellAt (i * 2) (by omega)]
  exact flatK_get encIt_len l i x 0 _ hx rfl
 ·rw [h.cellAt (i * 2 + 1) (by omega)]
  exact flatK_get encIt_len l i x 1 _ hx rfl
theorem flat_set : ∀ (l : List It) (i : Nat) (x : It), i < l.length -> ((flatK encIt l).set (i * 2) (.int .i64 (x.1 : Int))).set (i * 2 + 1) (.int .i64 (x.2 : Int)) = flatK encIt (l.set i x)
 | [], i, x, h => by simp at h
 | y :: l, 0, x, h => by simp [flatK_cons, encIt]
 | y :: l, i + 1, x, h => by
  have ih := flat_set l i x (by simpa using h)
  rw [flatK_cons, List.set_cons_succ, flatK_cons, <- ih]
  have e1 : (i + 1) * 2 = (encIt y).length + i * 2 := by rw [encIt_len]; omega
  have e2 : (i + 1) * 2 + 1 = (encIt y).length + (i * 2 + 1) := by rw [encIt_len]; omega
  rw [e1, List.set_append_right _ _ (by omega), Nat.add_sub_cancel_left, show (encIt y).length + i * 2 + 1 = (encIt y).length + (i * 2 + 1) by omega, List.set_append_right _ _ (by omega), Nat.add_sub_cancel_left]
theorem compact_short (l : List It) (h : l.length < 2) : compactIt l = l := by
 match l, h with
 | [], _ => rfl
 | [x], _ => rfl
theorem compact_any (l : List It) (B : Nat) (v : Value) (w : World) (h : w.ownsRow B 53 2 v l.length (flatK encIt l)) (hmax0 : l.length < 4611686018427387904) :
  Calls Tryz.prog 83 #[v] w fun e w' => ∃ v', e = .returned v' /\ SliceK (TyD B 53 w') encIt 2 w' v' (compactIt l) /\ w.grownBy w' v.ownBlock := by
 by_cases hs : l.length < 2
 ·rw [compact_short l hs]
  have hsl : SliceK (TyD B 53 w) encIt 2 w v l := own_sliceT encIt_len h
  obtain ⟨a, cap, rfl, hK⟩ := hsl
  have hs' : (l.length : Int) < 2 := by omega
  have HK := Hd (An h hK)
  clear h hK
  go_enter Tryz.func83, Tryz.ntmps83
  go_wp2
  go_ret
  exact ⟨_, rfl, ⟨a, cap, rfl, HK.out.2⟩, grown_refl _ _⟩
 ·obtain ⟨g, cap, rfl, hBg⟩ : ∃ g cap, v = .slice (some ⟨g, 0, none⟩) l.length cap /\ B <= g := by
   rcases h.2 with ⟨rfl, h1⟩ | ⟨g, cap, cur, rfl, hg, _⟩
   ·omega
   ·exact ⟨g, cap, rfl, hg⟩
  have hcap : l.length <= cap /\ cap <= maxLen := by
   rcases h.2 with ⟨h1, _⟩ | ⟨g, cap, cur, h1, hg, _, h2, h3, _⟩
   ·cases h1
   ·injection h1 with e1 e2 e3; subst e3; exact ⟨h2, h3⟩
  obtain ⟨n, hnl⟩ : ∃ n, l.length = n := ⟨_, rfl⟩
  rw [hnl] at h hs hcap hmax0 ⊢
  have hmax : (n : Int) < 4611686018427387904 := by omega
  clear hmax0
  have hge : ¬ (n : Int) < 2 := by omega
  have HL := Hd (An hnl (An h (An hcap hBg)))
  clear hnl h hs hBg hcap
  go_enter Tryz.func83, Tryz.ntmps83
  go_wp2
  go_loopg [3] (n - 1) (fun m v3 wr => ∃ k q, 1 <= k /\ k <= n /\ m = n - k /\ v3 = .int .i64 (k : Nat) /\ wr = w.drewN q /\ compactIt (l.take k) = l.take k)
  case atStart =>
   exact ⟨1, 0, by omega, by omega, rfl, rfl, rfl, compact_short _ (by simp; omega)⟩
  case round =>
   obtain ⟨k, q, hk1, hkn, hm, rfl, rfl, hc⟩ := hrel
   by_cases hlt : k < n
   ·obtain ⟨j, rfl⟩ : ∃ j, k = j + 1 := ⟨k - 1, by omega⟩
    have hlen := HL.out.1
    obtain ⟨y, hy⟩ : ∃ y, l[j]? = some y := ⟨_, List.getElem?_eq_getElem (by omega)⟩
    obtain ⟨x, hx⟩ : ∃ x, l[j + 1]? = some x := ⟨_, List.getElem?_eq_getElem (by omega)⟩
    have hcx := it_cells HL.out.2.1 (HL.out.1.symm) _ x hx
    have hcy := it_cells HL.out.2.1 (HL.out.1.symm) _ y hy
    have hct := compactIt_take l j (by omega)
    have ey : l[j] = y := (List.getElem?_eq_some_iff.1 hy).2
    have ex : l[j + 1] = x := (List.getElem?_eq_some_iff.1 hx).2
    rw [ey, ex] at hct
    have A := Hd (An hm (An hc (An hct (An hy hx))))
    obtain ⟨kk, hkk⟩ : ∃ kk, j + 1 = kk := ⟨_, rfl⟩
    rw [hkk] at hcx hlt
    have hwk : IntKind.i64.wrap ((kk : Int) - 1) = (j : Int) := by rw [IntKind.wrap_i64]; omega
    obtain ⟨cx1, cx2⟩ := hcx
    obtain ⟨cy1, cy2⟩ := hcy
    have hj0 : (0 : Int) <= (j : Int) := by omega
    have hjn : (j : Int) < (n : Int) := by omega
    have hk0 : (0 : Int) <= (kk : Int) := by omega
    have hkn' : (kk : Int) < (n : Int) := by omega
    clear hm hc hct hy hx ey ex hlen hk1 hkn
    obtain ⟨x1, x2⟩ := x
    obtain ⟨y1, y2⟩ := y
    have hkx := Hd hkk
    rw [hkk]
    clear hkk hlt
    by_cases e : ((x1, x2) : It) = (y1, y2)
    ·have he := Hd e
     clear e
     have hlt' : kk < n := by omega
     have hkk0 : 1 <= kk := by have := hkx.out; omega
     injection he.out with e1 e2
     subst e1
     subst e2
     have hkn1 : (kk : Int) <= (n : Int) := by omega
     have hcp := HL.out.2.2.1
     have hcp0 : n <= cap := hcp.1
     have hcp1 : (n : Int) <= (cap : Int) := by omega
     have hkc : (kk : Int) <= (cap : Int) := by omega
     have hkN : kk <= n := by omega
     clear hcp
     go_wp2
     go_quiet (fail)
     go_wp2_with fail
     obtain ⟨N, hN⟩ : ∃ N, n - kk = N := ⟨_, rfl⟩
     rw [hN]
     have HK := Hd (An hN (An hlt' hkk0))
     have hNb : (N : Int) < 4611686018427387904 := by omega
     clear hN hkk0 hlt' hkn1 hcp0 hcp1 hkc hkN cx1 cx2 cy1 cy2 hwk hj0 hjn hkn'
     go_loopg [3, 5] (N - 1) (fun m v3 v5 wr => ∃ (p k' : Nat) (L' : List It), 1 <= p /\ p <= N /\ m = N - p /\ v5 = .int .i64 (p : Nat) /\ v3 = .int .i64 (k' : Nat) /\ wr.ownsRow B 53 2 (.slice (some ⟨g, 0, none⟩) n cap) n (flatK encIt L') /\ L'.length = n /\
       L'.take k' = compactIt (l.take (kk + p)) /\ k' < kk + p /\ (∀ i, k' <= i -> L'[i]? = l[i]?) /\ w.grownBy wr (some g))
     case atStart =>
      refine ⟨1, kk, l, by omega, by have := HK.out; omega, rfl, rfl, rfl, HL.out.2.1, HL.out.1, ?_, by omega, fun _ _ => rfl, grown_drewN (grown_refl _ _) _⟩
      have h1 := A.out.2.2.1
      simp only [if_true] at h1
      have h2 := A.out.2.1
      rw [hkx.out] at h1 h2
      rw [<- hkx.out]
      rw [h1, show j + 1 = kk from hkx.out, h2]
     case round =>
      obtain ⟨p, k', L', hp1, hpN, hm, rfl, rfl, hown, hL', htk, hkp, hrest, hgr⟩ := hrel
      have hkN := HK.out
      have hnl := HL.out.1
      have R := Hd (An hm (An hown (An hL' (An htk (An hkp (An hrest hgr))))))
      by_cases hlp : p < N
      ·obtain ⟨r, rfl⟩ : ∃ r, p = r + 1 := ⟨p - 1, by omega⟩
       obtain ⟨y, hy⟩ : ∃ y, l[kk + r]? = some y := ⟨_, List.getElem?_eq_getElem (by omega)⟩
       obtain ⟨x, hx⟩ : ∃ x, l[kk + (r + 1)]? = some x := ⟨_, List.getElem?_eq_getElem (by omega)⟩
       obtain ⟨z, hz⟩ : ∃ z, L'[k']? = some z := ⟨_, List.getElem?_eq_getElem (by omega)⟩
       obtain ⟨cx1, cx2⟩ := it_cells hown hL'.symm (kk + (r + 1)) x (by rw [hrest _ (by omega)]; exact hx)
       obtain ⟨cy1, cy2⟩ := it_cells hown hL'.symm (kk + r) y (by rw [hrest _ (by omega)]; exact hy)
       obtain ⟨cz1, cz2⟩ := it_cells hown hL'.symm k' z hz
       have hfz := hown.frozenAt
       rw [Nat.add_mul] at cx1 cx2 cy1 cy2
       have hct := compactIt_take l (kk + r) (by omega)
       rw [(List.getElem?_eq_some_iff.1 hy).2, show l[kk + r + 1] = x from (List.getElem?_eq_some_iff.1 hx).2] at hct
       have R2 := Hd (An hct (An hx hy))
       have hkn2 : k' < n := by omega
       clear hm hown hL' htk hkp hrest hgr hct hx hy hz hkN hnl
       obtain ⟨q, hq⟩ : ∃ q, r + 1 = q := ⟨_, rfl⟩
       rw [hq] at cx1 cx2 hlp
       have hwq : IntKind.i64.wrap ((q : Int) - 1) = (r : Int) := by rw [IntKind.wrap_i64]; omega
       have hr0 : (0 : Int) <= (r : Int) := by omega
       have hrN : (r : Int) < (N : Int) := by omega
       have hq0 : (0 : Int) <= (q : Int) := by omega
       have hqN : (q : Int) < (N : Int) := by omega
       have hz0 : (0 : Int) <= (k' : Int) := by omega
       have hzn : (k' : Int) < (n : Int) := by omega
       rw [hq]
       have HQ := Hd hq
       clear hq hp1 hpN hlp
       obtain ⟨a1, a2⟩ := x
       obtain ⟨b1, b2⟩ := y
       by_cases e : ((a1, a2) : It) = (b1, b2)
       ·have he' := Hd e
        clear e
        injection he'.out with e1 e2
        subst e1
        subst e2
        go_wp2_with fail
        go_quiet (fail)
        go_wp2_with fail
        go_roundg (N - (q + 1))
        case measure => have := R.out.1; have := HQ.out; omega
        case rel =>
         have hq := HQ.out
         refine ⟨q + 1, k', L', by omega, by omega, rfl, rfl, rfl, R.out.2.1, R.out.2.2.1, ?_, by have := R.out.2.2.2.2.1; omega, R.out.2.2.2.2.2.1, grown_drewN R.out.2.2.2.2.2.2 _⟩
         have h1 := R2.out.1
         simp only [if_true] at h1
         rw [R.out.2.2.2.1, show kk + (q + 1) = kk + r + 2 by omega, h1, show kk + (r + 1) = kk + r + 1 by omega]
       ·have he' := Hd e
        have hne : (a1 = b1 /\ ¬ (a2 : Int) = (b2 : Int)) ∨ ¬ (a1 : Int) = (b1 : Int) := by
         by_cases h1 : a1 = b1
         ·refine .inl ⟨h1, fun h2 => e (by rw [h1, Int.ofNat.inj h2])⟩
         ·exact .inr (fun h2 => h1 (Int.ofNat.inj h2))
        clear e
        rcases hne with ⟨rfl, hne⟩ | hne
        all_goals
         go_wp2_with fail
         go_quiet (fail)
         go_wp2_with fail
         go_roundg (N - (q + 1))
         case measure => have := R.out.1; have := HQ.out; omega
         case rel =>
          have hq := HQ.out
          have hn := HL.out.1
          have h1 := own_put (own_put R.out.2.1 (k' * 2) (by omega) (.int .i64 (a1 : Int))) (k' * 2 + 1) (by omega) (.int .i64 (a2 : Int))
          have hL' := R.out.2.2.1
          have hs := flat_set L' k' (a1, a2) (by omega)
          rw [hs] at h1
          refine ⟨q + 1, k' + 1, L'.set k' (a1, a2), by omega, by omega, rfl, rfl, rfl, h1, by simpa using hL', ?_, by have := R.out.2.2.2.2.1; omega, ?_, grown_set (p := ⟨g, k' * 2 + 1, none⟩) (grown_set (p := ⟨g, k' * 2, none⟩) (grown_drewN R.out.2.2.2.2.2.2 _) rfl _) rfl _⟩
          ·have h2 := R2.out.1
           rw [if_neg (fun h => he'.out h.symm)] at h2
           rw [show kk + (q + 1) = kk + r + 2 by omega, h2, show kk + r + 1 = kk + (r + 1) by omega, <- R.out.2.2.2.1]
           rw [List.take_succ_eq_append_getElem (by simp; omega), List.take_set_of_le (Nat.le_refl _)]
           simp
          ·intro i hi
           rw [List.getElem?_set_ne (by omega)]
           exact R.out.2.2.2.2.2.1 i (by omega)
      ·obtain rfl : p = N := by omega
       have hk'n : k' < n := by omega
       obtain ⟨vs, hvs⟩ : ∃ vs, (Builtin.zeroCells (Value.agg #[.int .i64 0, .int .i64 0]).cells (n - k')).toList = vs := ⟨_, rfl⟩
       have hvl : vs.length = (n - k') * 2 := by rw [<- hvs, zero_cells_len]; rfl
       have hv1 : ∀ u ∈ vs, u.oneCell' = true := by
        intro u hu
        rw [<- hvs] at hu
        simp only [Builtin.zeroCells, Array.toList_map, List.mem_map] at hu
        obtain ⟨i, _, rfl⟩ := hu
        have hmod : i % 2 = 0 ∨ i % 2 = 1 := by omega
        show (#[Value.int .i64 0, Value.int .i64 0][i % 2]!).oneCell' = true
        rcases hmod with e | e <;> rw [e] <;> rfl
       have hclr : ∀ ty, (Builtin.clear_ #[50] ty #[.slice (some ⟨g, k' * 2, none⟩) (n - k') (cap - k')]).run Tryz.prog wr = .ok (.tuple #[]) (wr.setCells g (k' * 2) vs) := fun ty =>
        run_clear_cells wr _ 53 ty _ Tryz.underlying50 Tryz.zeroValue53 vs g (k' * 2) (n - k') (cap - k') (by omega) hvs hv1
         (fun j hj => by
          rw [hvl] at hj
          rw [hown.cellAt _ (by omega)]
          simp [flatK_len encIt_len, hL']; omega)
         (fun j hj => hown.frozenAt _)
       have HE := Hd (own_fars vs (k' * 2) wr (Nat.le_refl _) (own_cut hown (Nat.le_of_lt hk'n)))
       have hcp := HL.out.2.2.1
       have hcp0 : n <= cap := hcp.1
       have hcp1 : (n : Int) <= (cap : Int) := by omega
       have hkc : (k' : Int) <= (cap : Int) := by omega
       have hkn1 : (k' : Int) <= (n : Int) := by omega
       have hkNN : k' <= n := by omega
       have hkcN : k' <= cap := by omega
       clear hm hown hL' htk hkp hrest hgr hvs hvl hv1 hcp
       go_wp2_with fail
       go_ret
       have hK := HK.out
       have hn := HL.out.1
       have hL' := R.out.2.2.1
       have htk := R.out.2.2.2.1
       rw [show kk + p = l.length by omega, List.take_length] at htk
       have hlk : (L'.take k').length = k' := by rw [List.length_take]; omega
       have h1 := HE.out
       rw [flatK_take encIt_len] at h1
       refine ⟨_, rfl, ?_, grown_sets _ _ _ R.out.2.2.2.2.2.2⟩
       rw [<- htk]
       have h2 : (wr.setCells g (k' * 2) vs).ownsRow B 53 2 (.slice (some ⟨g, 0, none⟩) k' cap) (L'.take k').length (flatK encIt (L'.take k')) := by rw [hlk]; exact h1
       exact own_sliceT encIt_len h2
    ·have he := Hd e
     have hne : (x1 = y1 /\ ¬ (x2 : Int) = (y2 : Int)) ∨ ¬ (x1 : Int) = (y1 : Int) := by
      by_cases h1 : x1 = y1
      ·refine .inl ⟨h1, fun h2 => e (by rw [h1, Int.ofNat.inj h2])⟩
      ·exact .inr (fun h2 => h1 (Int.ofNat.inj h2))
     clear e
     rcases hne with ⟨rfl, hne⟩ | hne
     all_goals
      go_wp2
      go_quiet (fail)
      go_wp2
      go_roundg (n - (kk + 1))
      case measure => have := A.out.1; have := hkx.out; omega
      case rel =>
       refine ⟨kk + 1, q + nq, by omega, by omega, rfl, rfl, rfl, ?_⟩
       have h1 := A.out.2.2.1
       rw [if_neg (fun h => he.out h.symm)] at h1
       have h2 := A.out.2.1
       rw [hkx.out] at h1 h2
       rw [<- hkx.out, h1, show j + 1 = kk from hkx.out, h2, <- hkx.out]
       have h3 := List.take_succ_eq_append_getElem (l := l) (i := j + 1) (by have := HL.out.1; omega)
       rw [h3, (List.getElem?_eq_some_iff.1 A.out.2.2.2.2).2]
   ·obtain rfl : k = n := by omega
    have A := Hd hc
    clear hc
    go_wp2
    go_ret
    refine ⟨_, rfl, ?_, grown_drewN (grown_refl _ _) _⟩
    have h1 := A.out
    rw [<- HL.out.1, List.take_length] at h1
    rw [h1]
    have hsl : SliceK (TyD B 53 w) encIt 2 w (.slice (some ⟨g, 0, none⟩) k cap) l := own_sliceT encIt_len (by rw [HL.out.1]; exact HL.out.2.1)
    exact hsl.keep fun _ hg _ => ⟨hg, rfl⟩
end Go.Proofs.YtknpkndiflodbaaGreatDoor.Tb
namespace Go.Proofs.YtknpkndiflodbaaGreatDoor.Tb
open Go Go.RowKit Go.Proofs Mx
theorem infoItem : (Tryz.prog.info? 53).map (fun i => (i.zero, i.size, i.bytes)) = some (some (.agg #[.int .i64 0, .int .i64 0]), 2, 16) := by kernel_rfl
theorem flat_one : ∀ (l : List It), ∀ u ∈ flatK encIt l, u.oneCell' = true
 | [], u, hu => by simp [flatK] at hu
 | x :: l, u, hu => by
  rw [flatK_cons] at hu
  rcases List.mem_append.1 hu with h | h
  ·exact encIt_one x u h
  ·exact flat_one l u h
theorem flatK_cell {α : Type} {enc : α -> List Value} {k : Nat} (hk : ∀ x, (enc x).length = k) (hk0 : 0 < k) (l : List α) (t : Nat) (u : Value) (h : (flatK enc l)[t]? = some u) : ∃ x, l[t / k]? = some x /\ (enc x)[t % k]? = some u := by
 have ht : t < (flatK enc l).length := (List.getElem?_eq_some_iff.1 h).1
 rw [flatK_len hk] at ht
 have h1 : t / k < l.length := Nat.div_lt_of_lt_mul (by rwa [Nat.mul_comm] at ht)
 have h2 := Nat.mod_lt t hk0
 refine ⟨l[t / k], List.getElem?_eq_getElem h1, ?_⟩
 have h3 : (enc l[t / k])[t % k]? = some ((enc l[t / k])[t % k]'(by rw [hk]; exact h2)) := List.getElem?_eq_getElem _
 have h4 := flatK_get hk l (t / k) _ (t % k) _ (List.getElem?_eq_getElem h1) h3
 rw [Nat.mul_comm, Nat.div_add_mod, h] at h4
 rw [h3, h4]
theorem addr_add (g o j : Nat) : (⟨g, o, none⟩ : Addr).add j = ⟨g, o + j, none⟩ := by
 unfold Addr.add
 by_cases h : j = 0 <;> simp [h]
theorem clone_any (D : Nat -> Prop) (l : List It) (v : Value) (w : World) (h : SliceK D encIt 2 w v l) (hn : l.length <= 1000000000000) :
  Calls Tryz.prog 41 #[v] w fun e w' => ∃ v', e = .returned v' /\ w'.ownsRow w.heap.size 53 2 v' l.length (flatK encIt l) /\ Below w.heap.size w w' := by
 obtain ⟨a, cap, rfl, hc1, hc2, hK⟩ := h
 obtain ⟨i0, hi, hz0, hz1, hz2⟩ := info_parts infoItem
 have q50 : ∀ (w : World) (a : Option Addr) (n c n' c' : Nat), (binOp .eql 50 (.slice a n c) (.slice none n' c')).run Tryz.prog w = .ok (.bool a.isNone) w := fun w a n c n' c' => Lib.run_eql_slice_nil w _ _ a n c n' c' Tryz.underlying50
 cases a with
 | none =>
  have hl : l = [] := by
   apply Classical.byContradiction
   intro hl
   obtain ⟨g, o, e, _⟩ := hK hl
   cases e
  subst hl
  clear hK
  go_enter Tryz.func41, Tryz.ntmps41
  go_wp2
  go_ret
  exact ⟨_, rfl, World.ownsRow_nil _ _ _ _, Below.refl _ _⟩
 | some ad =>
  have hcell : ∀ j u, (flatK encIt l)[j]? = some u -> w.cell? (ad.add j) = some u := by
   intro j u hu
   have hl : l ≠ [] := by rintro rfl; simp [flatK] at hu
   obtain ⟨g, o, e, _, hr⟩ := hK hl
   have e := Option.some.inj e
   subst e
   obtain ⟨x, hx, hxu⟩ := flatK_cell encIt_len (by decide) l j u hu
   have := hr.cells _ x hx _ u hxu
   rw [show o + j / 2 * 2 + j % 2 = o + j by omega] at this
   rw [addr_add]
   exact this
  have A := Hd hcell
  clear hK hcell
  go_enter Tryz.func41, Tryz.ntmps41
  go_wp2_with (at_builtin; refine wpList_append_own _ rfl _ _ 50 rfl w.heap.size 53 i0 (.agg #[.int .i64 0, .int .i64 0]) 2 16 Tryz.underlying50 hi hz0 hz1 hz2 rfl (by decide) _ _ _ rfl (World.ownsRow_made w #[] 0 (Nat.le_refl _) (Nat.zero_le _) (by simp)) ad l.length cap (flatK encIt l) rfl ?c0 ?c1 ?c2 ?c3 ?c4 ?c5 ?_)
  case c0 => exact flatK_len encIt_len l
  case c1 =>
   intro j u hj
   exact cell_alloc_ (A.out j u hj) _
  case c2 => exact flat_one l
  case c3 => have := hc1; have := hc2; omega
  case c4 => omega
  case c5 => simp
  intro v' w1 hown hg _
  have H := Hd (An hown hg)
  clear hown hg
  go_wp2_with fail
  go_ret
  have h1 := H.out.1
  first | rw [Nat.zero_add, List.nil_append] at h1 | skip
  refine ⟨_, rfl, h1, ?_⟩
  exact ((Below.refl _ w).alloc (Nat.le_refl _) _).grown H.out.2 (by simp) (fun b hb => by simp [Value.ownBlock] at hb; omega)
structure SM where
 vi : Value
 ve : Value
 vd : Value
 items : List It
 edges : List (Sy × Nat)
 next : Nat
 done : List Nat
def encSM (s : SM) : List Value := [s.vi, s.ve, .int .u64 (wd s.next 0), .int .u64 (wd s.next 1), .int .u64 (wd s.next 2), .int .u64 (wd s.next 3), s.vd]
theorem encSM_len (s : SM) : (encSM s).length = 7 := rfl
def encEd (e : Sy × Nat) : List Value := encSy e.1 ++ [.int .i64 (e.2 : Int)]
theorem encEd_len (e : Sy × Nat) : (encEd e).length = 7 := rfl
structure SMok (g : Gr) (B : Nat) (w : World) (s : SM) : Prop where
 items : SliceK (TyD B 53 w) encIt 2 w s.vi s.items
 edges : SliceK (TyD B 125 w) encEd 7 w s.ve s.edges
 done : SliceK (TyD B 3 w) encN 1 w s.vd s.done
 ok : ∀ x ∈ s.items, itemOk g x = true
 len : s.items.length <= 10000
structure MkW (g : Gr) (B mb bm : Nat) (sm : List SM) (w : World) : Prop where
 mlt : mb < B
 blt : bm < B
 ne : mb ≠ bm
 size : B <= w.heap.size
 gr : MkR (fun b => b < B /\ b ≠ mb /\ b ≠ bm) w mb g
 met : w.cell? ⟨mb, 6, none⟩ = some (.map (some bm))
 fz : ∀ i, w.frozen? ⟨mb, i, none⟩ = false
 all : ∃ va, w.cell? ⟨mb, 7, none⟩ = some va /\ w.ownsRow B 104 7 va sm.length (flatK encSM sm)
 each : ∀ s ∈ sm, SMok g B w s
 map : ∃ f, MapV Tryz.prog 9 w bm sm.length f /\ ∀ l, f (.string (keyF l)) = ((sm.map (·.items)).findIdx? (· == l)).map fun (n : Nat) => Value.int .i64 (n : Int)
 many : sm.length <= 16384
structure KeepM (mb bm : Nat) (w w' : World) : Prop where
 os : w'.os = w.os
 tape : w'.tape = w.tape
 output : w'.output = w.output
 size : w.heap.size <= w'.heap.size
 block : ∀ b, b < w.heap.size -> b ≠ mb -> b ≠ bm -> (∀ c fz, w.heap[b]? ≠ some (.cells c 104 fz)) -> w'.heap[b]? = w.heap[b]?
 low : ∀ b, b < mb -> b < w.heap.size -> b ≠ bm -> w'.heap[b]? = w.heap[b]?
theorem KeepM.of {mb bm : Nat} {w w' : World} (h : Below w.heap.size w w') : KeepM mb bm w w' := ⟨h.os, h.tape, h.output, h.size, fun b hb _ _ _ => h.block b hb, fun b _ hb _ => h.block b hb⟩
theorem KeepM.trans {mb bm : Nat} {w w' w'' : World} (h : KeepM mb bm w w') (k : KeepM mb bm w' w'') : KeepM mb bm w w'' :=
 ⟨k.os.trans h.os, k.tape.trans h.tape, k.output.trans h.output, Nat.le_trans h.size k.size, fun b hb h1 h2 h3 => by
  have e := h.block b hb h1 h2 h3
  rw [<- e]
  exact k.block b (Nat.lt_of_lt_of_le hb h.size) h1 h2 (by rw [e]; exact h3), fun b h0 hb h1 => (k.low b h0 (Nat.lt_of_lt_of_le hb h.size) h1).trans (h.low b h0 hb h1)⟩
theorem KeepM.refl (mb bm : Nat) (w : World) : KeepM mb bm w w := ⟨rfl, rfl, rfl, Nat.le_refl _, fun _ _ _ _ _ => rfl, fun _ _ _ _ => rfl⟩
theorem KeepM.ty {mb bm B : Nat} {w w' : World} (h : KeepM mb bm w w') {t : TypeId} (ht : t ≠ 104) (hm : mb < B) (hb : bm < B) : ∀ g c fz, w.heap[g]? = some (.cells c t fz) -> B <= g -> w'.heap[g]? = w.heap[g]? := by
 intro g c fz e hB
 have hg : g < w.heap.size := (Array.getElem?_eq_some_iff.1 e).1
 refine h.block g hg (by omega) (by omega) (fun c' fz' e' => ?_)
 rw [e] at e'
 injection e' with e'
 injection e' with _ e' _
 exact ht e'
theorem SMok.keep {g : Gr} {B mb bm : Nat} {w w' : World} {s : SM} (h : SMok g B w s) (k : KeepM mb bm w w') (hm : mb < B) (hb : bm < B) : SMok g B w' s :=
 ⟨h.items.ty (k.ty (by decide) hm hb), h.edges.ty (k.ty (by decide) hm hb), h.done.ty (k.ty (by decide) hm hb), h.ok, h.len⟩
section
variable {g : Gr} {B mb bm : Nat} {sm : List SM} {w w' : World}
theorem MkW.below (h : MkW g B mb bm sm w) (hb : Below w.heap.size w w') : MkW g B mb bm sm w' := by
 have hml : mb < w.heap.size := Nat.lt_of_lt_of_le h.mlt h.size
 have hbl : bm < w.heap.size := Nat.lt_of_lt_of_le h.blt h.size
 obtain ⟨va, a1, a2⟩ := h.all
 obtain ⟨f, f1, f2⟩ := h.map
 exact ⟨h.mlt, h.blt, h.ne, Nat.le_trans h.size hb.size, h.gr.below hb, (World.cell?_of_block (hb.block mb hml)).trans h.met, fun i => (World.frozen?_of_block (hb.block mb hml)).trans (h.fz i),
  ⟨va, (World.cell?_of_block (hb.block mb hml)).trans a1, a2.kept (row := none) ⟨hb.os, hb.tape, hb.output, hb.size, fun k hk _ => hb.block k hk⟩ (by cases hv : va.ownBlock <;> simp)⟩,
  fun s hs => (h.each s hs).keep (KeepM.of (mb := mb) (bm := bm) hb) h.mlt h.blt, ⟨f, f1.below hb hbl, f2⟩, h.many⟩
end
def freshSM (v : Value) (l : List It) : SM := ⟨v, .slice none 0 0, .slice none 0 0, l, [], 0, []⟩
def fullP : List PanicEntry := [{ v := .iface 89 (.agg #[]), recovered := false }]
theorem alloc_cells (w : World) (t : TypeId) (cs : List Value) : ∀ j u, cs[j]? = some u -> (w.alloc (.cells cs.toArray t)).cell? ((⟨w.heap.size, 0, none⟩ : Addr).add j) = some u := by
 intro j u hj
 have hb : Blk (w.alloc (.cells cs.toArray t)) w.heap.size t cs.toArray := Blk.new w _ _
 rw [addr_add, Nat.zero_add, hb.cell j]
 simpa using hj
theorem encSM_one (s : SM) (h1 : s.vi.oneCell' = true) (h2 : s.ve.oneCell' = true) (h3 : s.vd.oneCell' = true) : ∀ u ∈ encSM s, u.oneCell' = true := by
 intro u hu
 simp [encSM] at hu
 rcases hu with rfl | rfl | rfl | rfl | rfl | rfl | rfl <;> first | assumption | rfl
theorem encFresh (v : Value) (l : List It) : encSM (freshSM v l) = [v, .slice none 0 0, .int .u64 0, .int .u64 0, .int .u64 0, .int .u64 0, .slice none 0 0] := by simp [encSM, freshSM, wd]
theorem KeepM.grown {mb bm : Nat} {w w' : World} {row : Option Nat} (h : w.grownBy w' row) (hr : ∀ r, row = some r -> r = mb ∨ r = bm ∨ mb < r /\ ∃ c fz, w.heap[r]? = some (.cells c 104 fz)) : KeepM mb bm w w' :=
 ⟨h.os, h.tape, h.output, h.size, fun b hb h1 h2 h3 => h.block b hb (fun e => by
  rcases hr b e.symm with h4 | h4 | ⟨_, c, fz, h4⟩
  ·exact h1 h4
  ·exact h2 h4
  ·exact h3 c fz h4), fun b h0 hb h1 => h.block b hb (fun e => by
  rcases hr b e.symm with h4 | h4 | ⟨h4, _⟩
  ·omega
  ·exact h1 h4
  ·omega)⟩
theorem grown_trans_opt {w w' w'' : World} {row : Option Nat} (h : w.grownBy w' row) (k : w'.grownBy w'' row) : w.grownBy w'' row :=
 ⟨k.os.trans h.os, k.tape.trans h.tape, k.output.trans h.output, Nat.le_trans h.size k.size, fun i hi hne => (k.block i (Nat.lt_of_lt_of_le hi h.size) hne).trans (h.block i hi hne)⟩
theorem infoState : (Tryz.prog.info? 104).map (fun i => (i.zero, i.size, i.bytes)) = some (some (.agg #[.slice none 0 0, .slice none 0 0, .int .u64 0, .int .u64 0, .int .u64 0, .int .u64 0, .slice none 0 0]), 7, 104) := by kernel_rfl
theorem own_ty {w : World} {B : Nat} {e : TypeId} {z : Nat} {v : Value} {n : Nat} {xs : List Value} (h : w.ownsRow B e z v n xs) : ∀ r, v.ownBlock = some r -> B <= r /\ ∃ c fz, w.heap[r]? = some (.cells c e fz) := by
 intro r hr
 rcases h.2 with ⟨rfl, _⟩ | ⟨g, cap, cur, rfl, hB, hh, _⟩
 ·cases hr
 ·injection hr with hr
  subst hr
  exact ⟨hB, cur, _, hh⟩
theorem find_push (L : List (List It)) (K l : List It) (h : L.findIdx? (· == K) = none) : (L ++ [K]).findIdx? (· == l) = if l = K then some L.length else L.findIdx? (· == l) := by
 rw [List.findIdx?_append]
 by_cases e : l = K
 ·subst e
  rw [h, if_pos rfl]
  simp
 ·rw [if_neg e]
  have : ([K] : List (List It)).findIdx? (· == l) = none := by simp [Ne.symm e]
  rw [this]
  cases L.findIdx? (· == l) <;> rfl
section
variable {g : Gr} {B mb bm : Nat} {sm : List SM} {w w5 w7 : World}
theorem MkW.push (h : MkW g B mb bm sm w) {K : List It} {v1 va v' : Value} {f : Lit -> Option Value} (hK : ∀ x ∈ K, itemOk g x = true) (hKl : K.length <= 10000) (h16 : sm.length < 16384)
  (hf : ∀ l, f (.string (keyF l)) = ((sm.map (·.items)).findIdx? (· == l)).map fun (n : Nat) => Value.int .i64 (n : Int)) (hnone : (sm.map (·.items)).findIdx? (· == K) = none)
  (k5 : KeepM mb bm w w5) (h5 : ∀ b, b < B -> b ≠ bm -> w5.heap[b]? = w.heap[b]?) (hv1 : SliceK (TyD B 53 w5) encIt 2 w5 v1 K)
  (hmap : MapV Tryz.prog 9 w5 bm (sm.length + 1) (putV f (.string (keyF K)) (.int .i64 (sm.length : Int))))
  (hva : w5.ownsRow B 104 7 va sm.length (flatK encSM sm)) (hg7 : w5.grownBy w7 va.ownBlock)
  (hrow : w7.ownsRow B 104 7 v' (sm.length + 1) (flatK encSM sm ++ encSM (freshSM v1 K))) :
  MkW g B mb bm (sm ++ [freshSM v1 K]) (w7.setCell ⟨mb, 7, none⟩ v') /\ KeepM mb bm w (w7.setCell ⟨mb, 7, none⟩ v') := by
 have hml : mb < w.heap.size := Nat.lt_of_lt_of_le h.mlt h.size
 have hrb : ∀ r, va.ownBlock = some r -> B <= r := fun r hr => (own_ty hva r hr).1
 have k7 : KeepM mb bm w5 w7 := KeepM.grown hg7 (fun r hr => .inr (.inr ⟨by have := (own_ty hva r hr).1; have := h.mlt; omega, (own_ty hva r hr).2⟩))
 have h7 : ∀ b, b < B -> b ≠ bm -> w7.heap[b]? = w.heap[b]? := fun b hb hne => (hg7.block b (by have := h.size; have := k5.size; omega) (by intro e; have := hrb b e.symm; omega)).trans (h5 b hb hne)
 have ks : KeepM mb bm w7 (w7.setCell ⟨mb, 7, none⟩ v') := KeepM.grown (grown_set (grown_refl w7 (some mb)) (p := ⟨mb, 7, none⟩) rfl v') (fun r hr => by injection hr with hr; exact .inl hr.symm)
 have kw := (k5.trans k7).trans ks
 have e7 : w7.heap[mb]? = w.heap[mb]? := h7 mb h.mlt h.ne
 have hother : ∀ i, i ≠ 7 -> (w7.setCell ⟨mb, 7, none⟩ v').cell? ⟨mb, i, none⟩ = w.cell? ⟨mb, i, none⟩ := fun i hi => by
  rw [<- World.cell?_of_block (w := w) (w' := w7) (a := ⟨mb, i, none⟩) e7]
  apply World.cell?_setCell_other
  intro e
  injection e with _ e
  exact hi e.symm
 obtain ⟨vo, a1, _⟩ := h.all
 have hsz : (w7.setCell ⟨mb, 7, none⟩ v').heap.size = w7.heap.size := by simp [World.setCell]
 refine ⟨⟨h.mlt, h.blt, h.ne, Nat.le_trans h.size kw.size, ?_, (hother 6 (by decide)).trans h.met, fun i => ?_, ⟨v', ?_, ?_⟩, ?_, ⟨putV f (.string (keyF K)) (.int .i64 (sm.length : Int)), ?_, ?_⟩, ?_⟩, kw⟩
 ·exact h.gr.keep (fun b hb _ => ⟨hb, (Below.heap_setCell w7 ⟨mb, 7, none⟩ v' b hb.2.1).trans (h7 b hb.1 hb.2.2)⟩) kw.size (hother 1 (by decide)) (hother 5 (by decide))
 ·rw [World.frozen?_setCell, World.frozen?_of_block (w := w) (a := ⟨mb, i, none⟩) e7]; exact h.fz i
 ·exact World.cell?_setCell_same' _ _ _ (by rw [World.cell?_of_block (w := w) (a := ⟨mb, 7, none⟩) e7, a1]; rfl)
 ·have h1 : (w7.setCell ⟨mb, 7, none⟩ v').ownsRow B 104 7 v' (sm.length + 1) (flatK encSM sm ++ encSM (freshSM v1 K)) :=
   hrow.kept (row := some mb) (grown_set (grown_refl w7 (some mb)) (p := ⟨mb, 7, none⟩) rfl v') (by
    cases e : v'.ownBlock with
    | none => exact .inl rfl
    | some b => exact .inr (by have := (own_ty hrow b e).1; have := h.mlt; intro e2; injection e2 with e2; omega))
  rw [flatK_snoc] at h1
  simpa using h1
 ·intro s hs
  rcases List.mem_append.1 hs with hs | hs
  ·exact (h.each s hs).keep kw h.mlt h.blt
  ·rw [List.mem_singleton] at hs
   subst hs
   exact ⟨hv1.ty ((k7.trans ks).ty (by decide) h.mlt h.blt), SliceK.nil, SliceK.nil, hK, hKl⟩
 ·have h1 := (hmap.grown hg7 (by intro e; have := hrb bm e.symm; have := h.blt; omega)).setCell (p := ⟨mb, 7, none⟩) (Ne.symm h.ne) v'
  simpa using h1
 ·intro l
  rw [putV_string, List.map_append, List.map_singleton]
  show _ = Option.map (fun (n : Nat) => Value.int .i64 (n : Int)) ((sm.map (·.items) ++ [K]).findIdx? (· == l))
  rw [find_push _ _ _ hnone]
  by_cases e : l = K
  ·subst e
   rw [if_pos rfl, if_pos rfl, List.length_map]; rfl
  ·rw [if_neg (fun e2 => e (key_inj _ _ e2)), if_neg e]
   exact hf l
 ·simp; omega
end
end Go.Proofs.YtknpkndiflodbaaGreatDoor.Tb
