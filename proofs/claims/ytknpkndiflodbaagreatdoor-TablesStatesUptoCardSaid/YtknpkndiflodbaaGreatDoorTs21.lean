/- Walks and plain laws that the last text stands on: TbRef9B. -/
import Derived.Test.YtknpkndiflodbaaGreatDoorTs18
import Derived.Test.YtknpkndiflodbaaGreatDoorTs19
import Derived.Test.YtknpkndiflodbaaGreatDoorTs20
set_option linter.unusedVariables false
set_option linter.unusedSimpArgs false
set_option maxRecDepth 100000
set_option maxHeartbeats 16000000
namespace Go.Proofs.YtknpkndiflodbaaGreatDoor.Tb
open Go Go.RowKit Go.Proofs Mx
def aheadR (sv pv st fv lv : Value) (kg ko LL lc i pn d : Nat) (yk : Int) (yw : Int × Int × Int × Int) (ys : Int) (okb : Bool) (B : Nat) (j : Nat) (v : Value) (W : World) : Prop :=
 match j with
 | 0 => v = .agg #[sv, pv, st, fv, lv]
 | 1 => v = .slice (some ⟨kg, ko, none⟩) LL lc
 | 2 => v = .int .i64 (i : Int)
 | 3 => v = .pointer (some ⟨kg, ko + i * 2, none⟩)
 | 4 => v = .agg #[.int .i64 (pn : Int), .int .i64 (d : Int)]
 | 5 => v = .tuple #[.agg #[.int .i64 yk, .int .u64 yw.1, .int .u64 yw.2.1, .int .u64 yw.2.2.1, .int .u64 yw.2.2.2, .int .i64 ys], .bool okb]
 | 6 => v = .tuple #[.agg #[.int .i64 yk, .int .u64 yw.1, .int .u64 yw.2.1, .int .u64 yw.2.2.1, .int .u64 yw.2.2.2, .int .i64 ys], .bool okb]
 | 7 => v = .agg #[.int .i64 yk, .int .u64 yw.1, .int .u64 yw.2.1, .int .u64 yw.2.2.1, .int .u64 yw.2.2.2, .int .i64 ys]
 | 8 => v = .bool okb
 | 9 => ∃ b, v = .pointer (some ⟨b, 0, none⟩) /\ Blk W b 28 #[.int .i64 0, .int .u64 0, .int .u64 0, .int .u64 0, .int .u64 0, .int .i64 0] /\ B <= b
 | _ => True
theorem aheadR_stab {sv pv st fv lv : Value} {kg ko LL lc i pn d : Nat} {yk : Int} {yw : Int × Int × Int × Int} {ys : Int} {okb : Bool} {B : Nat} (j : Nat) (v : Value) {w w' : World} (h : aheadR sv pv st fv lv kg ko LL lc i pn d yk yw ys okb B j v w) (hb : Below w.heap.size w w') : aheadR sv pv st fv lv kg ko LL lc i pn d yk yw ys okb B j v w' := by
 unfold aheadR at h ⊢
 split at h
 all_goals first | trivial | exact h | (obtain ⟨b, e, h1, h2⟩ := h; exact ⟨b, e, h1.below hb h1.lt, h2⟩)
def apR9 (la : Option Addr) (l : List It) (lc n B : Nat) (j : Nat) (v : Value) (W : World) : Prop :=
 match j with
 | 0 => v = .slice la l.length lc
 | 1 => W.ownsRow B 53 2 v l.length (flatK encIt l)
 | 2 => v = .agg #[.int .i64 (n : Int), .int .i64 0]
 | 3 => ∃ b, v = .slice (some ⟨b, 0, none⟩) 1 1 /\ Blk W b 53 #[.int .i64 (n : Int), .int .i64 0] /\ B <= b
 | _ => True
theorem apR9_stab {la : Option Addr} {l : List It} {lc n B : Nat} (j : Nat) (v : Value) {w w' : World} (h : apR9 la l lc n B j v w) (hb : Below w.heap.size w w') : apR9 la l lc n B j v w' := by
 unfold apR9 at h ⊢
 split at h
 all_goals first | trivial | exact h | exact row_below h hb | (obtain ⟨b, e, h1, h2⟩ := h; exact ⟨b, e, h1.below hb h1.lt, h2⟩)
def rowR (g : Gr) (l : List It) (n k : Nat) : List It := ((List.range k).filter fun d => decide ((n, d) ∈ l)).map fun d => (n, d)
def outN (g : Gr) (l : List It) (n : Nat) : List It := (List.range n).flatMap fun n => rowR g l n ((rightOf g n).length + 1)
theorem outN_succ (g : Gr) (l : List It) (n : Nat) : outN g l (n + 1) = outN g l n ++ rowR g l n ((rightOf g n).length + 1) := by
 unfold outN
 rw [List.range_succ, List.flatMap_append]
 simp
theorem rowR_succ (g : Gr) (l : List It) (n k : Nat) : rowR g l n (k + 1) = if (n, k) ∈ l then rowR g l n k ++ [(n, k)] else rowR g l n k := by
 unfold rowR
 rw [List.range_succ, List.filter_append]
 by_cases h : (n, k) ∈ l <;> simp [h]
theorem rowR_len (g : Gr) (l : List It) (n k : Nat) : (rowR g l n k).length <= k := by
 unfold rowR
 rw [List.length_map]
 exact Nat.le_trans (List.length_filter_le _ _) (by simp)
theorem outN_len (g : Gr) (l : List It) (hr : ∀ p ∈ g.prods, p.right.length <= 30) : ∀ n, (outN g l n).length <= n * 31
 | 0 => by simp [outN]
 | n + 1 => by
  rw [outN_succ, List.length_append]
  have h1 := outN_len g l hr n
  have h2 := rowR_len g l n ((rightOf g n).length + 1)
  have h3 : (rightOf g n).length <= 30 := by
   unfold rightOf
   cases hp : g.prods[n]? with
   | none => simp
   | some p => exact hr p (List.mem_of_getElem? hp)
  omega
def addN (g : Gr) (s : Int) (l : List It) (n : Nat) : List It := ((List.range n).filter fun n => match g.prods[n]? with | some p => p.left == s && p.role != 11 | none => false).foldl (fun l n => if (n, 0) ∈ l then l else l ++ [(n, 0)]) l
theorem addN_all (g : Gr) (s : Int) (l : List It) : addN g s l g.prods.length = addP g s l := rfl
theorem addN_zero (g : Gr) (s : Int) (l : List It) : addN g s l 0 = l := rfl
theorem addN_succ (g : Gr) (s : Int) (l : List It) (n : Nat) {p : Pr} (hp : g.prods[n]? = some p) : addN g s l (n + 1) = if p.left = s /\ p.role ≠ 11 /\ (n, 0) ∉ addN g s l n then addN g s l n ++ [(n, 0)] else addN g s l n := by
 unfold addN
 rw [List.range_succ, List.filter_append]
 by_cases h1 : p.left = s
 ·by_cases h2 : p.role = 11
  ·simp [hp, h1, h2]
  ·have h2b : (p.role != 11) = true := by simpa using h2
   simp [hp, h1, h2, h2b]
 ·simp [hp, h1]
theorem addN_pre (g : Gr) (s : Int) (l : List It) (n : Nat) : (addN g s l n).length <= l.length + n := by
 unfold addN
 have h : ∀ (ns : List Nat) (l : List It), (ns.foldl (fun l n => if (n, 0) ∈ l then l else l ++ [(n, 0)]) l).length <= l.length + ns.length := by
  intro ns
  induction ns with
  | nil => intro l; simp
  | cons a ns ih =>
   intro l
   rw [List.foldl_cons]
   refine Nat.le_trans (ih _) ?_
   split <;> simp <;> omega
 refine Nat.le_trans (h _ l) ?_
 have := List.length_filter_le (fun n => match g.prods[n]? with | some p => p.left == s && p.role != 11 | none => false) (List.range n)
 simp at this
 omega
theorem addN_ge (g : Gr) (s : Int) (l : List It) (n : Nat) : l.length <= (addN g s l n).length := by
 unfold addN
 have h : ∀ (ns : List Nat) (l : List It), l.length <= (ns.foldl (fun l n => if (n, 0) ∈ l then l else l ++ [(n, 0)]) l).length := by
  intro ns
  induction ns with
  | nil => intro l; simp
  | cons a ns ih =>
   intro l
   rw [List.foldl_cons]
   refine Nat.le_trans ?_ (ih _)
   split <;> simp
 exact h _ l
theorem r9closed_any (D E : Nat -> Prop) (g : Gr) (hN : g.prods.length <= 1000) (hr : ∀ p ∈ g.prods, p.right.length <= 30) (l0 : List It) (hok : ∀ x ∈ l0, itemOk g x = true) (hl0 : l0.length <= 1000000) (w : World) (sv pv fv lv v : Value) (hP : ProdsAt D w pv g.prods) (hv : SliceK E encIt 2 w v l0) :
  Calls Tryz.prog 45 #[.agg #[sv, pv, .int .i64 g.start, fv, lv], v] w fun e w' => ∃ v', e = .returned v' /\ w'.ownsRow w.heap.size 53 2 v' (closedF g l0).length (flatK encIt (closedF g l0)) /\ Below w.heap.size w w' := by
 obtain ⟨pa, pc, rfl⟩ := prodsAt_shape hP
 have HK := Hd (An hP (An (hv.imp (D' := fun _ => True) fun _ _ _ => trivial) (An hok hr)))
 obtain ⟨la0, lc0, rfl⟩ := slice_shape hv
 clear hP hv hok hr
 go_enter Tryz.func45, Tryz.ntmps45
 go_wp2_with fail
 have hB0 : Blk (w.alloc (.cells #[sv, .slice pa g.prods.length pc, .int .i64 g.start, fv, lv] 39)) w.heap.size 39 #[sv, .slice pa g.prods.length pc, .int .i64 g.start, fv, lv] := Blk.new _ _ _
 have hb0 : Below w.heap.size w (w.alloc (.cells #[sv, .slice pa g.prods.length pc, .int .i64 g.start, fv, lv] 39)) := (Below.refl _ w).alloc (Nat.le_refl _) _
 generalize (w.alloc (.cells #[sv, .slice pa g.prods.length pc, .int .i64 g.start, fv, lv] 39)) = W1 at hB0 hb0 ⊢
 have H1 := Hd (An hB0 hb0)
 clear hB0 hb0
 go_loopg [1, 5] (l0.length + g.prods.length) (fun m v1 v5 wx => ∃ (i : Nat) (l : List It), m = l0.length + g.prods.length - i /\ v5 = .int .i64 (i : Int) /\ RcAt g l0 i l /\ SliceK (fun _ => True) encIt 2 wx v1 l /\ Below W1.heap.size W1 wx)
 case atStart => exact ⟨0, l0, by omega, rfl, RcAt.start g l0, HK.out.2.1.all H1.out.2, Below.refl _ _⟩
 case round =>
  obtain ⟨i, l, hm, rfl, hat, hsl, hbx⟩ := hrel
  have hfit := hat.fits
  have hle := hat.le
  obtain ⟨la, lc, rfl, _, _, hlk⟩ := hsl
  by_cases hil : i < l.length
  ·obtain ⟨⟨pn, d⟩, hx⟩ : ∃ x, l[i]? = some x := ⟨_, List.getElem?_eq_getElem hil⟩
   have hxo : itemOk g (pn, d) = true := hat.from_ (fun x => itemOk g x = true) HK.out.2.2.1 (fun x _ s _ _ n hn => itemOk_new hn) _ (List.mem_of_getElem? hx)
   obtain ⟨kg, ko, rfl, _, hkr⟩ := hlk (by rintro h; rw [h] at hil; simp at hil)
   have hbw : Below w.heap.size w wr := H1.out.2.trans (hbx.mono H1.out.2.size)
   have hgB := H1.out.1.below hbx H1.out.1.lt
   obtain ⟨LL, hLL⟩ : ∃ LL, l.length = LL := ⟨_, rfl⟩
   have hi0 : (0 : Int) <= (i : Int) := by omega
   have hi1 : (i : Int) < (LL : Int) := by omega
   obtain ⟨y, hy⟩ : ∃ y, (aheadF g (pn, d)).getD noSy = y := ⟨_, rfl⟩
   obtain ⟨okb, hokb⟩ : ∃ b, (aheadF g (pn, d)).isSome = b := ⟨_, rfl⟩
   obtain ⟨⟨yk, yS, ys⟩, hys⟩ : ∃ z, y = z := ⟨_, rfl⟩
   rw [hys] at hy
   obtain ⟨y0, hy0⟩ : ∃ z, wd yS 0 = z := ⟨_, rfl⟩
   obtain ⟨y1, hy1⟩ : ∃ z, wd yS 1 = z := ⟨_, rfl⟩
   obtain ⟨y2, hy2⟩ : ∃ z, wd yS 2 = z := ⟨_, rfl⟩
   obtain ⟨y3, hy3⟩ : ∃ z, wd yS 3 = z := ⟨_, rfl⟩
   have hca : ∀ W, Below wr.heap.size wr.drew W -> Calls Tryz.prog 78 #[.agg #[sv, .slice pa g.prods.length pc, .int .i64 g.start, fv, lv], .agg #[.int .i64 (pn : Int), .int .i64 (d : Int)]] W fun e W' => e = .returned (.tuple #[.agg #[.int .i64 yk, .int .u64 y0, .int .u64 y1, .int .u64 y2, .int .u64 y3, .int .i64 ys], .bool okb]) /\ Below W.heap.size W W' := fun W h => by
    have hbW : Below wr.heap.size wr W := (show Below wr.heap.size wr wr.drew from (Below.refl _ _).drew).trans h
    have h2 := hbw.trans (hbW.mono hbw.size)
    have := r9ahead_any D g (by omega) (pn, d) hxo W sv (.slice pa g.prods.length pc) fv lv (HK.out.1.keep fun q hq hl => ⟨hq, h2.block q hl⟩)
    rw [hy, hokb] at this
    unfold symV at this
    simp only at this
    rw [hy0, hy1, hy2, hy3] at this
    exact this
   have HA := Hd (show ∀ W, Below wr.heap.size wr.drew W -> W.cell? ⟨w.heap.size, 0, none⟩ = some sv /\ W.cell? ⟨w.heap.size, 1, none⟩ = some (.slice pa g.prods.length pc) /\ W.cell? ⟨w.heap.size, 2, none⟩ = some (.int .i64 g.start) /\ W.cell? ⟨w.heap.size, 3, none⟩ = some fv /\ W.cell? ⟨w.heap.size, 4, none⟩ = some lv /\ W.cell? ⟨kg, ko + i * 2, none⟩ = some (.int .i64 (pn : Int)) /\ W.cell? ⟨kg, ko + i * 2 + 1, none⟩ = some (.int .i64 (d : Int)) from fun W h => by
    have hbW : Below wr.heap.size wr W := (show Below wr.heap.size wr wr.drew from (Below.refl _ _).drew).trans h
    have g0 := hgB.below hbW hgB.lt
    have k0 := hkr.cells i _ hx 0 _ rfl
    simp only [Nat.add_zero] at k0
    exact ⟨g0.cell 0, g0.cell 1, g0.cell 2, g0.cell 3, g0.cell 4, (World.cell?_of_block (hbW.block kg hkr.lt)).trans k0, (World.cell?_of_block (hbW.block kg hkr.lt)).trans (hkr.cells i _ hx 1 _ rfl)⟩)
   have HSL := Hd (show ∀ W, Below wr.heap.size wr W -> SliceK (fun _ => True) encIt 2 W (.slice (some ⟨kg, ko, none⟩) LL lc) l from fun W h => ⟨some ⟨kg, ko, none⟩, lc, by rw [hLL], by assumption, by assumption, fun _ => ⟨kg, ko, rfl, trivial, hkr.same (h.block kg hkr.lt)⟩⟩)
   have Q := Hd (An hm (An hat (An hbx (An hbw (An hgB (An hkr (An hx (An hy (An hokb (An hLL hxo))))))))))
   rw [hLL] at hfit hle ⊢
   clear hm hat hbx hbw hgB hkr hx hy hokb hLL hxo hlk hys hy0 hy1 hy2 hy3 hil
   obtain ⟨wt, rfl⟩ : ∃ wt : World, wt = wr := ⟨_, rfl⟩
   go_upto_region 4 with fail
   refine wp_region_concF 10 8 (aheadR sv (.slice pa g.prods.length pc) (.int .i64 g.start) fv lv kg ko LL lc i pn d yk (y0, y1, y2, y3) ys okb wt.heap.size) (fun A W => Below A.heap.size A W) (by kernel_rfl) (by kernel_rfl) (by kernel_rfl) (by kernel_rfl) (Below.refl _ _) (fun h k => h.trans (k.mono h.size)) ?_ (by intro c a v w h; exact h) ?_ ?_
   ·simp only [List.take_succ_cons, List.take_zero]
    refine ⟨?_, ?_, ?_, ?_, ?_, ?_, ?_, ?_, ?_, ?_, trivial⟩
    ·intro L T W hG hJ hLs hLi dq fq vq K hK
     have h1 := fq 2 (by decide)
     simp at h1
     obtain ⟨f0, f1, f2, f3, f4, k0, k1⟩ := HA.out W hG
     go_simp
     exact hK _ _ (Below.refl _ W) (fun j u _ _ _ h => h) trivial rfl
    ·intro L T W hG hJ hLs hLi dq fq vq K hK
     have h1 := fq 1 (by decide)
     simp at h1
     go_simp
     exact hK _ _ (Below.refl _ W) (fun j u _ _ _ h => h) trivial rfl
    ·intro L T W hG hJ hLs hLi dq fq vq K hK
     have h1 := fq 5 (by decide)
     simp at h1
     go_simp
     exact hK _ _ (Below.refl _ W) (fun j u _ _ _ h => h) trivial rfl
    ·intro L T W hG hJ hLs hLi dq fq vq K hK
     have h1 := vq ⟨1, .data⟩ (by simp) rfl 21 rfl
     have h2 := vq ⟨2, .data⟩ (by simp) rfl 22 rfl
     simp only [aheadR] at h1 h2
     simp at h1 h2
     go_simp
     exact hK _ _ (Below.refl _ W) (fun j u _ _ _ h => h) trivial rfl
    ·intro L T W hG hJ hLs hLi dq fq vq K hK
     have h1 := vq ⟨3, .data⟩ (by simp) rfl 23 rfl
     simp only [aheadR] at h1
     simp at h1
     obtain ⟨f0, f1, f2, f3, f4, k0, k1⟩ := HA.out W hG
     go_simp
     exact hK _ _ (Below.refl _ W) (fun j u _ _ _ h => h) trivial rfl
    ·intro L T W hG hJ hLs hLi dq fq vq K hK
     have h1 := vq ⟨0, .data⟩ (by simp) rfl 20 rfl
     have h2 := vq ⟨4, .data⟩ (by simp) rfl 24 rfl
     simp only [aheadR] at h1 h2
     simp at h1 h2
     go_simp
     refine (hca W hG).mono ?_
     rintro e W2 ⟨rfl, hb2⟩
     exact hK _ _ hb2 (fun j u _ _ _ h => aheadR_stab j u h hb2) trivial rfl
    ·intro L T W hG hJ hLs hLi dq fq vq K hK
     have h1 := vq ⟨5, .data⟩ (by simp) rfl 25 rfl
     simp only [aheadR] at h1
     simp at h1
     go_simp
     exact hK _ _ (Below.refl _ W) (fun j u _ _ _ h => h) trivial rfl
    ·intro L T W hG hJ hLs hLi dq fq vq K hK
     have h1 := vq ⟨6, .data⟩ (by simp) rfl 19 rfl
     simp only [aheadR] at h1
     simp at h1
     go_simp
     exact hK _ _ (Below.refl _ W) (fun j u _ _ _ h => h) trivial rfl
    ·intro L T W hG hJ hLs hLi dq fq vq K hK
     have h1 := vq ⟨6, .data⟩ (by simp) rfl 19 rfl
     simp only [aheadR] at h1
     simp at h1
     go_simp
     exact hK _ _ (Below.refl _ W) (fun j u _ _ _ h => h) trivial rfl
    ·intro L T W hG hJ hLs hLi dq fq vq K hK
     go_simp
     have hbn := (Below.refl W.heap.size W).alloc (Nat.le_refl _) (.cells #[.int .i64 0, .int .u64 0, .int .u64 0, .int .u64 0, .int .u64 0, .int .i64 0] 28)
     exact hK _ _ hbn (fun j u _ _ _ h => aheadR_stab j u h hbn) trivial ⟨_, rfl, Blk.new W _ _, hG.size⟩
   ·intro os T W hos hv
    have h6 := hv ⟨6, .data⟩ (by simp at hos; subst hos; simp) rfl 19 rfl
    simp only [aheadR] at h6
    simp at hos
    subst hos
    refine ⟨.bool okb, .inl ⟨rfl, fun w => ?_⟩, rfl⟩
    simp [execOp, go_sem, h6]
   ·intro f9 W5 hG hR
    have e8 := hR 8 27 (by decide) rfl
    have e7 := hR 7 26 (by decide) rfl
    obtain ⟨yb, e9, k9, k10⟩ := hR 9 6 (by decide) rfl
    simp only [concDsts, List.take_succ_cons, List.take_zero, List.drop_succ_cons, List.drop_zero, List.filterMap_cons, List.filterMap_nil, List.foldl_cons, List.foldl_nil, List.setIfInBounds_toArray, List.set_cons_zero, List.set_cons_succ]
    simp only [aheadR] at e7 e8
    rw [e7, e8, e9]
    clear e7 e8 e9 hR
    generalize f9 20 = v20
    generalize f9 21 = v21
    generalize f9 22 = v22
    generalize f9 23 = v23
    generalize f9 24 = v24
    generalize f9 25 = v25
    generalize f9 19 = v19
    clear f9
    have hbz : Below wt.heap.size W5 ((((((W5.setCell ⟨yb, 0, none⟩ (.int .i64 yk)).setCell ⟨yb, 1, none⟩ (.int .u64 y0)).setCell ⟨yb, 2, none⟩ (.int .u64 y1)).setCell ⟨yb, 3, none⟩ (.int .u64 y2)).setCell ⟨yb, 4, none⟩ (.int .u64 y3)).setCell ⟨yb, 5, none⟩ (.int .i64 ys)) := ((((((Below.refl _ _).setCell k10 _).setCell k10 _).setCell k10 _).setCell k10 _).setCell k10 _).setCell k10 _
    have hYz : Blk ((((((W5.setCell ⟨yb, 0, none⟩ (.int .i64 yk)).setCell ⟨yb, 1, none⟩ (.int .u64 y0)).setCell ⟨yb, 2, none⟩ (.int .u64 y1)).setCell ⟨yb, 3, none⟩ (.int .u64 y2)).setCell ⟨yb, 4, none⟩ (.int .u64 y3)).setCell ⟨yb, 5, none⟩ (.int .i64 ys)) yb 28 #[.int .i64 yk, .int .u64 y0, .int .u64 y1, .int .u64 y2, .int .u64 y3, .int .i64 ys] := by
     have h := ((((((k9).set_ 0 (.int .i64 yk)).set_ 1 (.int .u64 y0)).set_ 2 (.int .u64 y1)).set_ 3 (.int .u64 y2)).set_ 4 (.int .u64 y3)).set_ 5 (.int .i64 ys)
     simpa using h
    have z0 := k9.cell 0
    have z1 := k9.cell 1
    have z2 := k9.cell 2
    have z3 := k9.cell 3
    have z4 := k9.cell 4
    have z5 := k9.cell 5
    have zz := k9.frozen
    simp at z0 z1 z2 z3 z4 z5
    have HGz := Hd (An (show Below wt.heap.size wt W5 from (show Below wt.heap.size wt wt.drew from (Below.refl _ _).drew).trans hG) (An hbz (An hYz k10)))
    clear hbz hYz hG
    go_upto_region 5 with fail
    have hbz := HGz.out.1.trans HGz.out.2.1
    have hYz := HGz.out.2.2.1
    have hyb := HGz.out.2.2.2
    generalize ((((((W5.setCell ⟨yb, 0, none⟩ (.int .i64 yk)).setCell ⟨yb, 1, none⟩ (.int .u64 y0)).setCell ⟨yb, 2, none⟩ (.int .u64 y1)).setCell ⟨yb, 3, none⟩ (.int .u64 y2)).setCell ⟨yb, 4, none⟩ (.int .u64 y3)).setCell ⟨yb, 5, none⟩ (.int .i64 ys)) = wz at hbz hYz ⊢
    clear z0 z1 z2 z3 z4 z5 zz k9 k10 HGz
    have hYw := hYz.lt
    have X := Hd (An hbz (An hYz hyb))
    have q0 := hYz.cell 0
    have q5 := hYz.cell 5
    simp at q0 q5
    clear hbz hYz hyb hca HA
    have hpn : (0 : Int) < (g.prods.length : Int) := by have := ((itemOk_iff g (pn, d)).1 Q.out.2.2.2.2.2.2.2.2.2.2).1; simp only at this; omega
    obtain ⟨g1, gB2⟩ : wz.cell? ⟨w.heap.size, 1, none⟩ = some (.slice pa g.prods.length pc) /\ Blk wz w.heap.size 39 #[sv, .slice pa g.prods.length pc, .int .i64 g.start, fv, lv] := by
     have h := Q.out.2.2.2.2.1.below X.out.1 Q.out.2.2.2.2.1.lt
     exact ⟨h.cell 1, h⟩
    have HG2 := Hd gB2
    clear gB2
    cases okb with
    | false =>
     have hst : rcStep g (pn, d) l = l := by
      unfold rcStep
      have h1 := Q.out.2.2.2.2.2.2.2.2.1
      cases ha : aheadF g (pn, d) with
      | none => rfl
      | some s => rw [ha] at h1; cases h1
     have HST := Hd hst
     clear hst
     go_wp2_with fail
     go_loopg [1, 8] 0 (fun m v1 v8 wx => m = 0 /\ v1 = .slice (some ⟨kg, ko, none⟩) LL lc /\ v8 = .int .i64 0 /\ wz = wx)
     case atStart => exact ⟨rfl, rfl, rfl, rfl⟩
     case round =>
      obtain ⟨hm, rfl, rfl, rfl⟩ := hrel
      go_wp2_with fail
      go_roundg (l0.length + g.prods.length - (i + 1))
      case measure => have h1 := Q.out.1; have h2 := Q.out.2.2.2.2.2.2.2.2.2.1; omega
      case rel =>
       have h3 := Q.out.2.1.step Q.out.2.2.2.2.2.2.1
       rw [HST.out] at h3
       exact ⟨i + 1, l, rfl, rfl, h3, (HSL.out wz X.out.1), Q.out.2.2.1.trans (X.out.1.mono Q.out.2.2.1.size)⟩
    | true =>
     have hah : aheadF g (pn, d) = some ⟨yk, yS, ys⟩ := by
      have h1 := Q.out.2.2.2.2.2.2.2.1
      have h2 := Q.out.2.2.2.2.2.2.2.2.1
      cases ha : aheadF g (pn, d) with
      | none => rw [ha] at h2; cases h2
      | some s => rw [ha] at h1; exact congrArg some h1
     by_cases hk1 : yk = 1
     ·subst hk1
      have hst : rcStep g (pn, d) l = addN g ys l g.prods.length := by unfold rcStep; rw [hah]; exact addN_all g ys l
      have HST := Hd hst
      clear hst hah
      go_wp2_with fail
      go_loopg [1, 8] g.prods.length (fun m v1 v8 wx => ∃ n : Nat, n <= g.prods.length /\ m = g.prods.length - n /\ v8 = .int .i64 (n : Int) /\ SliceK (fun _ => True) encIt 2 wx v1 (addN g ys l n) /\ Below wz.heap.size wz wx)
      case atStart => exact ⟨0, by omega, rfl, rfl, by rw [addN_zero]; exact (HSL.out wz X.out.1), Below.refl _ _⟩
      case round =>
       obtain ⟨n, hn, hm, rfl, hv1, hby⟩ := hrel
       obtain ⟨a1, c1', rfl, hcA, hcB, hk1⟩ := hv1
       have hyq := X.out.2.1.below hby X.out.2.1.lt
       have hgq := HG2.out.below hby HG2.out.lt
       have hbwq : Below w.heap.size w wr := Q.out.2.2.2.1.trans ((X.out.1.trans (hby.mono X.out.1.size)).mono Q.out.2.2.2.1.size)
       have q0 := hyq.cell 0
       have q5 := hyq.cell 5
       have g1 := hgq.cell 1
       simp at q0 q5 g1
       by_cases hnl : n < g.prods.length
       ·obtain ⟨p, hp⟩ : ∃ p, g.prods[n]? = some p := ⟨_, List.getElem?_eq_getElem hnl⟩
        obtain ⟨cap, pb, po, vr, epv, hbl, hvr, hpc⟩ := HK.out.1.at_ hp
        injection epv with e1 e2 e3
        subst e1
        subst e3
        have f0 := (World.cell?_of_block (hbwq.block pb hbl)).trans (hpc 0 _ rfl)
        have f3 := (World.cell?_of_block (hbwq.block pb hbl)).trans (hpc 3 _ rfl)
        simp only [Nat.add_zero] at f0
        have hn0 : (0 : Int) <= (n : Int) := by omega
        have hn1 : (n : Int) < (g.prods.length : Int) := by omega
        have hsu := addN_succ g ys l n hp
        have hlen := addN_pre g ys l n
        obtain ⟨l', hl'⟩ : ∃ l', addN g ys l n = l' := ⟨_, rfl⟩
        rw [hl'] at hsu hlen hk1 hcA
        have hge := addN_ge g ys l n
        rw [hl'] at hge ⊢
        have hLb : l'.length <= 1100000 := by have h1 := Q.out.2.2.2.2.2.2.2.2.2.1; omega
        have hpbl : pb < wr.heap.size := World.block_lt_of_cell? _ _ f0
        obtain ⟨kg2, ko2, rfl, _, hk1⟩ := hk1 (by rintro h; rw [h] at hge; have h1 := Q.out.2.2.2.2.2.2.2.2.2.1; simp at hge; rw [hge] at h1; simp at h1; omega)
        have HS1 := Hd (show SliceK (fun _ => True) encIt 2 wr (.slice (some ⟨kg2, ko2, none⟩) l'.length c1') l' from ⟨_, c1', rfl, hcA, hcB, fun _ => ⟨kg2, ko2, rfl, trivial, hk1⟩⟩)
        have R := Hd (An hm (An hby (An hyq (An hgq (An hbwq (An hsu (An hk1 (An f0 (An f3 hpbl)))))))))
        clear hm hby hyq hgq hbwq hsu hk1 hpc hvr hp hl' hlen e2 hbl hnl f0 f3 hge hcA hcB
        go_upto_region 9 with fail
        have hBx : Blk (wr.alloc (.cells #[.int .i64 (n : Int), .int .i64 0] 53)) wr.heap.size 53 #[.int .i64 (n : Int), .int .i64 0] := Blk.new _ _ _
        have hbu : Below wr.heap.size wr (wr.alloc (.cells #[.int .i64 (n : Int), .int .i64 0] 53)) := (Below.refl _ wr).alloc (Nat.le_refl _) _
        clear q0 q5 g1
        generalize (wr.alloc (.cells #[.int .i64 (n : Int), .int .i64 0] 53)) = wu at hBx hbu ⊢
        have U := Hd (An hBx hbu)
        have x0 := hBx.cell 0
        have x1 := hBx.cell 1
        simp at x0 x1
        have g1 : wu.cell? ⟨w.heap.size, 1, none⟩ = some (.slice (some ⟨pb, po, none⟩) g.prods.length pc) := (R.out.2.2.2.1.below hbu R.out.2.2.2.1.lt).cell 1
        have q5 : wu.cell? ⟨yb, 5, none⟩ = some (.int .i64 ys) := (R.out.2.2.1.below hbu R.out.2.2.1.lt).cell 5
        have f0 : wu.cell? ⟨pb, po + n * 7, none⟩ = some (.int .i64 p.left) := (World.cell?_of_block (hbu.block pb R.out.2.2.2.2.2.2.2.2.2)).trans R.out.2.2.2.2.2.2.2.1
        have f3 : wu.cell? ⟨pb, po + n * 7 + 3, none⟩ = some (.int .i64 p.role) := (World.cell?_of_block (hbu.block pb R.out.2.2.2.2.2.2.2.2.2)).trans R.out.2.2.2.2.2.2.2.2.1
        clear hBx hbu
        by_cases hl : p.left = ys
        ·by_cases hro : p.role = 11
         ·have hcr : (p.role != 11) = false := by simp [hro]
          have HSU := Hd (show addN g ys l (n + 1) = l' from by rw [R.out.2.2.2.2.2.1]; exact if_neg (fun h => h.2.1 hro))
          rw [hl] at f0
          clear hl hro
          go_quiet (fail)
          go_wp2_with fail
          go_roundg (g.prods.length - (n + 1))
          case measure => have h1 := R.out.1; omega
          case rel =>
           exact ⟨n + 1, by omega, rfl, rfl, by rw [HSU.out]; exact HS1.out.all (below_drewN U.out.2 _), R.out.2.1.trans ((below_drewN U.out.2 _).mono R.out.2.1.size)⟩
         ·have hcr : (p.role != 11) = true := by simpa using hro
          obtain ⟨bh, hbh⟩ : ∃ b, decide ((n, 0) ∈ l') = b := ⟨_, rfl⟩
          have hcall : Calls Tryz.prog 79 #[.slice (some ⟨kg2, ko2, none⟩) l'.length c1', .agg #[.int .i64 (n : Int), .int .i64 0]] wu.drew fun e w' => e = .returned (.bool (decide ((n, 0) ∈ l'))) /\ Below wu.drew.heap.size wu.drew w' := r9has_any (fun _ => True) l' (by omega) _ (n, 0) wu.drew ((HS1.out.all U.out.2).all (Below.refl _ _).drew)
          rw [hbh] at hcall
          rw [hl] at f0
          have HH := Hd (An hl (An hro hbh))
          clear hl hro hbh
          obtain ⟨wt, rfl⟩ : ∃ wt : World, wt = wu := ⟨_, rfl⟩
          go_still_tail 21, (by kernel_rfl)
          repeat still_step
          try refine wpStill_nil ?_
          change wpList _ _ _ _ _ wt.drew
          go_wp2_with fail
          refine hcall.mono ?_
          rintro e w5 ⟨rfl, hb5⟩
          have H5 := Hd (show Below wt.heap.size wt w5 from (show Below wt.heap.size wt wt.drew from (Below.refl _ _).drew).trans hb5)
          clear hb5 hcall g1 q5 f0 f3 x0 x1
          cases bh with
          | true =>
           have HSU := Hd (show addN g ys l (n + 1) = l' from by rw [R.out.2.2.2.2.2.1]; exact if_neg (fun h => h.2.2 (of_decide_eq_true HH.out.2.2)))
           go_wp2_with fail
           go_roundg (g.prods.length - (n + 1))
           case measure => have h1 := R.out.1; omega
           case rel =>
            have hbA := U.out.2.trans (H5.out.mono U.out.2.size)
            exact ⟨n + 1, by omega, rfl, rfl, by rw [HSU.out]; exact HS1.out.all hbA, R.out.2.1.trans (hbA.mono R.out.2.1.size)⟩
          | false =>
           have HSU := Hd (show addN g ys l (n + 1) = l' ++ [(n, 0)] from by rw [R.out.2.2.2.2.2.1]; exact if_pos ⟨HH.out.1, HH.out.2.1, of_decide_eq_false HH.out.2.2⟩)
           go_upto_region 10 with fail
           have HC := Hd (show ∀ W, Below w5.drew.heap.size w5.drew W -> (∀ j u, (flatK encIt l')[j]? = some u -> W.cell? ((⟨kg2, ko2, none⟩ : Addr).add j) = some u) /\ W.cell? ⟨wr.heap.size, 0, none⟩ = some (.int .i64 (n : Int)) /\ W.cell? ⟨wr.heap.size, 1, none⟩ = some (.int .i64 0) /\ Below w5.heap.size w5 W from fun W h => by
            have hbW : Below w5.heap.size w5 W := (show Below w5.heap.size w5 w5.drew from (Below.refl _ _).drew).trans h
            have h5 : Below wr.heap.size wr w5 := U.out.2.trans (H5.out.mono U.out.2.size)
            have hb : Below wr.heap.size wr W := h5.trans (hbW.mono h5.size)
            have hx5 := U.out.1.below H5.out U.out.1.lt
            have hx := hx5.below hbW hx5.lt
            refine ⟨fun j u hu => ?_, hx.cell 0, hx.cell 1, hbW⟩
            obtain ⟨x, hx2, hxu⟩ := flatK_cell encIt_len (by decide) l' j u hu
            have hkW := R.out.2.2.2.2.2.2.1.same (hb.block kg2 R.out.2.2.2.2.2.2.1.lt)
            have := hkW.cells _ x hx2 _ u hxu
            rw [show ko2 + j / 2 * 2 + j % 2 = ko2 + j by omega] at this
            rw [addr_add]
            exact this)
           refine wp_region_concT 4 (apR9 (some ⟨kg2, ko2, none⟩) l' c1' n w5.heap.size) (fun A W => Below A.heap.size A W) (fun _ _ => True) (by kernel_rfl) (by kernel_rfl) (by kernel_rfl) (by kernel_rfl) (Below.refl _ _) trivial (fun h k => h.trans (k.mono h.size)) ?_ ?_
           ·simp only [List.take_succ_cons, List.take_zero]
            refine ⟨?_, ?_, ?_, ?_, trivial⟩
            ·intro L T W hG hJ hLs hLi dq fq vq K hK
             have h1 := fq 1 (by decide)
             simp at h1
             go_simp
             exact hK _ _ (Below.refl _ W) (fun j u _ _ _ h => h) trivial rfl
            ·intro L T W hG hJ hLs hLi dq fq vq K hK
             have h1 := vq ⟨0, .data⟩ (by simp) rfl 69 rfl
             obtain ⟨i0, hi, hz0, hz1, hz2⟩ := info_parts infoItem
             refine wp_append_ownF W _ _ 50 rfl W.heap.size 53 i0 (.agg #[.int .i64 0, .int .i64 0]) 2 16 Tryz.underlying50 hi hz0 hz1 hz2 rfl (by decide) (.slice none 0 0) 0 [] rfl (World.ownsRow_nil _ _ _ _) ⟨kg2, ko2, none⟩ l'.length c1' (flatK encIt l') h1 (flatK_len encIt_len l') (HC.out W hG).1 (flat_one l') ?_ ?_ (Nat.le_refl _) ?_
             ·unfold maxLen; omega
             ·omega
             intro v' W' hown' hg' hfr
             have hbG : Below W.heap.size W W' := (Below.refl _ W).grown hg' (Nat.le_refl _) (fun b hb => by simp [Value.ownBlock] at hb)
             rw [Nat.zero_add, List.nil_append] at hown'
             exact hK _ _ hbG (fun j u _ _ _ h => apR9_stab j u h hbG) trivial (own_low hown' (HC.out W hG).2.2.2.size)
            ·intro L T W hG hJ hLs hLi dq fq vq K hK
             have h1 := fq 9 (by decide)
             simp at h1
             obtain ⟨_, x0, x1, _⟩ := HC.out W hG
             go_simp
             exact hK _ _ (Below.refl _ W) (fun j u _ _ _ h => h) trivial rfl
            ·intro L T W hG hJ hLs hLi dq fq vq K hK
             have h1 := vq ⟨2, .data⟩ (by simp) rfl 71 rfl
             simp only [apR9] at h1
             simp at h1
             go_simp
             have hbn := (Below.refl W.heap.size W).alloc (Nat.le_refl _) (.cells #[.int .i64 (n : Int), .int .i64 0] 53)
             exact hK _ _ hbn (fun j u _ _ _ h => apR9_stab j u h hbn) trivial ⟨_, rfl, Blk.new W _ _, (HC.out W hG).2.2.2.size⟩
           ·intro f9 W7 hG _ hR
            obtain ⟨sb, e3, k3, k4⟩ := hR 3 72 (by decide) rfl
            have h1r := hR 1 70 (by decide) rfl
            simp only [concDsts, List.take_succ_cons, List.take_zero, List.drop_succ_cons, List.drop_zero, List.filterMap_cons, List.filterMap_nil, List.foldl_cons, List.foldl_nil, List.setIfInBounds_toArray, List.set_cons_zero, List.set_cons_succ]
            simp only [apR9] at h1r
            obtain ⟨oa, oc, ho⟩ := own_shape h1r
            rw [ho] at h1r ⊢
            rw [e3]
            clear e3 ho hR
            generalize f9 69 = v69
            generalize f9 71 = v71
            clear f9
            have hb7 := (HC.out W7 hG).2.2.2
            have S7 := Hd (An h1r (An k3 (An k4 hb7)))
            have hs7 := hb7.size
            clear h1r k3 k4 hb7 hG
            obtain ⟨i0, hi, hz0, hz1, hz2⟩ := info_parts infoItem
            go_wp2_with (at_builtin; go_loud (refine wpList_append_ownF _ rfl _ _ 50 rfl w5.heap.size 53 i0 (.agg #[.int .i64 0, .int .i64 0]) 2 16 Tryz.underlying50 hi hz0 hz1 hz2 rfl (by decide) _ l'.length _ rfl S7.out.1 ⟨sb, 0, none⟩ 1 1 (encIt (n, 0)) rfl rfl ?c1 ?c2 ?c3 ?c4 ?c5 ?_))
            case c1 =>
             intro j u hj
             rw [addr_add, Nat.zero_add, S7.out.2.1.cell j]
             simpa [encIt] using hj
            case c2 => intro u hu; simp [encIt] at hu; rcases hu with rfl | rfl <;> rfl
            case c3 => unfold maxLen; omega
            case c4 => omega
            case c5 => exact hs7
            intro v' w8 hown8 hg8 hfr8
            have hb8 := S7.out.2.2.2.grown hg8 hs7 (fun b hb => (S7.out.1.lt b hb).1)
            rw [flatK_snoc] at hown8
            have S8 := Hd (An hown8 hb8)
            clear hown8 hg8 hfr8 hb8 hi hz0 hz1 hz2
            go_wp2_with fail
            go_roundg (g.prods.length - (n + 1))
            case measure => have h1 := R.out.1; omega
            case rel =>
             have h5 : Below wr.heap.size wr w5 := U.out.2.trans (H5.out.mono U.out.2.size)
             have hbA := h5.trans (S8.out.2.mono h5.size)
             exact ⟨n + 1, by omega, rfl, rfl, by rw [HSU.out]; exact ((own_sliceK encIt_len (by rw [List.length_append]; exact S8.out.1)).imp (D' := fun _ => True) fun _ _ _ => trivial), R.out.2.1.trans (hbA.mono R.out.2.1.size)⟩
        ·have hcl : (p.left == ys) = false := by simpa using hl
         have HSU := Hd (show addN g ys l (n + 1) = l' from by rw [R.out.2.2.2.2.2.1]; exact if_neg (fun h => hl h.1))
         clear hl
         go_quiet (fail)
         go_wp2_with fail
         go_roundg (g.prods.length - (n + 1))
         case measure => have h1 := R.out.1; omega
         case rel =>
          exact ⟨n + 1, by omega, rfl, rfl, by rw [HSU.out]; exact HS1.out.all (below_drewN U.out.2 _), R.out.2.1.trans ((below_drewN U.out.2 _).mono R.out.2.1.size)⟩
       ·obtain rfl : n = g.prods.length := by omega
        have R := Hd (An hby (show SliceK (fun _ => True) encIt 2 wr (.slice a1 (addN g ys l g.prods.length).length c1') (addN g ys l g.prods.length) from ⟨a1, c1', rfl, by assumption, by assumption, hk1⟩))
        clear hby hk1 hm hyq hgq hbwq
        go_wp2_with fail
        go_roundg (l0.length + g.prods.length - (i + 1))
        case measure => have h1 := Q.out.1; have h2 := Q.out.2.2.2.2.2.2.2.2.2.1; omega
        case rel =>
         have h3 := Q.out.2.1.step Q.out.2.2.2.2.2.2.1
         rw [HST.out] at h3
         exact ⟨i + 1, _, rfl, rfl, h3, R.out.2, Q.out.2.2.1.trans ((X.out.1.trans (R.out.1.mono X.out.1.size)).mono Q.out.2.2.1.size)⟩
     ·have hst : rcStep g (pn, d) l = l := by unfold rcStep; rw [hah]; exact if_neg hk1
      have HST := Hd hst
      have hk2 : (yk == 1) = false := by simpa using hk1
      clear hst hah
      go_wp2_with fail
      go_loopg [1, 8] 0 (fun m v1 v8 wx => m = 0 /\ v1 = .slice (some ⟨kg, ko, none⟩) LL lc /\ v8 = .int .i64 0 /\ wz = wx)
      case atStart => exact ⟨rfl, rfl, rfl, rfl⟩
      case round =>
       obtain ⟨hm, rfl, rfl, rfl⟩ := hrel
       go_wp2_with fail
       go_roundg (l0.length + g.prods.length - (i + 1))
       case measure => have h1 := Q.out.1; have h2 := Q.out.2.2.2.2.2.2.2.2.2.1; omega
       case rel =>
        have h3 := Q.out.2.1.step Q.out.2.2.2.2.2.2.1
        rw [HST.out] at h3
        exact ⟨i + 1, l, rfl, rfl, h3, (HSL.out wz X.out.1), Q.out.2.2.1.trans (X.out.1.mono Q.out.2.2.1.size)⟩
  ·have hie : i = l.length := by omega
   subst hie
   have hdone := hat.done HK.out.2.2.1
   have hLb : l.length <= 1100000 := by omega
   have HS := Hd (show SliceK (fun _ => True) encIt 2 wr (.slice la l.length lc) l from ⟨la, lc, rfl, by assumption, by assumption, hlk⟩)
   have Q := Hd (An hdone (An (H1.out.1.below hbx H1.out.1.lt) (H1.out.2.trans (hbx.mono H1.out.2.size))))
   clear hat hbx hlk hfit hle hdone hm hil
   obtain ⟨LL, hLL⟩ : ∃ LL, l.length = LL := ⟨_, rfl⟩
   rw [hLL] at HS ⊢
   have HLL := Hd hLL
   rw [hLL] at hLb
   clear hLL
   obtain ⟨wa, rfl⟩ : ∃ wa : World, wa = wr := ⟨_, rfl⟩
   have hsa : w.heap.size + 1 <= wa.heap.size := Q.out.2.1.lt
   go_wp2_with fail
   go_loopg [10, 11] g.prods.length (fun m v10 v11 wx => ∃ n : Nat, n <= g.prods.length /\ m = g.prods.length - n /\ v11 = .int .i64 (n : Int) /\ wx.ownsRow wa.heap.size 53 2 v10 (outN g l n).length (flatK encIt (outN g l n)) /\ Below wa.heap.size wa wx)
   case atStart => exact ⟨0, by omega, rfl, rfl, World.ownsRow_nil _ _ _ _, Below.refl _ _⟩
   case round =>
    obtain ⟨n, hn, hm, rfl, hown, hby⟩ := hrel
    obtain ⟨ua, uc, rfl⟩ := own_shape hown
    have hgq := Q.out.2.1.below hby Q.out.2.1.lt
    have g1 := hgq.cell 1
    simp at g1
    by_cases hnl : n < g.prods.length
    ·obtain ⟨p, hp⟩ : ∃ p, g.prods[n]? = some p := ⟨_, List.getElem?_eq_getElem hnl⟩
     obtain ⟨cap, pb, po, vr, epv, hbl, hvr, hpc⟩ := HK.out.1.at_ hp
     injection epv with e1 e2 e3
     subst e1
     subst e3
     obtain ⟨ra, rc, rfl⟩ := slice_shape hvr
     have f1w := hpc 1 _ rfl
     have hrt : rightOf g n = p.right := by unfold rightOf; rw [hp]; rfl
     have hrl := HK.out.2.2.2 p (List.mem_of_getElem? hp)
     have hos := outN_succ g l n
     obtain ⟨RR, hRR⟩ : ∃ RR, p.right.length = RR := ⟨_, rfl⟩
     rw [hrt, hRR] at hos
     simp only [hRR] at f1w hrl
     have hlo := outN_len g l HK.out.2.2.2 n
     have hn0 : (0 : Int) <= (n : Int) := by omega
     have hn1 : (n : Int) < (g.prods.length : Int) := by omega
     have R := Hd (An hm (An hown (An hby (An hos (An f1w (An hbl hlo))))))
     clear hm hown hby hos f1w hpc hvr hrt hp hgq e2 hRR hbl hlo
     go_wp2_with fail
     go_loopg [10, 12] (RR + 1) (fun m v10 v12 wx => ∃ d : Nat, d <= RR + 1 /\ m = RR + 1 - d /\ v12 = .int .i64 (d : Int) /\ wx.ownsRow wa.heap.size 53 2 v10 (outN g l n ++ rowR g l n d).length (flatK encIt (outN g l n ++ rowR g l n d)) /\ Below wa.heap.size wa wx)
     case atStart => exact ⟨0, by omega, rfl, rfl, by have h := R.out.2.1; simpa [rowR] using h, R.out.2.2.1⟩
     case round =>
      obtain ⟨d, hd, hmd, rfl, hownd, hbd⟩ := hrel
      obtain ⟨va, vc, rfl⟩ := own_shape hownd
      have hgd := Q.out.2.1.below hbd Q.out.2.1.lt
      have hbwd := Q.out.2.2.trans (hbd.mono Q.out.2.2.size)
      have g1 := hgd.cell 1
      simp at g1
      have f1 := (World.cell?_of_block (hbwd.block pb R.out.2.2.2.2.2.1)).trans R.out.2.2.2.2.1
      by_cases hdl : d <= RR
      ·have hd1 : (d : Int) <= (RR : Int) := by omega
       obtain ⟨bh, hbh⟩ : ∃ b, decide ((n, d) ∈ l) = b := ⟨_, rfl⟩
       have hcall : Calls Tryz.prog 79 #[.slice la LL lc, .agg #[.int .i64 (n : Int), .int .i64 (d : Int)]] wr fun e w' => e = .returned (.bool (decide ((n, d) ∈ l))) /\ Below wr.heap.size wr w' := r9has_any (fun _ => True) l (by have := HLL.out; omega) _ (n, d) wr (HS.out.all hbd)
       rw [hbh] at hcall
       have hrs := rowR_succ g l n d
       have hlr := rowR_len g l n d
       obtain ⟨LD, hLD⟩ : ∃ LD, (outN g l n ++ rowR g l n d).length = LD := ⟨_, rfl⟩
       rw [hLD] at hownd ⊢
       have hDb : LD <= 32000 := by rw [<- hLD, List.length_append]; have h1 := R.out.2.2.2.2.2.2; omega
       have hsd := hbd.size
       have S := Hd (An hmd (An hownd (An hbd (An hbh (An hrs hLD)))))
       clear hmd hownd hbd hbh hrs hLD hgd hbwd hlr
       go_wp2_with fail
       refine hcall.mono ?_
       rintro e w5 ⟨rfl, hb5⟩
       have H5 := Hd (An (row_below S.out.2.1 hb5) (S.out.2.2.1.trans (hb5.mono S.out.2.2.1.size)))
       have hs5 := hb5.size
       clear hb5 hcall g1 f1
       cases bh with
       | true =>
        have HSU := Hd (show outN g l n ++ rowR g l n (d + 1) = (outN g l n ++ rowR g l n d) ++ [(n, d)] from by rw [S.out.2.2.2.2.1, if_pos (of_decide_eq_true S.out.2.2.2.1), List.append_assoc])
        obtain ⟨i0, hi, hz0, hz1, hz2⟩ := info_parts infoItem
        go_wp2_with (at_builtin; go_loud (refine wpList_append_ownF _ rfl _ _ 50 rfl wa.heap.size 53 i0 (.agg #[.int .i64 0, .int .i64 0]) 2 16 Tryz.underlying50 hi hz0 hz1 hz2 rfl (by decide) _ LD _ rfl (H5.out.1.alloc _) ⟨w5.heap.size, 0, none⟩ 1 1 [.int .i64 (n : Int), .int .i64 (d : Int)] rfl rfl ?c1 ?c2 ?c3 ?c4 ?c5 ?_))
        case c1 => exact cells_new2 w5 _ _
        case c2 => intro u hu; simp at hu; rcases hu with rfl | rfl <;> rfl
        case c3 => unfold maxLen; omega
        case c4 => omega
        case c5 => simp; omega
        intro v' w8 hown8 hg8 hfr8
        have hb8 := (H5.out.2.alloc (by omega) (.cells #[.int .i64 (n : Int), .int .i64 (d : Int)] 53)).grown hg8 (by simp; omega) (fun b hb => (H5.out.1.lt b hb).1)
        have ez : flatK encIt (outN g l n ++ rowR g l n d) ++ [.int .i64 (n : Int), .int .i64 (d : Int)] = flatK encIt ((outN g l n ++ rowR g l n d) ++ [(n, d)]) := by rw [<- flatK_snoc]; rfl
        rw [ez] at hown8
        have S8 := Hd (An hown8 hb8)
        clear hown8 hg8 hfr8 hb8 hi hz0 hz1 hz2 ez
        go_wp2_with fail
        go_roundg (RR + 1 - (d + 1))
        case measure => have h1 := S.out.1; omega
        case rel =>
         refine ⟨d + 1, by omega, rfl, rfl, ?_, S8.out.2⟩
         rw [HSU.out, List.length_append, S.out.2.2.2.2.2]
         exact S8.out.1
       | false =>
        have HSU := Hd (show outN g l n ++ rowR g l n (d + 1) = outN g l n ++ rowR g l n d from by rw [S.out.2.2.2.2.1, if_neg (of_decide_eq_false S.out.2.2.2.1)])
        go_wp2_with fail
        go_roundg (RR + 1 - (d + 1))
        case measure => have h1 := S.out.1; omega
        case rel =>
         refine ⟨d + 1, by omega, rfl, rfl, ?_, H5.out.2⟩
         rw [HSU.out, S.out.2.2.2.2.2]
         exact H5.out.1
      ·obtain rfl : d = RR + 1 := by omega
       rw [<- R.out.2.2.2.1] at hownd ⊢
       have S := Hd (An hownd hbd)
       clear hownd hbd hmd hgd hbwd
       go_wp2_with fail
       go_roundg (g.prods.length - (n + 1))
       case measure => have h1 := R.out.1; omega
       case rel => exact ⟨n + 1, by omega, rfl, rfl, S.out.1, S.out.2⟩
    ·obtain rfl : n = g.prods.length := by omega
     have S := Hd (An hown hby)
     clear hown hby hm hgq
     go_wp2_with fail
     go_ret
     refine ⟨.slice ua (outN g l g.prods.length).length uc, rfl, ?_, Q.out.2.2.trans (S.out.2.mono Q.out.2.2.size)⟩
     have hE : outN g l g.prods.length = closedF g l0 := Q.out.1
     rw [<- hE]
     exact own_low S.out.1 (show w.heap.size <= wa.heap.size from by omega)
end Go.Proofs.YtknpkndiflodbaaGreatDoor.Tb
