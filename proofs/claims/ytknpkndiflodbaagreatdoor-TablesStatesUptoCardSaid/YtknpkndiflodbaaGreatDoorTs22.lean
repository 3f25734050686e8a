/- Walks and plain laws that the last text stands on: TbRef9C. -/
import Derived.Test.YtknpkndiflodbaaGreatDoorTs21
import Derived.Test.YtknpkndiflodbaaGreatDoorTs20
set_option linter.unusedVariables false
set_option linter.unusedSimpArgs false
set_option maxRecDepth 100000
set_option maxHeartbeats 16000000
namespace Go.Proofs.YtknpkndiflodbaaGreatDoor.Tb
open Go Go.RowKit Go.Proofs Mx
attribute [local go_sem] eqSet
def hitM (g : Gr) (y : Sy) (x : It) : Bool := match aheadF g x with | some s => s.kind == y.kind && (s.sort == y.sort && (y.kind == 1 || withinF y.set s.set)) | none => false
def movN (g : Gr) (l : List It) (y : Sy) (i : Nat) : List It := ((l.take i).filter fun x => hitM g y x).map fun x => (x.1, x.2 + 1)
theorem movN_all (g : Gr) (l : List It) (y : Sy) : movN g l y l.length = movedR g l y := by unfold movN; rw [List.take_length]; rfl
theorem movN_succ (g : Gr) (l : List It) (y : Sy) (i : Nat) {x : It} (hx : l[i]? = some x) : movN g l y (i + 1) = if hitM g y x then movN g l y i ++ [(x.1, x.2 + 1)] else movN g l y i := by
 unfold movN
 rw [List.take_add_one, hx]
 simp only [Option.toList_some, List.filter_append, List.map_append]
 cases h : hitM g y x <;> simp [h]
theorem movN_len (g : Gr) (l : List It) (y : Sy) (i : Nat) : (movN g l y i).length <= i := by
 unfold movN
 rw [List.length_map]
 exact Nat.le_trans (List.length_filter_le _ _) (by rw [List.length_take]; omega)
theorem movN_ok {g : Gr} {l : List It} {y : Sy} (x : It) (hx : x ∈ movedR g l y) : itemOk g x = true := by
 unfold movedR at hx
 obtain ⟨z, hz, rfl⟩ := List.mem_map.1 hx
 have h1 := (List.mem_filter.1 hz).2
 cases ha : aheadF g z with
 | none => rw [ha] at h1; cases h1
 | some s =>
  have ha2 : (rightOf g z.1)[z.2]? = some s := ha
  rw [itemOk_iff]
  have h3 := (List.getElem?_eq_some_iff.1 ha2).1
  refine ⟨?_, h3⟩
  cases hp : g.prods[z.1]? with
  | none => unfold rightOf at h3; rw [hp] at h3; simp at h3
  | some p => exact (List.getElem?_eq_some_iff.1 hp).1
def apR9m (ua : Option Addr) (ML uc kg ko LL lc i pn d B : Nat) (j : Nat) (v : Value) (W : World) : Prop :=
 match j with
 | 0 => v = .slice ua ML uc
 | 1 => v = .slice (some ⟨kg, ko, none⟩) LL lc
 | 2 => v = .int .i64 (i : Int)
 | 3 => v = .pointer (some ⟨kg, ko + i * 2, none⟩)
 | 4 => v = .pointer (some ⟨kg, ko + i * 2, none⟩)
 | 5 => v = .int .i64 (pn : Int)
 | 6 => v = .slice (some ⟨kg, ko, none⟩) LL lc
 | 7 => v = .int .i64 (i : Int)
 | 8 => v = .pointer (some ⟨kg, ko + i * 2, none⟩)
 | 9 => v = .pointer (some ⟨kg, ko + i * 2 + 1, none⟩)
 | 10 => v = .int .i64 (d : Int)
 | 11 => v = .int .i64 ((d : Int) + 1)
 | 12 => v = .agg #[.int .i64 (pn : Int), .int .i64 ((d : Int) + 1)]
 | 13 => ∃ b, v = .slice (some ⟨b, 0, none⟩) 1 1 /\ Blk W b 53 #[.int .i64 (pn : Int), .int .i64 ((d : Int) + 1)] /\ B <= b
 | _ => True
theorem apR9m_stab {ua : Option Addr} {ML uc kg ko LL lc i pn d B : Nat} (j : Nat) (v : Value) {w w' : World} (h : apR9m ua ML uc kg ko LL lc i pn d B j v w) (hb : Below w.heap.size w w') : apR9m ua ML uc kg ko LL lc i pn d B j v w' := by
 unfold apR9m at h ⊢
 split at h
 all_goals first | trivial | exact h | (obtain ⟨b, e, h1, h2⟩ := h; exact ⟨b, e, h1.below hb h1.lt, h2⟩)
theorem r9moved_any (D E : Nat -> Prop) (g : Gr) (hN : g.prods.length <= 1000) (hr : ∀ p ∈ g.prods, p.right.length <= 30) (l : List It) (hok : ∀ x ∈ l, itemOk g x = true) (hl0 : l.length <= 1000000) (y : Sy) (hy256 : y.set < 2 ^ 256) (w : World) (sv pv fv lv v : Value) (hP : ProdsAt D w pv g.prods) (hv : SliceK E encIt 2 w v l) :
  Calls Tryz.prog 47 #[.agg #[sv, pv, .int .i64 g.start, fv, lv], v, symV y] w fun e w' => ∃ v', e = .returned v' /\ w'.ownsRow w.heap.size 53 2 v' (closedF g (movedR g l y)).length (flatK encIt (closedF g (movedR g l y))) /\ Below w.heap.size w w' := by
 obtain ⟨pa, pc, rfl⟩ := prodsAt_shape hP
 have HK := Hd (An hP (An hv (An hok (An hr hy256))))
 obtain ⟨la, lc, rfl, _, _, hlk⟩ := hv
 obtain ⟨k, S, so⟩ := y
 unfold symV
 simp only
 obtain ⟨LL, hLL⟩ : ∃ LL, l.length = LL := ⟨_, rfl⟩
 have HLL := Hd (An hLL hlk)
 rw [hLL] at hl0 ⊢
 clear hP hok hr hy256 hLL hlk
 go_enter Tryz.func47, Tryz.ntmps47
 go_wp2_with fail
 have hB0 : Blk ((w.alloc (.cells #[sv, .slice pa g.prods.length pc, .int .i64 g.start, fv, lv] 39)).alloc (.cells #[.int .i64 k, .int .u64 (wd S 0), .int .u64 (wd S 1), .int .u64 (wd S 2), .int .u64 (wd S 3), .int .i64 so] 28)) w.heap.size 39 #[sv, .slice pa g.prods.length pc, .int .i64 g.start, fv, lv] := (Blk.new _ _ _).alloc _
 have hB1 : Blk ((w.alloc (.cells #[sv, .slice pa g.prods.length pc, .int .i64 g.start, fv, lv] 39)).alloc (.cells #[.int .i64 k, .int .u64 (wd S 0), .int .u64 (wd S 1), .int .u64 (wd S 2), .int .u64 (wd S 3), .int .i64 so] 28)) (w.heap.size + 1) 28 #[.int .i64 k, .int .u64 (wd S 0), .int .u64 (wd S 1), .int .u64 (wd S 2), .int .u64 (wd S 3), .int .i64 so] := Blk.new_ (by simp) _ _
 have hb0 : Below w.heap.size w ((w.alloc (.cells #[sv, .slice pa g.prods.length pc, .int .i64 g.start, fv, lv] 39)).alloc (.cells #[.int .i64 k, .int .u64 (wd S 0), .int .u64 (wd S 1), .int .u64 (wd S 2), .int .u64 (wd S 3), .int .i64 so] 28)) := ((Below.refl _ w).alloc (Nat.le_refl _) _).alloc (by simp) _
 generalize ((w.alloc (.cells #[sv, .slice pa g.prods.length pc, .int .i64 g.start, fv, lv] 39)).alloc (.cells #[.int .i64 k, .int .u64 (wd S 0), .int .u64 (wd S 1), .int .u64 (wd S 2), .int .u64 (wd S 3), .int .i64 so] 28)) = W1 at hB0 hB1 hb0 ⊢
 have H1 := Hd (An hB0 (An hb0 hB1))
 clear hB0 hb0 hB1
 go_loopg [7, 8] LL (fun m v7 v8 wx => ∃ i : Nat, i <= LL /\ m = LL - i /\ v8 = .int .i64 (i : Int) /\ wx.ownsRow W1.heap.size 53 2 v7 (movN g l ⟨k, S, so⟩ i).length (flatK encIt (movN g l ⟨k, S, so⟩ i)) /\ Below W1.heap.size W1 wx)
 case atStart => exact ⟨0, by omega, rfl, rfl, World.ownsRow_nil _ _ _ _, Below.refl _ _⟩
 case round =>
  obtain ⟨i, hi, hm, rfl, hown, hbx⟩ := hrel
  obtain ⟨ua, uc, rfl⟩ := own_shape hown
  by_cases hil : i < LL
  ·obtain ⟨⟨pn, d⟩, hx⟩ : ∃ x, l[i]? = some x := ⟨_, List.getElem?_eq_getElem (by have := HLL.out.1; omega)⟩
   have hxo : itemOk g (pn, d) = true := HK.out.2.2.1 _ (List.mem_of_getElem? hx)
   obtain ⟨kg, ko, rfl, _, hkw⟩ := HLL.out.2 (by rintro h; rw [h] at hx; simp at hx)
   have hbw : Below w.heap.size w wr := H1.out.2.1.trans (hbx.mono H1.out.2.1.size)
   have hkr := hkw.same (hbw.block kg hkw.lt)
   have hgB := H1.out.1.below hbx H1.out.1.lt
   have hyB := H1.out.2.2.below hbx H1.out.2.2.lt
   have hms := movN_succ g l ⟨k, S, so⟩ i hx
   have hml := movN_len g l ⟨k, S, so⟩ i
   obtain ⟨ML, hML⟩ : ∃ ML, (movN g l ⟨k, S, so⟩ i).length = ML := ⟨_, rfl⟩
   rw [hML] at hown hml ⊢
   have hi0 : (0 : Int) <= (i : Int) := by omega
   have hi1 : (i : Int) < (LL : Int) := by omega
   obtain ⟨y, hy⟩ : ∃ y, (aheadF g (pn, d)).getD noSy = y := ⟨_, rfl⟩
   obtain ⟨okb, hokb⟩ : ∃ b, (aheadF g (pn, d)).isSome = b := ⟨_, rfl⟩
   obtain ⟨⟨yk, yS, ys⟩, hys⟩ : ∃ z, y = z := ⟨_, rfl⟩
   rw [hys] at hy
   have hhit : hitM g ⟨k, S, so⟩ (pn, d) = (okb && (yk == k && (ys == so && (k == 1 || withinF S yS)))) := by
    unfold hitM
    rw [<- hokb]
    cases ha : aheadF g (pn, d) with
    | none => rfl
    | some s => rw [ha] at hy; simp only [Option.getD_some] at hy; subst hy; rfl
   rw [hhit] at hms
   have hcb0 := fun W => both_any S yS 2 (.inr rfl) W
   have hB256 : orTo (bothP 2 S yS) 256 < 2 ^ 256 := orTo_lt _ 256 (Nat.le_refl _)
   have hBz := bothP_zero (b := yS) HK.out.2.2.2.2
   obtain ⟨BB, hBB⟩ : ∃ BB, orTo (bothP 2 S yS) 256 = BB := ⟨_, rfl⟩
   rw [hBB] at hB256 hBz
   rw [hBB] at hcb0
   obtain ⟨y0, hy0⟩ : ∃ z, wd yS 0 = z := ⟨_, rfl⟩
   obtain ⟨y1, hy1⟩ : ∃ z, wd yS 1 = z := ⟨_, rfl⟩
   obtain ⟨y2, hy2⟩ : ∃ z, wd yS 2 = z := ⟨_, rfl⟩
   obtain ⟨y3, hy3⟩ : ∃ z, wd yS 3 = z := ⟨_, rfl⟩
   unfold setV at hcb0
   rw [hy0, hy1, hy2, hy3] at hcb0
   have HCB := Hd hcb0
   have HBZ := Hd (An hB256 hBz)
   clear hcb0 hB256 hBz hBB
   have hca : ∀ W, Below wr.heap.size wr.drew W -> Calls Tryz.prog 78 #[.agg #[sv, .slice pa g.prods.length pc, .int .i64 g.start, fv, lv], .agg #[.int .i64 (pn : Int), .int .i64 (d : Int)]] W fun e W' => e = .returned (.tuple #[.agg #[.int .i64 yk, .int .u64 y0, .int .u64 y1, .int .u64 y2, .int .u64 y3, .int .i64 ys], .bool okb]) /\ Below W.heap.size W W' := fun W h => by
    have hbW : Below wr.heap.size wr W := (show Below wr.heap.size wr wr.drew from (Below.refl _ _).drew).trans h
    have h2 := hbw.trans (hbW.mono hbw.size)
    have := r9ahead_any D g (by omega) (pn, d) hxo W sv (.slice pa g.prods.length pc) fv lv (HK.out.1.keep fun q hq hl => ⟨hq, h2.block q hl⟩)
    rw [hy, hokb] at this
    unfold symV at this
    simp only at this
    rw [hy0, hy1, hy2, hy3] at this
    exact this
   have HA := Hd (show ∀ W, Below wr.heap.size wr.drew W -> W.cell? ⟨w.heap.size, 0, none⟩ = some sv /\ W.cell? ⟨w.heap.size, 1, none⟩ = some (.slice pa g.prods.length pc) /\ W.cell? ⟨w.heap.size, 2, none⟩ = some (.int .i64 g.start) /\ W.cell? ⟨w.heap.size, 3, none⟩ = some fv /\ W.cell? ⟨w.heap.size, 4, none⟩ = some lv /\ W.cell? ⟨kg, ko + i * 2, none⟩ = some (.int .i64 (pn : Int)) /\ W.cell? ⟨kg, ko + i * 2 + 1, none⟩ = some (.int .i64 (d : Int)) from fun W h => by
    have hbW : Below wr.heap.size wr W := (show Below wr.heap.size wr wr.drew from (Below.refl _ _).drew).trans h
    have g0 := hgB.below hbW hgB.lt
    have k0 := hkr.cells i _ hx 0 _ rfl
    simp only [Nat.add_zero] at k0
    exact ⟨g0.cell 0, g0.cell 1, g0.cell 2, g0.cell 3, g0.cell 4, (World.cell?_of_block (hbW.block kg hkr.lt)).trans k0, (World.cell?_of_block (hbW.block kg hkr.lt)).trans (hkr.cells i _ hx 1 _ rfl)⟩)
   have hd30 : d <= 1000 := by have := ((itemOk_iff g (pn, d)).1 hxo).2; have h3 : (rightOf g pn).length <= 30 := by { unfold rightOf; cases hp : g.prods[pn]? with | none => simp | some p => exact HK.out.2.2.2.1 p (List.mem_of_getElem? hp) }; simp only at this; omega
   have Q := Hd (An hm (An hown (An hbx (An hbw (An hgB (An hyB (An hkr (An hx (An hms hML)))))))))
   clear hm hown hbx hbw hgB hyB hkr hkw hx hms hML hxo hy hokb hhit hys hy0 hy1 hy2 hy3 hil
   obtain ⟨wt, rfl⟩ : ∃ wt : World, wt = wr := ⟨_, rfl⟩
   go_upto_region 5 with fail
   refine wp_region_concF 10 8 (aheadR sv (.slice pa g.prods.length pc) (.int .i64 g.start) fv lv kg ko LL lc i pn d yk (y0, y1, y2, y3) ys okb wt.heap.size) (fun A W => Below A.heap.size A W) (by kernel_rfl) (by kernel_rfl) (by kernel_rfl) (by kernel_rfl) (Below.refl _ _) (fun h k => h.trans (k.mono h.size)) ?_ (by intro c a v w h; exact h) ?_ ?_
   ·simp only [List.take_succ_cons, List.take_zero]
    refine ⟨?_, ?_, ?_, ?_, ?_, ?_, ?_, ?_, ?_, ?_, trivial⟩
    ·intro L T W hG hJ hLs hLi dq fq vq K hK
     have h1 := fq 3 (by decide)
     simp at h1
     obtain ⟨f0, f1, f2, f3, f4, k0, k1⟩ := HA.out W hG
     go_simp
     exact hK _ _ (Below.refl _ W) (fun j u _ _ _ h => h) trivial rfl
    ·intro L T W hG hJ hLs hLi dq fq vq K hK
     have h1 := fq 1 (by decide)
     simp at h1
     go_simp
     exact hK _ _ (Below.refl _ W) (fun j u _ _ _ h => h) trivial rfl
    ·intro L T W hG hJ hLs hLi dq fq vq K hK
     have h1 := fq 8 (by decide)
     simp at h1
     go_simp
     exact hK _ _ (Below.refl _ W) (fun j u _ _ _ h => h) trivial rfl
    ·intro L T W hG hJ hLs hLi dq fq vq K hK
     have h1 := vq ⟨1, .data⟩ (by simp) rfl 19 rfl
     have h2 := vq ⟨2, .data⟩ (by simp) rfl 20 rfl
     simp only [aheadR] at h1 h2
     simp at h1 h2
     go_simp
     exact hK _ _ (Below.refl _ W) (fun j u _ _ _ h => h) trivial rfl
    ·intro L T W hG hJ hLs hLi dq fq vq K hK
     have h1 := vq ⟨3, .data⟩ (by simp) rfl 21 rfl
     simp only [aheadR] at h1
     simp at h1
     obtain ⟨f0, f1, f2, f3, f4, k0, k1⟩ := HA.out W hG
     go_simp
     exact hK _ _ (Below.refl _ W) (fun j u _ _ _ h => h) trivial rfl
    ·intro L T W hG hJ hLs hLi dq fq vq K hK
     have h1 := vq ⟨0, .data⟩ (by simp) rfl 18 rfl
     have h2 := vq ⟨4, .data⟩ (by simp) rfl 22 rfl
     simp only [aheadR] at h1 h2
     simp at h1 h2
     go_simp
     refine (hca W hG).mono ?_
     rintro e W2 ⟨rfl, hb2⟩
     exact hK _ _ hb2 (fun j u _ _ _ h => aheadR_stab j u h hb2) trivial rfl
    ·intro L T W hG hJ hLs hLi dq fq vq K hK
     have h1 := vq ⟨5, .data⟩ (by simp) rfl 23 rfl
     simp only [aheadR] at h1
     simp at h1
     go_simp
     exact hK _ _ (Below.refl _ W) (fun j u _ _ _ h => h) trivial rfl
    ·intro L T W hG hJ hLs hLi dq fq vq K hK
     have h1 := vq ⟨6, .data⟩ (by simp) rfl 17 rfl
     simp only [aheadR] at h1
     simp at h1
     go_simp
     exact hK _ _ (Below.refl _ W) (fun j u _ _ _ h => h) trivial rfl
    ·intro L T W hG hJ hLs hLi dq fq vq K hK
     have h1 := vq ⟨6, .data⟩ (by simp) rfl 17 rfl
     simp only [aheadR] at h1
     simp at h1
     go_simp
     exact hK _ _ (Below.refl _ W) (fun j u _ _ _ h => h) trivial rfl
    ·intro L T W hG hJ hLs hLi dq fq vq K hK
     go_simp
     have hbn := (Below.refl W.heap.size W).alloc (Nat.le_refl _) (.cells #[.int .i64 0, .int .u64 0, .int .u64 0, .int .u64 0, .int .u64 0, .int .i64 0] 28)
     exact hK _ _ hbn (fun j u _ _ _ h => aheadR_stab j u h hbn) trivial ⟨_, rfl, Blk.new W _ _, hG.size⟩
   ·intro os T W hos hv
    have h6 := hv ⟨6, .data⟩ (by simp at hos; subst hos; simp) rfl 17 rfl
    simp only [aheadR] at h6
    simp at hos
    subst hos
    refine ⟨.bool okb, .inl ⟨rfl, fun w => ?_⟩, rfl⟩
    simp [execOp, go_sem, h6]
   ·intro f9 W5 hG hR
    have e8 := hR 8 25 (by decide) rfl
    have e7 := hR 7 24 (by decide) rfl
    obtain ⟨yb, e9, k9, k10⟩ := hR 9 9 (by decide) rfl
    simp only [concDsts, List.take_succ_cons, List.take_zero, List.drop_succ_cons, List.drop_zero, List.filterMap_cons, List.filterMap_nil, List.foldl_cons, List.foldl_nil, List.setIfInBounds_toArray, List.set_cons_zero, List.set_cons_succ]
    simp only [aheadR] at e7 e8
    rw [e7, e8, e9]
    clear e7 e8 e9 hR
    generalize f9 18 = v18
    generalize f9 19 = v19
    generalize f9 20 = v20
    generalize f9 21 = v21
    generalize f9 22 = v22
    generalize f9 23 = v23
    generalize f9 17 = v17
    clear f9
    have hbz : Below wt.heap.size W5 ((((((W5.setCell ⟨yb, 0, none⟩ (.int .i64 yk)).setCell ⟨yb, 1, none⟩ (.int .u64 y0)).setCell ⟨yb, 2, none⟩ (.int .u64 y1)).setCell ⟨yb, 3, none⟩ (.int .u64 y2)).setCell ⟨yb, 4, none⟩ (.int .u64 y3)).setCell ⟨yb, 5, none⟩ (.int .i64 ys)) := ((((((Below.refl _ _).setCell k10 _).setCell k10 _).setCell k10 _).setCell k10 _).setCell k10 _).setCell k10 _
    have hYz : Blk ((((((W5.setCell ⟨yb, 0, none⟩ (.int .i64 yk)).setCell ⟨yb, 1, none⟩ (.int .u64 y0)).setCell ⟨yb, 2, none⟩ (.int .u64 y1)).setCell ⟨yb, 3, none⟩ (.int .u64 y2)).setCell ⟨yb, 4, none⟩ (.int .u64 y3)).setCell ⟨yb, 5, none⟩ (.int .i64 ys)) yb 28 #[.int .i64 yk, .int .u64 y0, .int .u64 y1, .int .u64 y2, .int .u64 y3, .int .i64 ys] := by
     have h := ((((((k9).set_ 0 (.int .i64 yk)).set_ 1 (.int .u64 y0)).set_ 2 (.int .u64 y1)).set_ 3 (.int .u64 y2)).set_ 4 (.int .u64 y3)).set_ 5 (.int .i64 ys)
     simpa using h
    have z0 := k9.cell 0
    have z1 := k9.cell 1
    have z2 := k9.cell 2
    have z3 := k9.cell 3
    have z4 := k9.cell 4
    have z5 := k9.cell 5
    have zz := k9.frozen
    simp at z0 z1 z2 z3 z4 z5
    have HGz := Hd (An (show Below wt.heap.size wt W5 from (show Below wt.heap.size wt wt.drew from (Below.refl _ _).drew).trans hG) (An hbz (An hYz k10)))
    clear hbz hYz hG
    go_upto_region 6 with fail
    have hbz := HGz.out.1.trans HGz.out.2.1
    have hYz := HGz.out.2.2.1
    have hyb := HGz.out.2.2.2
    generalize ((((((W5.setCell ⟨yb, 0, none⟩ (.int .i64 yk)).setCell ⟨yb, 1, none⟩ (.int .u64 y0)).setCell ⟨yb, 2, none⟩ (.int .u64 y1)).setCell ⟨yb, 3, none⟩ (.int .u64 y2)).setCell ⟨yb, 4, none⟩ (.int .u64 y3)).setCell ⟨yb, 5, none⟩ (.int .i64 ys)) = wz at hbz hYz ⊢
    clear z0 z1 z2 z3 z4 z5 zz k9 k10 HGz
    have X := Hd (An hbz (An hYz hyb))
    obtain ⟨q0, q1, q2, q3, q4, q5⟩ : wz.cell? ⟨yb, 0, none⟩ = some (.int .i64 yk) /\ wz.cell? ⟨yb, 1, none⟩ = some (.int .u64 y0) /\ wz.cell? ⟨yb, 2, none⟩ = some (.int .u64 y1) /\ wz.cell? ⟨yb, 3, none⟩ = some (.int .u64 y2) /\ wz.cell? ⟨yb, 4, none⟩ = some (.int .u64 y3) /\ wz.cell? ⟨yb, 5, none⟩ = some (.int .i64 ys) := ⟨hYz.cell 0, hYz.cell 1, hYz.cell 2, hYz.cell 3, hYz.cell 4, hYz.cell 5⟩
    have hyz2 := Q.out.2.2.2.2.2.1.below hbz Q.out.2.2.2.2.2.1.lt
    obtain ⟨c0, c1, c2, c3, c4, c5⟩ : wz.cell? ⟨w.heap.size + 1, 0, none⟩ = some (.int .i64 k) /\ wz.cell? ⟨w.heap.size + 1, 1, none⟩ = some (.int .u64 (wd S 0)) /\ wz.cell? ⟨w.heap.size + 1, 2, none⟩ = some (.int .u64 (wd S 1)) /\ wz.cell? ⟨w.heap.size + 1, 3, none⟩ = some (.int .u64 (wd S 2)) /\ wz.cell? ⟨w.heap.size + 1, 4, none⟩ = some (.int .u64 (wd S 3)) /\ wz.cell? ⟨w.heap.size + 1, 5, none⟩ = some (.int .i64 so) := ⟨hyz2.cell 0, hyz2.cell 1, hyz2.cell 2, hyz2.cell 3, hyz2.cell 4, hyz2.cell 5⟩
    clear hbz hYz hyb hca HA hyz2
    cases okb with
    | false =>
     have HSU := Hd (show movN g l ⟨k, S, so⟩ (i + 1) = movN g l ⟨k, S, so⟩ i from by rw [Q.out.2.2.2.2.2.2.2.2.1]; rfl)
     clear c0 c1 c2 c3 c4 c5 q0 q1 q2 q3 q4 q5
     go_wp2_with fail
     go_roundg (LL - (i + 1))
     case measure => have h1 := Q.out.1; omega
     case rel => exact ⟨i + 1, by omega, rfl, rfl, by rw [HSU.out, Q.out.2.2.2.2.2.2.2.2.2]; exact row_below Q.out.2.1 X.out.1, Q.out.2.2.1.trans (X.out.1.mono Q.out.2.2.1.size)⟩
    | true =>
     by_cases hk : yk = k
     ·by_cases hs : ys = so
      ·by_cases hk1 : k = 1
       ·have HSU := Hd (show movN g l ⟨k, S, so⟩ (i + 1) = movN g l ⟨k, S, so⟩ i ++ [(pn, d + 1)] from by rw [Q.out.2.2.2.2.2.2.2.2.1, hk, hs, hk1]; simp)
        have hk2 : (k == 1) = true := by simpa using hk1
        rw [hk] at q0
        rw [hs] at q5
        clear hk1 hk hs
        go_upto_region 7 with fail
        have P := Hd X.out.1
        obtain ⟨wy, hwy⟩ : ∃ wy : World, wz = wy := ⟨_, rfl⟩
        subst hwy
        clear c0 c1 c2 c3 c4 c5 q0 q1 q2 q3 q4 q5
        have hrow := row_below Q.out.2.1 X.out.1
        have hbk : Below W1.heap.size W1 wz := Q.out.2.2.1.trans (X.out.1.mono Q.out.2.2.1.size)
        have k0 := Q.out.2.2.2.2.2.2.1.cells i _ Q.out.2.2.2.2.2.2.2.1 0 _ rfl
        have k1 := Q.out.2.2.2.2.2.2.1.cells i _ Q.out.2.2.2.2.2.2.2.1 1 _ rfl
        simp only [Nat.add_zero] at k0
        replace k0 := (World.cell?_of_block (X.out.1.block kg Q.out.2.2.2.2.2.2.1.lt)).trans k0
        replace k1 := (World.cell?_of_block (X.out.1.block kg Q.out.2.2.2.2.2.2.1.lt)).trans k1
        have hsz := hbk.size
        have hdw : IntKind.i64.wrap ((d : Int) + 1) = (d : Int) + 1 := IntWalk.i64_in _ (by omega)
        have T := Hd (An hrow hbk)
        clear hrow hbk
        obtain ⟨i0, hi9, hz0, hz1, hz2⟩ := info_parts infoItem
        obtain ⟨wv, rfl⟩ : ∃ wv : World, wv = wz := ⟨_, rfl⟩
        have HC := Hd (show ∀ W, Below wv.drew.heap.size wv.drew W -> W.cell? ⟨kg, ko + i * 2, none⟩ = some (.int .i64 (pn : Int)) /\ W.cell? ⟨kg, ko + i * 2 + 1, none⟩ = some (.int .i64 (d : Int)) /\ Below wv.heap.size wv W from fun W h => by
         have hbW : Below wv.heap.size wv W := (show Below wv.heap.size wv wv.drew from (Below.refl _ _).drew).trans h
         have hlt : kg < wv.heap.size := World.block_lt_of_cell? _ _ k0
         exact ⟨(World.cell?_of_block (hbW.block kg hlt)).trans k0, (World.cell?_of_block (hbW.block kg hlt)).trans k1, hbW⟩)
        clear k0 k1
        refine wp_region_concT 14 (apR9m ua ML uc kg ko LL lc i pn d wv.heap.size) (fun A W => Below A.heap.size A W) (fun _ _ => True) (by kernel_rfl) (by kernel_rfl) (by kernel_rfl) (by kernel_rfl) (Below.refl _ _) trivial (fun h k => h.trans (k.mono h.size)) ?_ ?_
        ·simp only [List.take_succ_cons, List.take_zero]
         refine ⟨?_, ?_, ?_, ?_, ?_, ?_, ?_, ?_, ?_, ?_, ?_, ?_, ?_, ?_, trivial⟩
         ·intro L T W hG hJ hLs hLi dq fq vq K hK
          have h1 := fq 7 (by decide)
          simp at h1
          go_simp
          exact hK _ _ (Below.refl _ W) (fun j u _ _ _ h => h) trivial rfl
         ·intro L T W hG hJ hLs hLi dq fq vq K hK
          have h1 := fq 1 (by decide)
          simp at h1
          go_simp
          exact hK _ _ (Below.refl _ W) (fun j u _ _ _ h => h) trivial rfl
         ·intro L T W hG hJ hLs hLi dq fq vq K hK
          have h1 := fq 8 (by decide)
          simp at h1
          go_simp
          exact hK _ _ (Below.refl _ W) (fun j u _ _ _ h => h) trivial rfl
         ·intro L T W hG hJ hLs hLi dq fq vq K hK
          have h1 := vq ⟨1, .data⟩ (by simp) rfl 56 rfl
          have h2 := vq ⟨2, .data⟩ (by simp) rfl 57 rfl
          simp only [apR9m] at h1 h2
          simp at h1 h2
          go_simp
          exact hK _ _ (Below.refl _ W) (fun j u _ _ _ h => h) trivial rfl
         ·intro L T W hG hJ hLs hLi dq fq vq K hK
          have h1 := vq ⟨3, .data⟩ (by simp) rfl 58 rfl
          simp only [apR9m] at h1
          simp at h1
          go_simp
          exact hK _ _ (Below.refl _ W) (fun j u _ _ _ h => h) trivial rfl
         ·intro L T W hG hJ hLs hLi dq fq vq K hK
          have h1 := vq ⟨4, .data⟩ (by simp) rfl 59 rfl
          simp only [apR9m] at h1
          simp at h1
          obtain ⟨k0, k1, _⟩ := HC.out W hG
          go_simp
          exact hK _ _ (Below.refl _ W) (fun j u _ _ _ h => h) trivial rfl
         ·intro L T W hG hJ hLs hLi dq fq vq K hK
          have h1 := fq 1 (by decide)
          simp at h1
          go_simp
          exact hK _ _ (Below.refl _ W) (fun j u _ _ _ h => h) trivial rfl
         ·intro L T W hG hJ hLs hLi dq fq vq K hK
          have h1 := fq 8 (by decide)
          simp at h1
          go_simp
          exact hK _ _ (Below.refl _ W) (fun j u _ _ _ h => h) trivial rfl
         ·intro L T W hG hJ hLs hLi dq fq vq K hK
          have h1 := vq ⟨6, .data⟩ (by simp) rfl 61 rfl
          have h2 := vq ⟨7, .data⟩ (by simp) rfl 62 rfl
          simp only [apR9m] at h1 h2
          simp at h1 h2
          go_simp
          exact hK _ _ (Below.refl _ W) (fun j u _ _ _ h => h) trivial rfl
         ·intro L T W hG hJ hLs hLi dq fq vq K hK
          have h1 := vq ⟨8, .data⟩ (by simp) rfl 63 rfl
          simp only [apR9m] at h1
          simp at h1
          go_simp
          exact hK _ _ (Below.refl _ W) (fun j u _ _ _ h => h) trivial rfl
         ·intro L T W hG hJ hLs hLi dq fq vq K hK
          have h1 := vq ⟨9, .data⟩ (by simp) rfl 64 rfl
          simp only [apR9m] at h1
          simp at h1
          obtain ⟨k0, k1, _⟩ := HC.out W hG
          go_simp
          exact hK _ _ (Below.refl _ W) (fun j u _ _ _ h => h) trivial rfl
         ·intro L T W hG hJ hLs hLi dq fq vq K hK
          have h1 := vq ⟨10, .data⟩ (by simp) rfl 65 rfl
          simp only [apR9m] at h1
          simp at h1
          go_simp
          exact hK _ _ (Below.refl _ W) (fun j u _ _ _ h => h) trivial rfl
         ·intro L T W hG hJ hLs hLi dq fq vq K hK
          have h1 := vq ⟨5, .data⟩ (by simp) rfl 60 rfl
          have h2 := vq ⟨11, .data⟩ (by simp) rfl 66 rfl
          simp only [apR9m] at h1 h2
          simp at h1 h2
          go_simp
          exact hK _ _ (Below.refl _ W) (fun j u _ _ _ h => h) trivial rfl
         ·intro L T W hG hJ hLs hLi dq fq vq K hK
          have h1 := vq ⟨12, .data⟩ (by simp) rfl 67 rfl
          simp only [apR9m] at h1
          simp at h1
          go_simp
          have hbn := (Below.refl W.heap.size W).alloc (Nat.le_refl _) (.cells #[.int .i64 (pn : Int), .int .i64 ((d : Int) + 1)] 53)
          exact hK _ _ hbn (fun j u _ _ _ h => apR9m_stab j u h hbn) trivial ⟨_, rfl, Blk.new W _ _, (HC.out W hG).2.2.size⟩
        ·intro f9 W7 hG _ hR
         obtain ⟨sb, e3, k3, k4⟩ := hR 13 68 (by decide) rfl
         have h1r := hR 0 55 (by decide) rfl
         simp only [concDsts, List.take_succ_cons, List.take_zero, List.drop_succ_cons, List.drop_zero, List.filterMap_cons, List.filterMap_nil, List.foldl_cons, List.foldl_nil, List.setIfInBounds_toArray, List.set_cons_zero, List.set_cons_succ]
         simp only [apR9m] at h1r
         rw [e3, h1r]
         clear e3 h1r hR
         generalize f9 56 = v56
         generalize f9 57 = v57
         generalize f9 58 = v58
         generalize f9 59 = v59
         generalize f9 60 = v60
         generalize f9 61 = v61
         generalize f9 62 = v62
         generalize f9 63 = v63
         generalize f9 64 = v64
         generalize f9 65 = v65
         generalize f9 66 = v66
         generalize f9 67 = v67
         clear f9
         have hb7 := (HC.out W7 hG).2.2
         have S7 := Hd (An (row_below T.out.1 hb7) (An k3 (An k4 (T.out.2.trans (hb7.mono hsz)))))
         have hs7 := hb7.size
         clear k3 k4 hb7 hG
         go_wp2_with (at_builtin; go_loud (refine wpList_append_ownF _ rfl _ _ 50 rfl W1.heap.size 53 i0 (.agg #[.int .i64 0, .int .i64 0]) 2 16 Tryz.underlying50 hi9 hz0 hz1 hz2 rfl (by decide) _ ML _ rfl S7.out.1 ⟨sb, 0, none⟩ 1 1 (encIt (pn, d + 1)) rfl rfl ?c1 ?c2 ?c3 ?c4 ?c5 ?_))
         case c1 =>
          intro j u hj
          first | rw [addr_add, Nat.zero_add, S7.out.2.1.cell j] | rw [S7.out.2.1.cell j]
          simpa [encIt] using hj
         case c2 => intro u hu; simp [encIt] at hu; rcases hu with rfl | rfl <;> rfl
         case c3 => unfold maxLen; omega
         case c4 => omega
         case c5 => omega
         intro v' w8 hown8 hg8 hfr8
         have hb8 := S7.out.2.2.2.grown hg8 (by omega) (fun b hb => (S7.out.1.lt b hb).1)
         rw [flatK_snoc] at hown8
         have S8 := Hd (An hown8 hb8)
         clear hown8 hg8 hfr8 hb8 hi9 hz0 hz1 hz2
         go_wp2_with fail
         go_roundg (LL - (i + 1))
         case measure => have h1 := Q.out.1; omega
         case rel =>
          refine ⟨i + 1, by omega, rfl, rfl, ?_, S8.out.2⟩
          rw [HSU.out, List.length_append, Q.out.2.2.2.2.2.2.2.2.2]
          exact S8.out.1
       ·have hk2 : (k == 1) = false := by simpa using hk1
        have hcb := HCB.out wz
        rw [hk] at q0
        rw [hs] at q5
        have hks : yk = k /\ ys = so := ⟨hk, hs⟩
        have HKS := Hd (An hks hk2)
        clear hk1 hk hs hks
        go_wp2_with fail
        refine hcb.mono ?_
        rintro e wy ⟨rfl, hby⟩
        have P := Hd (X.out.1.trans (hby.mono X.out.1.size))
        clear hby hcb c0 c1 c2 c3 c4 c5 q0 q1 q2 q3 q4 q5
        cases hwi : withinF S yS with
        | true =>
         have HSU := Hd (show movN g l ⟨k, S, so⟩ (i + 1) = movN g l ⟨k, S, so⟩ i ++ [(pn, d + 1)] from by rw [Q.out.2.2.2.2.2.2.2.2.1, HKS.out.1.1, HKS.out.1.2, hwi]; simp)
         have hz : decide (wd BB 0 = 0 /\ wd BB 1 = 0 /\ wd BB 2 = 0 /\ wd BB 3 = 0) = true := decide_eq_true ((wd_zero_iff BB HBZ.out.1).2 (HBZ.out.2.2 hwi))
         clear hwi
         go_upto_region 7 with fail
         clear hz
         have hrow := row_below Q.out.2.1 P.out
         have hbk : Below W1.heap.size W1 wy := Q.out.2.2.1.trans (P.out.mono Q.out.2.2.1.size)
         have k0 := Q.out.2.2.2.2.2.2.1.cells i _ Q.out.2.2.2.2.2.2.2.1 0 _ rfl
         have k1 := Q.out.2.2.2.2.2.2.1.cells i _ Q.out.2.2.2.2.2.2.2.1 1 _ rfl
         simp only [Nat.add_zero] at k0
         replace k0 := (World.cell?_of_block (P.out.block kg Q.out.2.2.2.2.2.2.1.lt)).trans k0
         replace k1 := (World.cell?_of_block (P.out.block kg Q.out.2.2.2.2.2.2.1.lt)).trans k1
         have hsz := hbk.size
         have hdw : IntKind.i64.wrap ((d : Int) + 1) = (d : Int) + 1 := IntWalk.i64_in _ (by omega)
         have T := Hd (An hrow hbk)
         clear hrow hbk
         obtain ⟨i0, hi9, hz0, hz1, hz2⟩ := info_parts infoItem
         obtain ⟨wv, rfl⟩ : ∃ wv : World, wv = wy := ⟨_, rfl⟩
         have HC := Hd (show ∀ W, Below wv.drew.heap.size wv.drew W -> W.cell? ⟨kg, ko + i * 2, none⟩ = some (.int .i64 (pn : Int)) /\ W.cell? ⟨kg, ko + i * 2 + 1, none⟩ = some (.int .i64 (d : Int)) /\ Below wv.heap.size wv W from fun W h => by
          have hbW : Below wv.heap.size wv W := (show Below wv.heap.size wv wv.drew from (Below.refl _ _).drew).trans h
          have hlt : kg < wv.heap.size := World.block_lt_of_cell? _ _ k0
          exact ⟨(World.cell?_of_block (hbW.block kg hlt)).trans k0, (World.cell?_of_block (hbW.block kg hlt)).trans k1, hbW⟩)
         clear k0 k1
         refine wp_region_concT 14 (apR9m ua ML uc kg ko LL lc i pn d wv.heap.size) (fun A W => Below A.heap.size A W) (fun _ _ => True) (by kernel_rfl) (by kernel_rfl) (by kernel_rfl) (by kernel_rfl) (Below.refl _ _) trivial (fun h k => h.trans (k.mono h.size)) ?_ ?_
         ·simp only [List.take_succ_cons, List.take_zero]
          refine ⟨?_, ?_, ?_, ?_, ?_, ?_, ?_, ?_, ?_, ?_, ?_, ?_, ?_, ?_, trivial⟩
          ·intro L T W hG hJ hLs hLi dq fq vq K hK
           have h1 := fq 7 (by decide)
           simp at h1
           go_simp
           exact hK _ _ (Below.refl _ W) (fun j u _ _ _ h => h) trivial rfl
          ·intro L T W hG hJ hLs hLi dq fq vq K hK
           have h1 := fq 1 (by decide)
           simp at h1
           go_simp
           exact hK _ _ (Below.refl _ W) (fun j u _ _ _ h => h) trivial rfl
          ·intro L T W hG hJ hLs hLi dq fq vq K hK
           have h1 := fq 8 (by decide)
           simp at h1
           go_simp
           exact hK _ _ (Below.refl _ W) (fun j u _ _ _ h => h) trivial rfl
          ·intro L T W hG hJ hLs hLi dq fq vq K hK
           have h1 := vq ⟨1, .data⟩ (by simp) rfl 56 rfl
           have h2 := vq ⟨2, .data⟩ (by simp) rfl 57 rfl
           simp only [apR9m] at h1 h2
           simp at h1 h2
           go_simp
           exact hK _ _ (Below.refl _ W) (fun j u _ _ _ h => h) trivial rfl
          ·intro L T W hG hJ hLs hLi dq fq vq K hK
           have h1 := vq ⟨3, .data⟩ (by simp) rfl 58 rfl
           simp only [apR9m] at h1
           simp at h1
           go_simp
           exact hK _ _ (Below.refl _ W) (fun j u _ _ _ h => h) trivial rfl
          ·intro L T W hG hJ hLs hLi dq fq vq K hK
           have h1 := vq ⟨4, .data⟩ (by simp) rfl 59 rfl
           simp only [apR9m] at h1
           simp at h1
           obtain ⟨k0, k1, _⟩ := HC.out W hG
           go_simp
           exact hK _ _ (Below.refl _ W) (fun j u _ _ _ h => h) trivial rfl
          ·intro L T W hG hJ hLs hLi dq fq vq K hK
           have h1 := fq 1 (by decide)
           simp at h1
           go_simp
           exact hK _ _ (Below.refl _ W) (fun j u _ _ _ h => h) trivial rfl
          ·intro L T W hG hJ hLs hLi dq fq vq K hK
           have h1 := fq 8 (by decide)
           simp at h1
           go_simp
           exact hK _ _ (Below.refl _ W) (fun j u _ _ _ h => h) trivial rfl
          ·intro L T W hG hJ hLs hLi dq fq vq K hK
           have h1 := vq ⟨6, .data⟩ (by simp) rfl 61 rfl
           have h2 := vq ⟨7, .data⟩ (by simp) rfl 62 rfl
           simp only [apR9m] at h1 h2
           simp at h1 h2
           go_simp
           exact hK _ _ (Below.refl _ W) (fun j u _ _ _ h => h) trivial rfl
          ·intro L T W hG hJ hLs hLi dq fq vq K hK
           have h1 := vq ⟨8, .data⟩ (by simp) rfl 63 rfl
           simp only [apR9m] at h1
           simp at h1
           go_simp
           exact hK _ _ (Below.refl _ W) (fun j u _ _ _ h => h) trivial rfl
          ·intro L T W hG hJ hLs hLi dq fq vq K hK
           have h1 := vq ⟨9, .data⟩ (by simp) rfl 64 rfl
           simp only [apR9m] at h1
           simp at h1
           obtain ⟨k0, k1, _⟩ := HC.out W hG
           go_simp
           exact hK _ _ (Below.refl _ W) (fun j u _ _ _ h => h) trivial rfl
          ·intro L T W hG hJ hLs hLi dq fq vq K hK
           have h1 := vq ⟨10, .data⟩ (by simp) rfl 65 rfl
           simp only [apR9m] at h1
           simp at h1
           go_simp
           exact hK _ _ (Below.refl _ W) (fun j u _ _ _ h => h) trivial rfl
          ·intro L T W hG hJ hLs hLi dq fq vq K hK
           have h1 := vq ⟨5, .data⟩ (by simp) rfl 60 rfl
           have h2 := vq ⟨11, .data⟩ (by simp) rfl 66 rfl
           simp only [apR9m] at h1 h2
           simp at h1 h2
           go_simp
           exact hK _ _ (Below.refl _ W) (fun j u _ _ _ h => h) trivial rfl
          ·intro L T W hG hJ hLs hLi dq fq vq K hK
           have h1 := vq ⟨12, .data⟩ (by simp) rfl 67 rfl
           simp only [apR9m] at h1
           simp at h1
           go_simp
           have hbn := (Below.refl W.heap.size W).alloc (Nat.le_refl _) (.cells #[.int .i64 (pn : Int), .int .i64 ((d : Int) + 1)] 53)
           exact hK _ _ hbn (fun j u _ _ _ h => apR9m_stab j u h hbn) trivial ⟨_, rfl, Blk.new W _ _, (HC.out W hG).2.2.size⟩
         ·intro f9 W7 hG _ hR
          obtain ⟨sb, e3, k3, k4⟩ := hR 13 68 (by decide) rfl
          have h1r := hR 0 55 (by decide) rfl
          simp only [concDsts, List.take_succ_cons, List.take_zero, List.drop_succ_cons, List.drop_zero, List.filterMap_cons, List.filterMap_nil, List.foldl_cons, List.foldl_nil, List.setIfInBounds_toArray, List.set_cons_zero, List.set_cons_succ]
          simp only [apR9m] at h1r
          rw [e3, h1r]
          clear e3 h1r hR
          generalize f9 56 = v56
          generalize f9 57 = v57
          generalize f9 58 = v58
          generalize f9 59 = v59
          generalize f9 60 = v60
          generalize f9 61 = v61
          generalize f9 62 = v62
          generalize f9 63 = v63
          generalize f9 64 = v64
          generalize f9 65 = v65
          generalize f9 66 = v66
          generalize f9 67 = v67
          clear f9
          have hb7 := (HC.out W7 hG).2.2
          have S7 := Hd (An (row_below T.out.1 hb7) (An k3 (An k4 (T.out.2.trans (hb7.mono hsz)))))
          have hs7 := hb7.size
          clear k3 k4 hb7 hG
          go_wp2_with (at_builtin; go_loud (refine wpList_append_ownF _ rfl _ _ 50 rfl W1.heap.size 53 i0 (.agg #[.int .i64 0, .int .i64 0]) 2 16 Tryz.underlying50 hi9 hz0 hz1 hz2 rfl (by decide) _ ML _ rfl S7.out.1 ⟨sb, 0, none⟩ 1 1 (encIt (pn, d + 1)) rfl rfl ?c1 ?c2 ?c3 ?c4 ?c5 ?_))
          case c1 =>
           intro j u hj
           first | rw [addr_add, Nat.zero_add, S7.out.2.1.cell j] | rw [S7.out.2.1.cell j]
           simpa [encIt] using hj
          case c2 => intro u hu; simp [encIt] at hu; rcases hu with rfl | rfl <;> rfl
          case c3 => unfold maxLen; omega
          case c4 => omega
          case c5 => omega
          intro v' w8 hown8 hg8 hfr8
          have hb8 := S7.out.2.2.2.grown hg8 (by omega) (fun b hb => (S7.out.1.lt b hb).1)
          rw [flatK_snoc] at hown8
          have S8 := Hd (An hown8 hb8)
          clear hown8 hg8 hfr8 hb8 hi9 hz0 hz1 hz2
          go_wp2_with fail
          go_roundg (LL - (i + 1))
          case measure => have h1 := Q.out.1; omega
          case rel =>
           refine ⟨i + 1, by omega, rfl, rfl, ?_, S8.out.2⟩
           rw [HSU.out, List.length_append, Q.out.2.2.2.2.2.2.2.2.2]
           exact S8.out.1
        | false =>
         have HSU := Hd (show movN g l ⟨k, S, so⟩ (i + 1) = movN g l ⟨k, S, so⟩ i from by rw [Q.out.2.2.2.2.2.2.2.2.1, HKS.out.2, hwi]; simp)
         have hz : decide (wd BB 0 = 0 /\ wd BB 1 = 0 /\ wd BB 2 = 0 /\ wd BB 3 = 0) = false := by rw [decide_eq_false_iff_not]; exact fun h => by have h2 := HBZ.out.2.1 ((wd_zero_iff BB HBZ.out.1).1 h); rw [hwi] at h2; cases h2
         clear hwi
         go_wp2_with fail
         go_roundg (LL - (i + 1))
         case measure => have h1 := Q.out.1; omega
         case rel => exact ⟨i + 1, by omega, rfl, rfl, by rw [HSU.out, Q.out.2.2.2.2.2.2.2.2.2]; exact row_below Q.out.2.1 P.out, Q.out.2.2.1.trans (P.out.mono Q.out.2.2.1.size)⟩
      ·have hs2 : (ys == so) = false := by simpa using hs
       have HSU := Hd (show movN g l ⟨k, S, so⟩ (i + 1) = movN g l ⟨k, S, so⟩ i from by rw [Q.out.2.2.2.2.2.2.2.2.1, hs2]; simp)
       rw [hk] at q0
       clear hk hs c1 c2 c3 c4 q1 q2 q3 q4
       go_wp2_with fail
       go_roundg (LL - (i + 1))
       case measure => have h1 := Q.out.1; omega
       case rel => exact ⟨i + 1, by omega, rfl, rfl, by rw [HSU.out, Q.out.2.2.2.2.2.2.2.2.2]; exact row_below Q.out.2.1 X.out.1, Q.out.2.2.1.trans (X.out.1.mono Q.out.2.2.1.size)⟩
     ·have hk2 : (yk == k) = false := by simpa using hk
      have HSU := Hd (show movN g l ⟨k, S, so⟩ (i + 1) = movN g l ⟨k, S, so⟩ i from by rw [Q.out.2.2.2.2.2.2.2.2.1, hk2]; simp)
      clear hk c1 c2 c3 c4 c5 q1 q2 q3 q4 q5
      go_wp2_with fail
      go_roundg (LL - (i + 1))
      case measure => have h1 := Q.out.1; omega
      case rel => exact ⟨i + 1, by omega, rfl, rfl, by rw [HSU.out, Q.out.2.2.2.2.2.2.2.2.2]; exact row_below Q.out.2.1 X.out.1, Q.out.2.2.1.trans (X.out.1.mono Q.out.2.2.1.size)⟩
  ·obtain rfl : i = LL := by omega
   have hE : movN g l ⟨k, S, so⟩ i = movedR g l ⟨k, S, so⟩ := by rw [<- HLL.out.1]; exact movN_all _ _ _
   rw [hE] at hown ⊢
   have hML : (movedR g l ⟨k, S, so⟩).length <= 1000000 := by rw [<- hE]; exact Nat.le_trans (movN_len _ _ _ _) hl0
   have hbw : Below w.heap.size w wr := H1.out.2.1.trans (hbx.mono H1.out.2.1.size)
   have hgB := H1.out.1.below hbx H1.out.1.lt
   obtain ⟨c0, c1, c2, c3, c4⟩ : wr.cell? ⟨w.heap.size, 0, none⟩ = some sv /\ wr.cell? ⟨w.heap.size, 1, none⟩ = some (.slice pa g.prods.length pc) /\ wr.cell? ⟨w.heap.size, 2, none⟩ = some (.int .i64 g.start) /\ wr.cell? ⟨w.heap.size, 3, none⟩ = some fv /\ wr.cell? ⟨w.heap.size, 4, none⟩ = some lv := ⟨hgB.cell 0, hgB.cell 1, hgB.cell 2, hgB.cell 3, hgB.cell 4⟩
   have hcl := r9closed_any D (fun _ => True) g hN HK.out.2.2.2.1 (movedR g l ⟨k, S, so⟩) (fun x hx => movN_ok x hx) hML wr sv (.slice pa g.prods.length pc) fv lv _ (HK.out.1.keep fun q hq hl => ⟨hq, hbw.block q hl⟩) ((own_sliceK encIt_len hown).imp (D' := fun _ => True) fun _ _ _ => trivial)
   have Q := Hd hbw
   clear hown hbx hbw hgB hm hE hML
   go_wp2_with fail
   refine hcl.mono ?_
   rintro e w5 ⟨v', rfl, h1, h2⟩
   have X := Hd (An h1 h2)
   clear h1 h2 hcl c0 c1 c2 c3 c4
   go_wp2_with fail
   go_ret
   exact ⟨_, rfl, own_low X.out.1 Q.out.size, Q.out.trans (X.out.2.mono Q.out.size)⟩
end Go.Proofs.YtknpkndiflodbaaGreatDoor.Tb
