/- Walks and plain laws that the last text stands on: TbRef9E. -/
import Derived.Test.YtknpkndiflodbaaGreatDoorTs22
import Derived.Test.YtknpkndiflodbaaGreatDoorTs23
set_option linter.unusedVariables false
set_option linter.unusedSimpArgs false
set_option maxRecDepth 100000
set_option maxHeartbeats 16000000
namespace Go.Proofs.YtknpkndiflodbaaGreatDoor.Tb
open Go Go.RowKit Go.Proofs Mx
attribute [local go_sem] eqSet
def sortsN (g : Gr) (l : List It) (n : Nat) : List Sy := ((List.range n).filter fun k : Nat => l.any (sortHit g (k : Int))).map fun k : Nat => ⟨1, 0, (k : Int)⟩
def metN (g : Gr) (l : List It) (n : Int) (i : Nat) : Bool := (l.take i).any (sortHit g n)
theorem metN_all (g : Gr) (l : List It) (n : Int) : metN g l n l.length = l.any (sortHit g n) := by unfold metN; rw [List.take_length]
theorem metN_succ (g : Gr) (l : List It) (n : Int) (i : Nat) {x : It} (hx : l[i]? = some x) : metN g l n (i + 1) = (metN g l n i || sortHit g n x) := by
 unfold metN
 rw [List.take_add_one, hx]
 simp
theorem sortsN_succ (g : Gr) (l : List It) (n : Nat) : sortsN g l (n + 1) = if l.any (sortHit g (n : Int)) then sortsN g l n ++ [⟨1, 0, (n : Int)⟩] else sortsN g l n := by
 unfold sortsN
 rw [List.range_succ, List.filter_append, List.map_append]
 cases h : l.any (sortHit g (n : Int)) <;> simp [h]
theorem sortsN_len (g : Gr) (l : List It) (n : Nat) : (sortsN g l n).length <= n := by
 unfold sortsN
 rw [List.length_map]
 exact Nat.le_trans (List.length_filter_le _ _) (by simp)
def setsN (g : Gr) (l : List It) (i : Nat) : List Nat := setsOf g (l.take i)
theorem setsN_all (g : Gr) (l : List It) : setsN g l l.length = setsOf g l := by unfold setsN; rw [List.take_length]
theorem setsN_succ (g : Gr) (l : List It) (i : Nat) {x : It} (hx : l[i]? = some x) : setsN g l (i + 1) = setsN g l i ++ (match aheadF g x with | some s => if s.kind = 0 then [s.set] else [] | none => []) := by
 unfold setsN setsOf
 rw [List.take_add_one, hx]
 simp only [Option.toList_some, List.filterMap_append]
 congr 1
 cases ha : aheadF g x with
 | none => simp [ha]
 | some s => by_cases h : s.kind = 0 <;> simp [ha, h]
theorem setsN_len (g : Gr) (l : List It) (i : Nat) : (setsN g l i).length <= i := by
 unfold setsN setsOf
 exact Nat.le_trans (List.length_filterMap_le _ _) (by rw [List.length_take]; omega)
theorem refSplit_lt {L : List Nat} {p : Nat} (h : p ∈ refSplit L) : p < 2 ^ 256 := by
 unfold refSplit at h
 obtain ⟨f, _, rfl⟩ := List.mem_map.1 h
 apply Nat.lt_pow_two_of_testBit
 intro i hi
 rw [classB_bit, decide_eq_false (by omega)]
 rfl
theorem refSplit_len (L : List Nat) : (refSplit L).length <= 256 := by
 unfold refSplit firsts
 rw [List.length_map]
 exact Nat.le_trans (List.length_filter_le _ _) (by simp)
def partsN (S : List Nat) (c : Nat) : List Sy := (((refSplit S).take c).filter fun p => S.any fun s => withinF p s).map fun p => ⟨0, p, 0⟩
def wiN (S : List Nat) (p k : Nat) : Bool := (S.take k).any fun s => withinF p s
theorem wiN_all (S : List Nat) (p : Nat) : wiN S p S.length = S.any fun s => withinF p s := by unfold wiN; rw [List.take_length]
theorem wiN_succ (S : List Nat) (p k : Nat) {s : Nat} (hs : S[k]? = some s) : wiN S p (k + 1) = (wiN S p k || withinF p s) := by
 unfold wiN
 rw [List.take_add_one, hs]
 simp
theorem partsN_succ (S : List Nat) (c : Nat) {p : Nat} (hp : (refSplit S)[c]? = some p) : partsN S (c + 1) = if wiN S p S.length then partsN S c ++ [⟨0, p, 0⟩] else partsN S c := by
 rw [wiN_all]
 unfold partsN
 rw [List.take_add_one, hp]
 simp only [Option.toList_some, List.filter_append, List.map_append]
 cases h : (S.any fun s => withinF p s) <;> simp [h]
theorem partsN_len (S : List Nat) (c : Nat) : (partsN S c).length <= c := by
 unfold partsN
 rw [List.length_map]
 exact Nat.le_trans (List.length_filter_le _ _) (by rw [List.length_take]; omega)
theorem symsR_parts (g : Gr) (l : List It) : symsR g l = sortsN g l g.sorts.length ++ partsN (setsOf g l) (refSplit (setsOf g l)).length := by
 unfold symsR sortsN partsN
 rw [List.take_length]
theorem infoSym2 : (Tryz.prog.info? 28).map (fun i => (i.zero, i.size, i.bytes)) = some (some (.agg #[.int .i64 0, .int .u64 0, .int .u64 0, .int .u64 0, .int .u64 0, .int .i64 0]), 6, 48) := by kernel_rfl
def wiR (pg po PL rc c ag ao SL vc k : Nat) (pw sw bw : Int × Int × Int × Int) (z : Bool) (j : Nat) (v : Value) (W : World) : Prop :=
 match j with
 | 0 => v = .bool false
 | 1 => v = .bool false
 | 2 => v = .slice (some ⟨pg, po, none⟩) PL rc
 | 3 => v = .int .i64 (c : Int)
 | 4 => v = .pointer (some ⟨pg, po + c * 4, none⟩)
 | 5 => v = .agg #[.int .u64 pw.1, .int .u64 pw.2.1, .int .u64 pw.2.2.1, .int .u64 pw.2.2.2]
 | 6 => v = .slice (some ⟨ag, ao, none⟩) SL vc
 | 7 => v = .int .i64 (k : Int)
 | 8 => v = .pointer (some ⟨ag, ao + k * 4, none⟩)
 | 9 => v = .agg #[.int .u64 sw.1, .int .u64 sw.2.1, .int .u64 sw.2.2.1, .int .u64 sw.2.2.2]
 | 10 => v = .agg #[.int .u64 bw.1, .int .u64 bw.2.1, .int .u64 bw.2.2.1, .int .u64 bw.2.2.2]
 | 11 => v = .agg #[.int .u64 0, .int .u64 0, .int .u64 0, .int .u64 0]
 | 12 => v = .bool z
 | 13 => v = .bool z
 | _ => True
theorem r9symbols_any (D E F : Nat -> Prop) (g : Gr) (hN : g.prods.length <= 1000) (hr : ∀ p ∈ g.prods, p.right.length <= 30) (hS : g.sorts.length <= 1000) (l : List It) (hok : ∀ x ∈ l, itemOk g x = true) (hl0 : l.length <= 1000000) (w : World) (sa : Option Addr) (sc : Nat) (pv fv lv v : Value) (hP : ProdsAt D w pv g.prods) (hv : SliceK E encIt 2 w v l) :
  Calls Tryz.prog 46 #[.agg #[.slice sa g.sorts.length sc, pv, .int .i64 g.start, fv, lv], v] w fun e w' => ∃ v', e = .returned v' /\ w'.ownsRow w.heap.size 28 6 v' (symsR g l).length (flatK encSy (symsR g l)) /\ Below w.heap.size w w' := by
 obtain ⟨pa, pc, rfl⟩ := prodsAt_shape hP
 have HK := Hd (An hP (An hv (An hok hr)))
 obtain ⟨la, lc, rfl, _, _, hlk⟩ := hv
 obtain ⟨LL, hLL⟩ : ∃ LL, l.length = LL := ⟨_, rfl⟩
 have HLL := Hd (An hLL hlk)
 rw [hLL] at hl0 ⊢
 obtain ⟨NS, hNS⟩ : ∃ NS, g.sorts.length = NS := ⟨_, rfl⟩
 have HNS := Hd hNS
 rw [hNS] at hS ⊢
 obtain ⟨sv, hsv⟩ : ∃ sv, Value.slice sa NS sc = sv := ⟨_, rfl⟩
 rw [hsv]
 clear hP hok hr hLL hlk hNS
 go_enter Tryz.func46, Tryz.ntmps46
 go_wp2_with fail
 have hB0 : Blk (w.alloc (.cells #[sv, .slice pa g.prods.length pc, .int .i64 g.start, fv, lv] 39)) w.heap.size 39 #[sv, .slice pa g.prods.length pc, .int .i64 g.start, fv, lv] := Blk.new _ _ _
 have hb0 : Below w.heap.size w (w.alloc (.cells #[sv, .slice pa g.prods.length pc, .int .i64 g.start, fv, lv] 39)) := (Below.refl _ w).alloc (Nat.le_refl _) _
 generalize (w.alloc (.cells #[sv, .slice pa g.prods.length pc, .int .i64 g.start, fv, lv] 39)) = W1 at hB0 hb0 ⊢
 have H1 := Hd (An hB0 (An hb0 hsv))
 clear hB0 hb0 hsv
 go_loopg [5, 6] NS (fun m v5 v6 wx => ∃ n : Nat, n <= NS /\ m = NS - n /\ v6 = .int .i64 (n : Int) /\ wx.ownsRow W1.heap.size 28 6 v5 (sortsN g l n).length (flatK encSy (sortsN g l n)) /\ Below W1.heap.size W1 wx)
 case atStart => exact ⟨0, by omega, rfl, rfl, World.ownsRow_nil _ _ _ _, Below.refl _ _⟩
 case round =>
  obtain ⟨n, hn, hm, rfl, hown, hbx⟩ := hrel
  obtain ⟨ua, uc, rfl⟩ := own_shape hown
  have hgB := H1.out.1.below hbx H1.out.1.lt
  have g0 : wr.cell? ⟨w.heap.size, 0, none⟩ = some (.slice sa NS sc) := by have h := hgB.cell 0; rw [H1.out.2.2]; simpa using h
  by_cases hnl : n < NS
  ·have hnlI : (n : Int) < (NS : Int) := by omega
   have hss := sortsN_succ g l n
   have hsl := sortsN_len g l n
   obtain ⟨ML, hML⟩ : ∃ ML, (sortsN g l n).length = ML := ⟨_, rfl⟩
   rw [hML] at hown hsl ⊢
   have Q := Hd (An hm (An hown (An hbx (An hss hML))))
   clear hm hown hbx hss hML hgB
   obtain ⟨wq, rfl⟩ : ∃ wq : World, wq = wr := ⟨_, rfl⟩
   go_wp2_with fail
   go_loopg [7, 8] LL (fun m v7 v8 wx => ∃ i : Nat, i <= LL /\ m = LL - i /\ v8 = .int .i64 (i : Int) /\ v7 = .bool (metN g l (n : Int) i) /\ Below wq.heap.size wq wx)
   case atStart => exact ⟨0, by omega, rfl, rfl, rfl, Below.refl _ _⟩
   case round =>
    obtain ⟨i, hi, hm, rfl, rfl, hby⟩ := hrel
    have hbv : Below W1.heap.size W1 wr := Q.out.2.2.1.trans (hby.mono Q.out.2.2.1.size)
    clear g0
    by_cases hil : i < LL
    ·obtain ⟨⟨pn, d⟩, hx⟩ : ∃ x, l[i]? = some x := ⟨_, List.getElem?_eq_getElem (by have := HLL.out.1; omega)⟩
     have hxo : itemOk g (pn, d) = true := HK.out.2.2.1 _ (List.mem_of_getElem? hx)
     obtain ⟨kg, ko, rfl, _, hkw⟩ := HLL.out.2 (by rintro h; rw [h] at hx; simp at hx)
     have hbw : Below w.heap.size w wr := H1.out.2.1.trans (hbv.mono H1.out.2.1.size)
     have hkr := hkw.same (hbw.block kg hkw.lt)
     have hgB := H1.out.1.below hbv H1.out.1.lt
     have hms := metN_succ g l (n : Int) i hx
     obtain ⟨mt, hmt⟩ : ∃ mt, metN g l (n : Int) i = mt := ⟨_, rfl⟩
     rw [hmt] at hms ⊢
     have hi0 : (0 : Int) <= (i : Int) := by omega
     have hi1 : (i : Int) < (LL : Int) := by omega
     obtain ⟨okb, hokb⟩ : ∃ b, (aheadF g (pn, d)).isSome = b := ⟨_, rfl⟩
     obtain ⟨⟨yk, yS, ys⟩, hy⟩ : ∃ y, (aheadF g (pn, d)).getD noSy = y := ⟨_, rfl⟩
     have hhit : sortHit g (n : Int) (pn, d) = (okb && (yk == 1 && ys == (n : Int))) := by
      unfold sortHit
      rw [<- hokb]
      cases ha : aheadF g (pn, d) with
      | none => rfl
      | some s => rw [ha] at hy; simp only [Option.getD_some] at hy; subst hy; rfl
     rw [hhit] at hms
     obtain ⟨y0, hy0⟩ : ∃ z, wd yS 0 = z := ⟨_, rfl⟩
     obtain ⟨y1, hy1⟩ : ∃ z, wd yS 1 = z := ⟨_, rfl⟩
     obtain ⟨y2, hy2⟩ : ∃ z, wd yS 2 = z := ⟨_, rfl⟩
     obtain ⟨y3, hy3⟩ : ∃ z, wd yS 3 = z := ⟨_, rfl⟩
     have hca : ∀ W, Below wr.heap.size wr.drew W -> Calls Tryz.prog 78 #[.agg #[sv, .slice pa g.prods.length pc, .int .i64 g.start, fv, lv], .agg #[.int .i64 (pn : Int), .int .i64 (d : Int)]] W fun e W' => e = .returned (.tuple #[.agg #[.int .i64 yk, .int .u64 y0, .int .u64 y1, .int .u64 y2, .int .u64 y3, .int .i64 ys], .bool okb]) /\ Below W.heap.size W W' := fun W h => by
      have hbW : Below wr.heap.size wr W := (show Below wr.heap.size wr wr.drew from (Below.refl _ _).drew).trans h
      have h2 := hbw.trans (hbW.mono hbw.size)
      have := r9ahead_any D g (by omega) (pn, d) hxo W sv (.slice pa g.prods.length pc) fv lv (HK.out.1.keep fun q hq hl => ⟨hq, h2.block q hl⟩)
      rw [hy, hokb] at this
      unfold symV at this
      simp only at this
      rw [hy0, hy1, hy2, hy3] at this
      exact this
     have HA := Hd (show ∀ W, Below wr.heap.size wr.drew W -> W.cell? ⟨w.heap.size, 0, none⟩ = some sv /\ W.cell? ⟨w.heap.size, 1, none⟩ = some (.slice pa g.prods.length pc) /\ W.cell? ⟨w.heap.size, 2, none⟩ = some (.int .i64 g.start) /\ W.cell? ⟨w.heap.size, 3, none⟩ = some fv /\ W.cell? ⟨w.heap.size, 4, none⟩ = some lv /\ W.cell? ⟨kg, ko + i * 2, none⟩ = some (.int .i64 (pn : Int)) /\ W.cell? ⟨kg, ko + i * 2 + 1, none⟩ = some (.int .i64 (d : Int)) from fun W h => by
      have hbW : Below wr.heap.size wr W := (show Below wr.heap.size wr wr.drew from (Below.refl _ _).drew).trans h
      have g0 := hgB.below hbW hgB.lt
      have k0 := hkr.cells i _ hx 0 _ rfl
      simp only [Nat.add_zero] at k0
      exact ⟨g0.cell 0, g0.cell 1, g0.cell 2, g0.cell 3, g0.cell 4, (World.cell?_of_block (hbW.block kg hkr.lt)).trans k0, (World.cell?_of_block (hbW.block kg hkr.lt)).trans (hkr.cells i _ hx 1 _ rfl)⟩)
     have R := Hd (An hm (An hby hms))
     clear hm hby hbv hbw hgB hkr hkw hx hms hmt hxo hy hokb hhit hy0 hy1 hy2 hy3 hil
     obtain ⟨wt, rfl⟩ : ∃ wt : World, wt = wr := ⟨_, rfl⟩
     go_upto_region 9 with fail
     refine wp_region_concF 10 8 (aheadR sv (.slice pa g.prods.length pc) (.int .i64 g.start) fv lv kg ko LL lc i pn d yk (y0, y1, y2, y3) ys okb wt.heap.size) (fun A W => Below A.heap.size A W) (by kernel_rfl) (by kernel_rfl) (by kernel_rfl) (by kernel_rfl) (Below.refl _ _) (fun h k => h.trans (k.mono h.size)) ?_ (by intro c a v w h; exact h) ?_ ?_
     ·simp only [List.take_succ_cons, List.take_zero]
      refine ⟨?_, ?_, ?_, ?_, ?_, ?_, ?_, ?_, ?_, ?_, trivial⟩
      ·intro L T W hG hJ hLs hLi dq fq vq K hK
       have h1 := fq 2 (by decide)
       simp at h1
       obtain ⟨f0, f1, f2, f3, f4, k0, k1⟩ := HA.out W hG
       go_simp
       exact hK _ _ (Below.refl _ W) (fun j u _ _ _ h => h) trivial rfl
      ·intro L T W hG hJ hLs hLi dq fq vq K hK
       have h1 := fq 1 (by decide)
       simp at h1
       go_simp
       exact hK _ _ (Below.refl _ W) (fun j u _ _ _ h => h) trivial rfl
      ·intro L T W hG hJ hLs hLi dq fq vq K hK
       have h1 := fq 8 (by decide)
       simp at h1
       go_simp
       exact hK _ _ (Below.refl _ W) (fun j u _ _ _ h => h) trivial rfl
      ·intro L T W hG hJ hLs hLi dq fq vq K hK
       have h1 := vq ⟨1, .data⟩ (by simp) rfl 34 rfl
       have h2 := vq ⟨2, .data⟩ (by simp) rfl 35 rfl
       simp only [aheadR] at h1 h2
       simp at h1 h2
       go_simp
       exact hK _ _ (Below.refl _ W) (fun j u _ _ _ h => h) trivial rfl
      ·intro L T W hG hJ hLs hLi dq fq vq K hK
       have h1 := vq ⟨3, .data⟩ (by simp) rfl 36 rfl
       simp only [aheadR] at h1
       simp at h1
       obtain ⟨f0, f1, f2, f3, f4, k0, k1⟩ := HA.out W hG
       go_simp
       exact hK _ _ (Below.refl _ W) (fun j u _ _ _ h => h) trivial rfl
      ·intro L T W hG hJ hLs hLi dq fq vq K hK
       have h1 := vq ⟨0, .data⟩ (by simp) rfl 33 rfl
       have h2 := vq ⟨4, .data⟩ (by simp) rfl 37 rfl
       simp only [aheadR] at h1 h2
       simp at h1 h2
       go_simp
       refine (hca W hG).mono ?_
       rintro e W2 ⟨rfl, hb2⟩
       exact hK _ _ hb2 (fun j u _ _ _ h => aheadR_stab j u h hb2) trivial rfl
      ·intro L T W hG hJ hLs hLi dq fq vq K hK
       have h1 := vq ⟨5, .data⟩ (by simp) rfl 38 rfl
       simp only [aheadR] at h1
       simp at h1
       go_simp
       exact hK _ _ (Below.refl _ W) (fun j u _ _ _ h => h) trivial rfl
      ·intro L T W hG hJ hLs hLi dq fq vq K hK
       have h1 := vq ⟨6, .data⟩ (by simp) rfl 32 rfl
       simp only [aheadR] at h1
       simp at h1
       go_simp
       exact hK _ _ (Below.refl _ W) (fun j u _ _ _ h => h) trivial rfl
      ·intro L T W hG hJ hLs hLi dq fq vq K hK
       have h1 := vq ⟨6, .data⟩ (by simp) rfl 32 rfl
       simp only [aheadR] at h1
       simp at h1
       go_simp
       exact hK _ _ (Below.refl _ W) (fun j u _ _ _ h => h) trivial rfl
      ·intro L T W hG hJ hLs hLi dq fq vq K hK
       go_simp
       have hbn := (Below.refl W.heap.size W).alloc (Nat.le_refl _) (.cells #[.int .i64 0, .int .u64 0, .int .u64 0, .int .u64 0, .int .u64 0, .int .i64 0] 28)
       exact hK _ _ hbn (fun j u _ _ _ h => aheadR_stab j u h hbn) trivial ⟨_, rfl, Blk.new W _ _, hG.size⟩
     ·intro os T W hos hv
      have h6 := hv ⟨6, .data⟩ (by simp at hos; subst hos; simp) rfl 32 rfl
      simp only [aheadR] at h6
      simp at hos
      subst hos
      refine ⟨.bool okb, .inl ⟨rfl, fun w => ?_⟩, rfl⟩
      simp [execOp, go_sem, h6]
     ·intro f9 W5 hG hR
      have e8 := hR 8 40 (by decide) rfl
      have e7 := hR 7 39 (by decide) rfl
      obtain ⟨yb, e9, k9, k10⟩ := hR 9 9 (by decide) rfl
      simp only [concDsts, List.take_succ_cons, List.take_zero, List.drop_succ_cons, List.drop_zero, List.filterMap_cons, List.filterMap_nil, List.foldl_cons, List.foldl_nil, List.setIfInBounds_toArray, List.set_cons_zero, List.set_cons_succ]
      simp only [aheadR] at e7 e8
      rw [e7, e8, e9]
      clear e7 e8 e9 hR
      generalize f9 33 = v33
      generalize f9 34 = v34
      generalize f9 35 = v35
      generalize f9 36 = v36
      generalize f9 37 = v37
      generalize f9 38 = v38
      generalize f9 32 = v32
      clear f9
      have hbz : Below wt.heap.size W5 ((((((W5.setCell ⟨yb, 0, none⟩ (.int .i64 yk)).setCell ⟨yb, 1, none⟩ (.int .u64 y0)).setCell ⟨yb, 2, none⟩ (.int .u64 y1)).setCell ⟨yb, 3, none⟩ (.int .u64 y2)).setCell ⟨yb, 4, none⟩ (.int .u64 y3)).setCell ⟨yb, 5, none⟩ (.int .i64 ys)) := ((((((Below.refl _ _).setCell k10 _).setCell k10 _).setCell k10 _).setCell k10 _).setCell k10 _).setCell k10 _
      have hYz : Blk ((((((W5.setCell ⟨yb, 0, none⟩ (.int .i64 yk)).setCell ⟨yb, 1, none⟩ (.int .u64 y0)).setCell ⟨yb, 2, none⟩ (.int .u64 y1)).setCell ⟨yb, 3, none⟩ (.int .u64 y2)).setCell ⟨yb, 4, none⟩ (.int .u64 y3)).setCell ⟨yb, 5, none⟩ (.int .i64 ys)) yb 28 #[.int .i64 yk, .int .u64 y0, .int .u64 y1, .int .u64 y2, .int .u64 y3, .int .i64 ys] := by
       have h := ((((((k9).set_ 0 (.int .i64 yk)).set_ 1 (.int .u64 y0)).set_ 2 (.int .u64 y1)).set_ 3 (.int .u64 y2)).set_ 4 (.int .u64 y3)).set_ 5 (.int .i64 ys)
       simpa using h
      have z0 := k9.cell 0
      have z1 := k9.cell 1
      have z2 := k9.cell 2
      have z3 := k9.cell 3
      have z4 := k9.cell 4
      have z5 := k9.cell 5
      have zz := k9.frozen
      simp at z0 z1 z2 z3 z4 z5
      have HGz := Hd (An (show Below wt.heap.size wt W5 from (show Below wt.heap.size wt wt.drew from (Below.refl _ _).drew).trans hG) (An hbz (An hYz k10)))
      clear hbz hYz hG
      go_upto_region 10 with fail
      have hbz := HGz.out.1.trans HGz.out.2.1
      have hYz := HGz.out.2.2.1
      have hyb := HGz.out.2.2.2
      generalize ((((((W5.setCell ⟨yb, 0, none⟩ (.int .i64 yk)).setCell ⟨yb, 1, none⟩ (.int .u64 y0)).setCell ⟨yb, 2, none⟩ (.int .u64 y1)).setCell ⟨yb, 3, none⟩ (.int .u64 y2)).setCell ⟨yb, 4, none⟩ (.int .u64 y3)).setCell ⟨yb, 5, none⟩ (.int .i64 ys)) = wz at hbz hYz ⊢
      clear z0 z1 z2 z3 z4 z5 zz k9 k10 HGz
      have X := Hd hbz
      have q0 : wz.cell? ⟨yb, 0, none⟩ = some (.int .i64 yk) := hYz.cell 0
      have q5 : wz.cell? ⟨yb, 5, none⟩ = some (.int .i64 ys) := hYz.cell 5
      clear hbz hYz hyb hca HA
      cases mt with
      | true =>
       have HSU := Hd (show metN g l (n : Int) (i + 1) = true from by rw [R.out.2.2]; rfl)
       clear q0 q5
       go_wp2_with fail
       go_roundg (LL - (i + 1))
       case measure => have h1 := R.out.1; omega
       case rel => exact ⟨i + 1, by omega, rfl, rfl, by rw [HSU.out], R.out.2.1.trans (X.out.mono R.out.2.1.size)⟩
      | false =>
       cases okb with
       | false =>
        have HSU := Hd (show metN g l (n : Int) (i + 1) = false from by rw [R.out.2.2]; rfl)
        clear q0 q5
        go_wp2_with fail
        go_roundg (LL - (i + 1))
        case measure => have h1 := R.out.1; omega
        case rel => exact ⟨i + 1, by omega, rfl, rfl, by rw [HSU.out], R.out.2.1.trans (X.out.mono R.out.2.1.size)⟩
       | true =>
        by_cases hk : yk = 1
        ·by_cases hs : ys = (n : Int)
         ·have HSU := Hd (show metN g l (n : Int) (i + 1) = true from by rw [R.out.2.2, hk, hs]; simp)
          rw [hk] at q0
          rw [hs] at q5
          clear hk hs
          go_wp2_with fail
          go_roundg (LL - (i + 1))
          case measure => have h1 := R.out.1; omega
          case rel => exact ⟨i + 1, by omega, rfl, rfl, by rw [HSU.out], R.out.2.1.trans (X.out.mono R.out.2.1.size)⟩
         ·have HSU := Hd (show metN g l (n : Int) (i + 1) = false from by rw [R.out.2.2, hk]; simp [hs])
          have hs2 : (ys == (n : Int)) = false := by simpa using hs
          rw [hk] at q0
          clear hk hs
          go_wp2_with fail
          go_roundg (LL - (i + 1))
          case measure => have h1 := R.out.1; omega
          case rel => exact ⟨i + 1, by omega, rfl, rfl, by rw [HSU.out], R.out.2.1.trans (X.out.mono R.out.2.1.size)⟩
        ·have HSU := Hd (show metN g l (n : Int) (i + 1) = false from by rw [R.out.2.2]; simp [hk])
         have hk2 : (yk == 1) = false := by simpa using hk
         clear hk q5
         go_wp2_with fail
         go_roundg (LL - (i + 1))
         case measure => have h1 := R.out.1; omega
         case rel => exact ⟨i + 1, by omega, rfl, rfl, by rw [HSU.out], R.out.2.1.trans (X.out.mono R.out.2.1.size)⟩
    ·obtain rfl : i = LL := by omega
     have hE : metN g l (n : Int) i = l.any (sortHit g (n : Int)) := by rw [<- HLL.out.1]; exact metN_all _ _ _
     obtain ⟨mt, hmt⟩ : ∃ mt, l.any (sortHit g (n : Int)) = mt := ⟨_, rfl⟩
     rw [hE, hmt]
     have T := Hd (An (row_below Q.out.2.1 hby) hbv)
     have hsz := T.out.2.size
     have HMT := Hd hmt
     clear hE hmt hby hbv hm
     cases mt with
     | true =>
      have HSU := Hd (show sortsN g l (n + 1) = sortsN g l n ++ [⟨1, 0, (n : Int)⟩] from by rw [Q.out.2.2.2.1, HMT.out]; rfl)
      obtain ⟨i0, hi9, hz0, hz1, hz2⟩ := info_parts infoSym2
      go_wp2_with (at_builtin; go_loud (refine wpList_append_ownF _ rfl _ _ 31 rfl W1.heap.size 28 i0 (.agg #[.int .i64 0, .int .u64 0, .int .u64 0, .int .u64 0, .int .u64 0, .int .i64 0]) 6 48 Tryz.underlying31 hi9 hz0 hz1 hz2 rfl (by decide) _ ML _ rfl (T.out.1.alloc _) ⟨wr.heap.size, 0, none⟩ 1 1 [.int .i64 1, .int .u64 0, .int .u64 0, .int .u64 0, .int .u64 0, .int .i64 (n : Int)] rfl rfl ?c1 ?c2 ?c3 ?c4 ?c5 ?_))
      case c1 => exact cells_new2 wr _ _
      case c2 => intro u hu; simp at hu; rcases hu with rfl | rfl | rfl <;> rfl
      case c3 => unfold maxLen; omega
      case c4 => omega
      case c5 => first | (simp; omega) | omega
      intro v' w8 hown8 hg8 hfr8
      have hb8 := (T.out.2.alloc hsz (.cells #[.int .i64 1, .int .u64 0, .int .u64 0, .int .u64 0, .int .u64 0, .int .i64 (n : Int)] 28)).grown hg8 (by simp; omega) (fun b hb => (T.out.1.lt b hb).1)
      have ez : flatK encSy (sortsN g l n) ++ [.int .i64 1, .int .u64 0, .int .u64 0, .int .u64 0, .int .u64 0, .int .i64 (n : Int)] = flatK encSy (sortsN g l n ++ [⟨1, 0, (n : Int)⟩]) := by rw [<- flatK_snoc]; simp [encSy, wd]
      rw [ez] at hown8
      have S8 := Hd (An hown8 hb8)
      clear hown8 hg8 hfr8 hb8 hi9 hz0 hz1 hz2 ez
      go_wp2_with fail
      go_roundg (NS - (n + 1))
      case measure => have h1 := Q.out.1; omega
      case rel =>
       refine ⟨n + 1, by omega, rfl, rfl, ?_, S8.out.2⟩
       rw [HSU.out, List.length_append, Q.out.2.2.2.2]
       exact S8.out.1
     | false =>
      have HSU := Hd (show sortsN g l (n + 1) = sortsN g l n from by rw [Q.out.2.2.2.1, HMT.out]; rfl)
      go_wp2_with fail
      go_roundg (NS - (n + 1))
      case measure => have h1 := Q.out.1; omega
      case rel => exact ⟨n + 1, by omega, rfl, rfl, by rw [HSU.out, Q.out.2.2.2.2]; exact T.out.1, T.out.2⟩
  ·obtain rfl : n = NS := by omega
   have hsl := sortsN_len g l n
   obtain ⟨ML, hML⟩ : ∃ ML, (sortsN g l n).length = ML := ⟨_, rfl⟩
   rw [hML] at hown hsl ⊢
   have Q := Hd (An hown (An hbx hML))
   clear hown hbx hm hML hgB
   obtain ⟨wq, rfl⟩ : ∃ wq : World, wq = wr := ⟨_, rfl⟩
   go_wp2_with fail
   go_loopg [11, 12] LL (fun m v11 v12 wx => ∃ i : Nat, i <= LL /\ m = LL - i /\ v12 = .int .i64 (i : Int) /\ wx.ownsRow wq.heap.size 26 4 v11 (setsN g l i).length (flatK encSet (setsN g l i)) /\ Below wq.heap.size wq wx)
   case atStart => exact ⟨0, by omega, rfl, rfl, World.ownsRow_nil _ _ _ _, Below.refl _ _⟩
   case round =>
    obtain ⟨i, hi, hm, rfl, hown, hby⟩ := hrel
    obtain ⟨va, vc, rfl⟩ := own_shape hown
    have hbv : Below W1.heap.size W1 wr := Q.out.2.1.trans (hby.mono Q.out.2.1.size)
    by_cases hil : i < LL
    ·obtain ⟨⟨pn, d⟩, hx⟩ : ∃ x, l[i]? = some x := ⟨_, List.getElem?_eq_getElem (by have := HLL.out.1; omega)⟩
     have hxo : itemOk g (pn, d) = true := HK.out.2.2.1 _ (List.mem_of_getElem? hx)
     obtain ⟨kg, ko, rfl, _, hkw⟩ := HLL.out.2 (by rintro h; rw [h] at hx; simp at hx)
     have hbw : Below w.heap.size w wr := H1.out.2.1.trans (hbv.mono H1.out.2.1.size)
     have hkr := hkw.same (hbw.block kg hkw.lt)
     have hgB := H1.out.1.below hbv H1.out.1.lt
     have hms := setsN_succ g l i hx
     have hml := setsN_len g l i
     obtain ⟨SL, hSL⟩ : ∃ SL, (setsN g l i).length = SL := ⟨_, rfl⟩
     rw [hSL] at hown hml ⊢
     have hi0 : (0 : Int) <= (i : Int) := by omega
     have hi1 : (i : Int) < (LL : Int) := by omega
     obtain ⟨okb, hokb⟩ : ∃ b, (aheadF g (pn, d)).isSome = b := ⟨_, rfl⟩
     obtain ⟨⟨yk, yS, ys⟩, hy⟩ : ∃ y, (aheadF g (pn, d)).getD noSy = y := ⟨_, rfl⟩
     have hhit : (match aheadF g (pn, d) with | some s => if s.kind = 0 then [s.set] else [] | none => []) = if okb = true /\ yk = 0 then [yS] else [] := by
      rw [<- hokb]
      cases ha : aheadF g (pn, d) with
      | none => simp
      | some s => rw [ha] at hy; simp only [Option.getD_some] at hy; subst hy; simp
     rw [hhit] at hms
     obtain ⟨y0, hy0⟩ : ∃ z, wd yS 0 = z := ⟨_, rfl⟩
     obtain ⟨y1, hy1⟩ : ∃ z, wd yS 1 = z := ⟨_, rfl⟩
     obtain ⟨y2, hy2⟩ : ∃ z, wd yS 2 = z := ⟨_, rfl⟩
     obtain ⟨y3, hy3⟩ : ∃ z, wd yS 3 = z := ⟨_, rfl⟩
     have hca : ∀ W, Below wr.heap.size wr.drew W -> Calls Tryz.prog 78 #[.agg #[sv, .slice pa g.prods.length pc, .int .i64 g.start, fv, lv], .agg #[.int .i64 (pn : Int), .int .i64 (d : Int)]] W fun e W' => e = .returned (.tuple #[.agg #[.int .i64 yk, .int .u64 y0, .int .u64 y1, .int .u64 y2, .int .u64 y3, .int .i64 ys], .bool okb]) /\ Below W.heap.size W W' := fun W h => by
      have hbW : Below wr.heap.size wr W := (show Below wr.heap.size wr wr.drew from (Below.refl _ _).drew).trans h
      have h2 := hbw.trans (hbW.mono hbw.size)
      have := r9ahead_any D g (by omega) (pn, d) hxo W sv (.slice pa g.prods.length pc) fv lv (HK.out.1.keep fun q hq hl => ⟨hq, h2.block q hl⟩)
      rw [hy, hokb] at this
      unfold symV at this
      simp only at this
      rw [hy0, hy1, hy2, hy3] at this
      exact this
     have HY := Hd (show encSet yS = [.int .u64 y0, .int .u64 y1, .int .u64 y2, .int .u64 y3] from by unfold encSet; rw [hy0, hy1, hy2, hy3])
     have HA := Hd (show ∀ W, Below wr.heap.size wr.drew W -> W.cell? ⟨w.heap.size, 0, none⟩ = some sv /\ W.cell? ⟨w.heap.size, 1, none⟩ = some (.slice pa g.prods.length pc) /\ W.cell? ⟨w.heap.size, 2, none⟩ = some (.int .i64 g.start) /\ W.cell? ⟨w.heap.size, 3, none⟩ = some fv /\ W.cell? ⟨w.heap.size, 4, none⟩ = some lv /\ W.cell? ⟨kg, ko + i * 2, none⟩ = some (.int .i64 (pn : Int)) /\ W.cell? ⟨kg, ko + i * 2 + 1, none⟩ = some (.int .i64 (d : Int)) from fun W h => by
      have hbW : Below wr.heap.size wr W := (show Below wr.heap.size wr wr.drew from (Below.refl _ _).drew).trans h
      have g0 := hgB.below hbW hgB.lt
      have k0 := hkr.cells i _ hx 0 _ rfl
      simp only [Nat.add_zero] at k0
      exact ⟨g0.cell 0, g0.cell 1, g0.cell 2, g0.cell 3, g0.cell 4, (World.cell?_of_block (hbW.block kg hkr.lt)).trans k0, (World.cell?_of_block (hbW.block kg hkr.lt)).trans (hkr.cells i _ hx 1 _ rfl)⟩)
     have R := Hd (An hm (An hown (An hby (An hms hSL))))
     clear hm hown hby hbv hbw hgB hkr hkw hx hms hSL hxo hy hokb hhit hy0 hy1 hy2 hy3 hil
     obtain ⟨wt, rfl⟩ : ∃ wt : World, wt = wr := ⟨_, rfl⟩
     go_upto_region 17 with fail
     refine wp_region_concF 10 8 (aheadR sv (.slice pa g.prods.length pc) (.int .i64 g.start) fv lv kg ko LL lc i pn d yk (y0, y1, y2, y3) ys okb wt.heap.size) (fun A W => Below A.heap.size A W) (by kernel_rfl) (by kernel_rfl) (by kernel_rfl) (by kernel_rfl) (Below.refl _ _) (fun h k => h.trans (k.mono h.size)) ?_ (by intro c a v w h; exact h) ?_ ?_
     ·simp only [List.take_succ_cons, List.take_zero]
      refine ⟨?_, ?_, ?_, ?_, ?_, ?_, ?_, ?_, ?_, ?_, trivial⟩
      ·intro L T W hG hJ hLs hLi dq fq vq K hK
       have h1 := fq 2 (by decide)
       simp at h1
       obtain ⟨f0, f1, f2, f3, f4, k0, k1⟩ := HA.out W hG
       go_simp
       exact hK _ _ (Below.refl _ W) (fun j u _ _ _ h => h) trivial rfl
      ·intro L T W hG hJ hLs hLi dq fq vq K hK
       have h1 := fq 1 (by decide)
       simp at h1
       go_simp
       exact hK _ _ (Below.refl _ W) (fun j u _ _ _ h => h) trivial rfl
      ·intro L T W hG hJ hLs hLi dq fq vq K hK
       have h1 := fq 12 (by decide)
       simp at h1
       go_simp
       exact hK _ _ (Below.refl _ W) (fun j u _ _ _ h => h) trivial rfl
      ·intro L T W hG hJ hLs hLi dq fq vq K hK
       have h1 := vq ⟨1, .data⟩ (by simp) rfl 70 rfl
       have h2 := vq ⟨2, .data⟩ (by simp) rfl 71 rfl
       simp only [aheadR] at h1 h2
       simp at h1 h2
       go_simp
       exact hK _ _ (Below.refl _ W) (fun j u _ _ _ h => h) trivial rfl
      ·intro L T W hG hJ hLs hLi dq fq vq K hK
       have h1 := vq ⟨3, .data⟩ (by simp) rfl 72 rfl
       simp only [aheadR] at h1
       simp at h1
       obtain ⟨f0, f1, f2, f3, f4, k0, k1⟩ := HA.out W hG
       go_simp
       exact hK _ _ (Below.refl _ W) (fun j u _ _ _ h => h) trivial rfl
      ·intro L T W hG hJ hLs hLi dq fq vq K hK
       have h1 := vq ⟨0, .data⟩ (by simp) rfl 69 rfl
       have h2 := vq ⟨4, .data⟩ (by simp) rfl 73 rfl
       simp only [aheadR] at h1 h2
       simp at h1 h2
       go_simp
       refine (hca W hG).mono ?_
       rintro e W2 ⟨rfl, hb2⟩
       exact hK _ _ hb2 (fun j u _ _ _ h => aheadR_stab j u h hb2) trivial rfl
      ·intro L T W hG hJ hLs hLi dq fq vq K hK
       have h1 := vq ⟨5, .data⟩ (by simp) rfl 74 rfl
       simp only [aheadR] at h1
       simp at h1
       go_simp
       exact hK _ _ (Below.refl _ W) (fun j u _ _ _ h => h) trivial rfl
      ·intro L T W hG hJ hLs hLi dq fq vq K hK
       have h1 := vq ⟨6, .data⟩ (by simp) rfl 68 rfl
       simp only [aheadR] at h1
       simp at h1
       go_simp
       exact hK _ _ (Below.refl _ W) (fun j u _ _ _ h => h) trivial rfl
      ·intro L T W hG hJ hLs hLi dq fq vq K hK
       have h1 := vq ⟨6, .data⟩ (by simp) rfl 68 rfl
       simp only [aheadR] at h1
       simp at h1
       go_simp
       exact hK _ _ (Below.refl _ W) (fun j u _ _ _ h => h) trivial rfl
      ·intro L T W hG hJ hLs hLi dq fq vq K hK
       go_simp
       have hbn := (Below.refl W.heap.size W).alloc (Nat.le_refl _) (.cells #[.int .i64 0, .int .u64 0, .int .u64 0, .int .u64 0, .int .u64 0, .int .i64 0] 28)
       exact hK _ _ hbn (fun j u _ _ _ h => aheadR_stab j u h hbn) trivial ⟨_, rfl, Blk.new W _ _, hG.size⟩
     ·intro os T W hos hv
      have h6 := hv ⟨6, .data⟩ (by simp at hos; subst hos; simp) rfl 68 rfl
      simp only [aheadR] at h6
      simp at hos
      subst hos
      refine ⟨.bool okb, .inl ⟨rfl, fun w => ?_⟩, rfl⟩
      simp [execOp, go_sem, h6]
     ·intro f9 W5 hG hR
      have e8 := hR 8 76 (by decide) rfl
      have e7 := hR 7 75 (by decide) rfl
      obtain ⟨yb, e9, k9, k10⟩ := hR 9 13 (by decide) rfl
      simp only [concDsts, List.take_succ_cons, List.take_zero, List.drop_succ_cons, List.drop_zero, List.filterMap_cons, List.filterMap_nil, List.foldl_cons, List.foldl_nil, List.setIfInBounds_toArray, List.set_cons_zero, List.set_cons_succ]
      simp only [aheadR] at e7 e8
      rw [e7, e8, e9]
      clear e7 e8 e9 hR
      generalize f9 69 = v69
      generalize f9 70 = v70
      generalize f9 71 = v71
      generalize f9 72 = v72
      generalize f9 73 = v73
      generalize f9 74 = v74
      generalize f9 68 = v68
      clear f9
      have hbz : Below wt.heap.size W5 ((((((W5.setCell ⟨yb, 0, none⟩ (.int .i64 yk)).setCell ⟨yb, 1, none⟩ (.int .u64 y0)).setCell ⟨yb, 2, none⟩ (.int .u64 y1)).setCell ⟨yb, 3, none⟩ (.int .u64 y2)).setCell ⟨yb, 4, none⟩ (.int .u64 y3)).setCell ⟨yb, 5, none⟩ (.int .i64 ys)) := ((((((Below.refl _ _).setCell k10 _).setCell k10 _).setCell k10 _).setCell k10 _).setCell k10 _).setCell k10 _
      have hYz : Blk ((((((W5.setCell ⟨yb, 0, none⟩ (.int .i64 yk)).setCell ⟨yb, 1, none⟩ (.int .u64 y0)).setCell ⟨yb, 2, none⟩ (.int .u64 y1)).setCell ⟨yb, 3, none⟩ (.int .u64 y2)).setCell ⟨yb, 4, none⟩ (.int .u64 y3)).setCell ⟨yb, 5, none⟩ (.int .i64 ys)) yb 28 #[.int .i64 yk, .int .u64 y0, .int .u64 y1, .int .u64 y2, .int .u64 y3, .int .i64 ys] := by
       have h := ((((((k9).set_ 0 (.int .i64 yk)).set_ 1 (.int .u64 y0)).set_ 2 (.int .u64 y1)).set_ 3 (.int .u64 y2)).set_ 4 (.int .u64 y3)).set_ 5 (.int .i64 ys)
       simpa using h
      have z0 := k9.cell 0
      have z1 := k9.cell 1
      have z2 := k9.cell 2
      have z3 := k9.cell 3
      have z4 := k9.cell 4
      have z5 := k9.cell 5
      have zz := k9.frozen
      simp at z0 z1 z2 z3 z4 z5
      have HGz := Hd (An (show Below wt.heap.size wt W5 from (show Below wt.heap.size wt wt.drew from (Below.refl _ _).drew).trans hG) (An hbz (An hYz k10)))
      clear hbz hYz hG
      go_upto_region 18 with fail
      have hbz := HGz.out.1.trans HGz.out.2.1
      have hYz := HGz.out.2.2.1
      have hyb := HGz.out.2.2.2
      generalize ((((((W5.setCell ⟨yb, 0, none⟩ (.int .i64 yk)).setCell ⟨yb, 1, none⟩ (.int .u64 y0)).setCell ⟨yb, 2, none⟩ (.int .u64 y1)).setCell ⟨yb, 3, none⟩ (.int .u64 y2)).setCell ⟨yb, 4, none⟩ (.int .u64 y3)).setCell ⟨yb, 5, none⟩ (.int .i64 ys)) = wz at hbz hYz ⊢
      clear z0 z1 z2 z3 z4 z5 zz k9 k10 HGz
      have X := Hd hbz
      obtain ⟨q0, q1, q2, q3, q4⟩ : wz.cell? ⟨yb, 0, none⟩ = some (.int .i64 yk) /\ wz.cell? ⟨yb, 1, none⟩ = some (.int .u64 y0) /\ wz.cell? ⟨yb, 2, none⟩ = some (.int .u64 y1) /\ wz.cell? ⟨yb, 3, none⟩ = some (.int .u64 y2) /\ wz.cell? ⟨yb, 4, none⟩ = some (.int .u64 y3) := ⟨hYz.cell 0, hYz.cell 1, hYz.cell 2, hYz.cell 3, hYz.cell 4⟩
      clear hbz hYz hyb hca HA
      cases okb with
      | false =>
       have HSU := Hd (show setsN g l (i + 1) = setsN g l i from by rw [R.out.2.2.2.1]; simp)
       clear q0 q1 q2 q3 q4
       go_wp2_with fail
       go_roundg (LL - (i + 1))
       case measure => have h1 := R.out.1; omega
       case rel => exact ⟨i + 1, by omega, rfl, rfl, by rw [HSU.out, R.out.2.2.2.2]; exact row_below R.out.2.1 X.out, R.out.2.2.1.trans (X.out.mono R.out.2.2.1.size)⟩
      | true =>
       by_cases hk : yk = 0
       ·have HSU := Hd (show setsN g l (i + 1) = setsN g l i ++ [yS] from by rw [R.out.2.2.2.1, hk]; simp)
        rw [hk] at q0
        clear hk
        have T := Hd (An (row_below R.out.2.1 X.out) (R.out.2.2.1.trans (X.out.mono R.out.2.2.1.size)))
        have hsz := T.out.2.size
        obtain ⟨i0, hi9, hz0, hz1, hz2⟩ := info_parts infoSet
        go_wp2_with (at_builtin; go_loud (refine wpList_append_ownF _ rfl _ _ 137 rfl wq.heap.size 26 i0 (.agg #[.int .u64 0, .int .u64 0, .int .u64 0, .int .u64 0]) 4 32 Tryz.underlying137 hi9 hz0 hz1 hz2 rfl (by decide) _ SL _ rfl (T.out.1.alloc _) ⟨wz.heap.size, 0, none⟩ 1 1 [.int .u64 y0, .int .u64 y1, .int .u64 y2, .int .u64 y3] rfl rfl ?c1 ?c2 ?c3 ?c4 ?c5 ?_))
        try (case c1 => exact cells_new2 wz _ _)
        case c2 => first | (intro u hu; simp at hu; rcases hu with rfl | rfl | rfl | rfl <;> rfl) | exact ⟨rfl, rfl, rfl, rfl⟩
        case c3 => unfold maxLen; omega
        case c4 => omega
        case c5 => first | (simp; omega) | omega
        intro v' w8 hown8 hg8 hfr8
        have hb8 := (T.out.2.alloc hsz (.cells #[.int .u64 y0, .int .u64 y1, .int .u64 y2, .int .u64 y3] 26)).grown hg8 (by simp; omega) (fun b hb => (T.out.1.lt b hb).1)
        have ez : flatK encSet (setsN g l i) ++ [.int .u64 y0, .int .u64 y1, .int .u64 y2, .int .u64 y3] = flatK encSet (setsN g l i ++ [yS]) := by rw [<- flatK_snoc, HY.out]
        rw [ez] at hown8
        have S8 := Hd (An hown8 hb8)
        clear hown8 hg8 hfr8 hb8 hi9 hz0 hz1 hz2 ez
        go_wp2_with fail
        go_roundg (LL - (i + 1))
        case measure => have h1 := R.out.1; omega
        case rel =>
         refine ⟨i + 1, by omega, rfl, rfl, ?_, S8.out.2⟩
         rw [HSU.out, List.length_append, R.out.2.2.2.2]
         exact S8.out.1
       ·have HSU := Hd (show setsN g l (i + 1) = setsN g l i from by rw [R.out.2.2.2.1]; simp [hk])
        have hk2 : (yk == 0) = false := by simpa using hk
        clear hk q1 q2 q3 q4
        go_wp2_with fail
        go_roundg (LL - (i + 1))
        case measure => have h1 := R.out.1; omega
        case rel => exact ⟨i + 1, by omega, rfl, rfl, by rw [HSU.out, R.out.2.2.2.2]; exact row_below R.out.2.1 X.out, R.out.2.2.1.trans (X.out.mono R.out.2.2.1.size)⟩
    ·obtain rfl : i = LL := by omega
     have hE : setsN g l i = setsOf g l := by rw [<- HLL.out.1]; exact setsN_all _ _
     rw [hE] at hown ⊢
     have hLs : (setsOf g l).length <= 1000000 := by rw [<- hE]; exact Nat.le_trans (setsN_len _ _ _) hl0
     obtain ⟨S, hS2⟩ : ∃ S, setsOf g l = S := ⟨_, rfl⟩
     rw [hS2] at hown hLs ⊢
     have HS2 := Hd hS2
     have hsp := rsplit_any (fun _ => True) S (by omega) _ wr ((own_sliceK encSet_len hown).imp (D' := fun _ => True) fun _ _ _ => trivial)
     obtain ⟨SL, hSL⟩ : ∃ SL, S.length = SL := ⟨_, rfl⟩
     rw [hSL] at hown hsp hLs ⊢
     have R := Hd (An hown (An hbv (An (row_below Q.out.1 hby) hSL)))
     have hPl := refSplit_len S
     clear hown hby hbv hm hE hS2 hSL
     obtain ⟨wl, rfl⟩ : ∃ wl : World, wl = wr := ⟨_, rfl⟩
     go_wp2_with fail
     refine hsp.mono ?_
     rintro e w5 ⟨v', rfl, h1, h2⟩
     obtain ⟨ra, rc, rfl⟩ := own_shape h1
     obtain ⟨PL, hPL⟩ : ∃ PL, (refSplit S).length = PL := ⟨_, rfl⟩
     have HPL := Hd hPL
     rw [hPL] at h1 hPl ⊢
     have X := Hd (An (row_below R.out.1 h2) (An h1 (An (row_below R.out.2.2.1 h2) (An (R.out.2.1.trans (h2.mono R.out.2.1.size)) hPL))))
     clear h1 h2 hsp hPL
     go_wp2_with fail
     go_loopg [5, 16] PL (fun m v5 v16 wx => ∃ c : Nat, c <= PL /\ m = PL - c /\ v16 = .int .i64 (c : Int) /\ wx.ownsRow W1.heap.size 28 6 v5 (sortsN g l n ++ partsN S c).length (flatK encSy (sortsN g l n ++ partsN S c)) /\ wx.ownsRow wq.heap.size 26 4 (.slice va SL vc) SL (flatK encSet S) /\ wx.ownsRow wl.heap.size 26 4 (.slice ra PL rc) PL (flatK encSet (refSplit S)) /\ Below W1.heap.size W1 wx)
     case atStart => exact ⟨0, by omega, rfl, rfl, (by have e0 : partsN S 0 = [] := (by simp [partsN]); rw [e0, List.append_nil, Q.out.2.2]; exact X.out.2.2.1), X.out.1, X.out.2.1, X.out.2.2.2.1⟩
     case round =>
      obtain ⟨c, hc, hm, rfl, hown, hal, hpa, hby⟩ := hrel
      obtain ⟨oa, oc, rfl⟩ := own_shape hown
      by_cases hcl : c < PL
      ·obtain ⟨p, hp⟩ : ∃ p, (refSplit S)[c]? = some p := ⟨_, List.getElem?_eq_getElem (by have := HPL.out; omega)⟩
       have hp256 := refSplit_lt (List.mem_of_getElem? hp)
       have hss := partsN_succ S c hp
       have hpl := partsN_len S c
       obtain ⟨ML2, hML2⟩ : ∃ ML2, (sortsN g l n ++ partsN S c).length = ML2 := ⟨_, rfl⟩
       have hM2 : ML2 <= 1300 := by rw [<- hML2, List.length_append, Q.out.2.2]; have := X.out.2.2.2.2; omega
       rw [hML2] at hown ⊢
       have hpaK := own_sliceK encSet_len (by rw [HPL.out]; exact hpa : wr.ownsRow wl.heap.size 26 4 (.slice ra PL rc) (refSplit S).length (flatK encSet (refSplit S)))
       have halK := own_sliceK encSet_len (by rw [R.out.2.2.2]; exact hal : wr.ownsRow wq.heap.size 26 4 (.slice va SL vc) S.length (flatK encSet S))
       obtain ⟨ra2, rc2, er, _, _, hrk⟩ := hpaK
       obtain ⟨va2, vc2, ev, _, _, hvk⟩ := halK
       injection er with er1 er2 er3
       injection ev with ev1 ev2 ev3
       subst er1
       subst ev1
       obtain ⟨pg, po, rfl, _, hpr⟩ := hrk (by rintro h; rw [h] at hp; simp at hp)
       have hc0 : (0 : Int) <= (c : Int) := by omega
       have hc1 : (c : Int) < (PL : Int) := by omega
       have N := Hd (An hm (An hown (An hal (An hpa (An hby (An hss (An hML2 (An hp (An hp256 (An hvk hpr))))))))))
       clear hm hown hal hpa hby hss hML2 hp hp256 hvk hpr hrk er2 er3 ev2 ev3
       obtain ⟨wk, rfl⟩ : ∃ wk : World, wk = wr := ⟨_, rfl⟩
       go_wp2_with fail
       go_loopg [17, 18] SL (fun m v17 v18 wx => ∃ k : Nat, k <= SL /\ m = SL - k /\ v18 = .int .i64 (k : Int) /\ v17 = .bool (wiN S p k) /\ Below wk.heap.size wk wx)
       case atStart => exact ⟨0, by omega, rfl, rfl, rfl, Below.refl _ _⟩
       case round =>
        obtain ⟨k, hk, hmk, rfl, rfl, hbk⟩ := hrel
        by_cases hkl : k < SL
        ·obtain ⟨s, hs⟩ : ∃ s, S[k]? = some s := ⟨_, List.getElem?_eq_getElem (by have := R.out.2.2.2; omega)⟩
         obtain ⟨ag, ao, rfl, _, har⟩ := N.out.2.2.2.2.2.2.2.2.2.1 (by rintro h; rw [h] at hs; simp at hs)
         have hsu := wiN_succ S p k hs
         obtain ⟨wi, hwi⟩ : ∃ wi, wiN S p k = wi := ⟨_, rfl⟩
         rw [hwi] at hsu ⊢
         have hpw := N.out.2.2.2.2.2.2.2.2.2.2.same (hbk.block pg N.out.2.2.2.2.2.2.2.2.2.2.lt)
         have haw := har.same (hbk.block ag har.lt)
         obtain ⟨BB, hBB⟩ : ∃ BB, orTo (bothP 2 p s) 256 = BB := ⟨_, rfl⟩
         have hB256 : BB < 2 ^ 256 := hBB ▸ orTo_lt _ 256 (Nat.le_refl _)
         have hBz : BB = 0 ↔ withinF p s = true := hBB ▸ bothP_zero (b := s) N.out.2.2.2.2.2.2.2.2.1
         have hcb : ∀ W, Below wr.drew.heap.size wr.drew W -> Calls Tryz.prog 51 #[setV p, setV s, .int .i64 (2 : Nat)] W fun e w' => e = .returned (setV BB) /\ Below W.heap.size W w' := fun W _ => by have h1 := both_any p s 2 (.inr rfl) W; rw [hBB] at h1; exact h1
         unfold setV at hcb
         have hk0 : (0 : Int) <= (k : Int) := by omega
         have hk1 : (k : Int) < (SL : Int) := by omega
         have HZ := Hd (An hB256 (An hBz (An hsu (An hmk hbk))))
         have f0 : wr.cell? ⟨pg, po + c * 4, none⟩ = some (.int .u64 (wd p 0)) := hpw.cells c p N.out.2.2.2.2.2.2.2.1 0 _ rfl
         have f1 : wr.cell? ⟨pg, po + c * 4 + 1, none⟩ = some (.int .u64 (wd p 1)) := hpw.cells c p N.out.2.2.2.2.2.2.2.1 1 _ rfl
         have f2 : wr.cell? ⟨pg, po + c * 4 + 2, none⟩ = some (.int .u64 (wd p 2)) := hpw.cells c p N.out.2.2.2.2.2.2.2.1 2 _ rfl
         have f3 : wr.cell? ⟨pg, po + c * 4 + 3, none⟩ = some (.int .u64 (wd p 3)) := hpw.cells c p N.out.2.2.2.2.2.2.2.1 3 _ rfl
         have g0 : wr.cell? ⟨ag, ao + k * 4, none⟩ = some (.int .u64 (wd s 0)) := haw.cells k s hs 0 _ rfl
         have g1 : wr.cell? ⟨ag, ao + k * 4 + 1, none⟩ = some (.int .u64 (wd s 1)) := haw.cells k s hs 1 _ rfl
         have g2 : wr.cell? ⟨ag, ao + k * 4 + 2, none⟩ = some (.int .u64 (wd s 2)) := haw.cells k s hs 2 _ rfl
         have g3 : wr.cell? ⟨ag, ao + k * 4 + 3, none⟩ = some (.int .u64 (wd s 3)) := haw.cells k s hs 3 _ rfl
         clear hB256 hBz hsu hmk hbk hs har hpw haw hwi hBB
         obtain ⟨wt, rfl⟩ : ∃ wt : World, wt = wr := ⟨_, rfl⟩
         cases wi with
         | true =>
          have HSU := Hd (show wiN S p (k + 1) = true from by rw [HZ.out.2.2.1]; rfl)
          clear hcb f0 f1 f2 f3 g0 g1 g2 g3
          go_wp2_with fail
          go_quiet (fail)
          go_wp2_with fail
          go_roundg (SL - (k + 1))
          case measure => have h1 := HZ.out.2.2.2.1; omega
          case rel => exact ⟨k + 1, by omega, rfl, rfl, by rw [HSU.out], below_drewN HZ.out.2.2.2.2 _⟩
         | false =>
          obtain ⟨y0, hy0⟩ : ∃ z, wd s 0 = z := ⟨_, rfl⟩
          obtain ⟨y1, hy1⟩ : ∃ z, wd s 1 = z := ⟨_, rfl⟩
          obtain ⟨y2, hy2⟩ : ∃ z, wd s 2 = z := ⟨_, rfl⟩
          obtain ⟨y3, hy3⟩ : ∃ z, wd s 3 = z := ⟨_, rfl⟩
          simp only [hy0, hy1, hy2, hy3] at hcb
          rw [hy0] at g0
          rw [hy1] at g1
          rw [hy2] at g2
          rw [hy3] at g3
          clear hy0 hy1 hy2 hy3
          obtain ⟨b0, hb0⟩ : ∃ z, wd BB 0 = z := ⟨_, rfl⟩
          obtain ⟨b1, hb1⟩ : ∃ z, wd BB 1 = z := ⟨_, rfl⟩
          obtain ⟨b2, hb2⟩ : ∃ z, wd BB 2 = z := ⟨_, rfl⟩
          obtain ⟨b3, hb3⟩ : ∃ z, wd BB 3 = z := ⟨_, rfl⟩
          obtain ⟨z, hzw⟩ : ∃ z, withinF p s = z := ⟨_, rfl⟩
          have hz : decide (b0 = 0 /\ b1 = 0 /\ b2 = 0 /\ b3 = 0) = z := by
           rw [<- hb0, <- hb1, <- hb2, <- hb3, <- hzw, Bool.eq_iff_iff, decide_eq_true_iff]
           exact (wd_zero_iff BB HZ.out.1).trans HZ.out.2.1
          have HSU := Hd (show wiN S p (k + 1) = z from by rw [HZ.out.2.2.1, hzw]; rfl)
          rw [hb0, hb1, hb2, hb3] at hcb
          have HCC := Hd (show ∀ W, Below wt.drew.heap.size wt.drew W -> W.cell? ⟨pg, po + c * 4, none⟩ = some (.int .u64 (wd p 0)) /\ W.cell? ⟨pg, po + c * 4 + 1, none⟩ = some (.int .u64 (wd p 1)) /\ W.cell? ⟨pg, po + c * 4 + 2, none⟩ = some (.int .u64 (wd p 2)) /\ W.cell? ⟨pg, po + c * 4 + 3, none⟩ = some (.int .u64 (wd p 3)) /\ W.cell? ⟨ag, ao + k * 4, none⟩ = some (.int .u64 y0) /\ W.cell? ⟨ag, ao + k * 4 + 1, none⟩ = some (.int .u64 y1) /\ W.cell? ⟨ag, ao + k * 4 + 2, none⟩ = some (.int .u64 y2) /\ W.cell? ⟨ag, ao + k * 4 + 3, none⟩ = some (.int .u64 y3) from fun W h => by
           have st : ∀ {b i : Nat} {u : Value}, wt.cell? ⟨b, i, none⟩ = some u -> W.cell? ⟨b, i, none⟩ = some u := fun {b i u} hc => (World.cell?_of_block (h.block b (World.block_lt_of_cell? wt _ hc))).trans hc
           exact ⟨st f0, st f1, st f2, st f3, st g0, st g1, st g2, st g3⟩)
          clear hb0 hb1 hb2 hb3 hzw f0 f1 f2 f3 g0 g1 g2 g3
          go_wp2_with fail
          refine wp_region_concG 14 (wiR pg po PL rc c ag ao SL vc k (wd p 0, wd p 1, wd p 2, wd p 3) (y0, y1, y2, y3) (b0, b1, b2, b3) z) (fun A W => Below A.heap.size A W) (fun _ _ => True) [1] (fun j => match j with | 1 => false | _ => true) (by kernel_rfl) (by kernel_rfl) (by kernel_rfl) (by kernel_rfl) (Below.refl _ _) trivial (fun h k => h.trans (k.mono h.size)) ⟨fun v w h => h, trivial⟩ ?_ ?_
          ·simp only [List.take_succ_cons, List.take_zero]
           refine ⟨?_, ?_, ?_, ?_, ?_, ?_, ?_, ?_, ?_, ?_, ?_, ?_, ?_, ?_, trivial⟩
           ·refine ⟨fun _ => ?_, fun h => absurd h (by decide)⟩
            intro L T W hG hJ hLs hLi dq fq vq K hK
            have h1 := fq 17 (by decide)
            simp at h1
            go_simp
            exact hK _ _ (Below.refl _ W) (fun j u _ _ _ h => h) trivial rfl
           ·refine ⟨fun _ => ?_, fun h => absurd h (by decide)⟩
            intro L T W hG hJ hLs hLi dq fq vq K hK
            have h1 := vq ⟨0, .data⟩ (by simp) rfl 102 rfl
            simp only [wiR] at h1
            simp at h1
            go_simp
            exact hK _ _ (Below.refl _ W) (fun j u _ _ _ h => h) trivial rfl
           ·refine ⟨fun _ => ?_, fun h => absurd h (by decide)⟩
            intro L T W hG hJ hLs hLi dq fq vq K hK
            have h1 := fq 15 (by decide)
            simp at h1
            go_simp
            exact hK _ _ (Below.refl _ W) (fun j u _ _ _ h => h) trivial rfl
           ·refine ⟨fun _ => ?_, fun h => absurd h (by decide)⟩
            intro L T W hG hJ hLs hLi dq fq vq K hK
            have h1 := fq 16 (by decide)
            simp at h1
            go_simp
            exact hK _ _ (Below.refl _ W) (fun j u _ _ _ h => h) trivial rfl
           ·refine ⟨fun _ => ?_, fun h => absurd h (by decide)⟩
            intro L T W hG hJ hLs hLi dq fq vq K hK
            have h1 := vq ⟨2, .data⟩ (by simp) rfl 104 rfl
            simp only [wiR] at h1
            have h2 := vq ⟨3, .data⟩ (by simp) rfl 105 rfl
            simp only [wiR] at h2
            simp at h1 h2
            go_simp
            exact hK _ _ (Below.refl _ W) (fun j u _ _ _ h => h) trivial rfl
           ·refine ⟨fun _ => ?_, fun h => absurd h (by decide)⟩
            intro L T W hG hJ hLs hLi dq fq vq K hK
            have h1 := vq ⟨4, .data⟩ (by simp) rfl 106 rfl
            simp only [wiR] at h1
            simp at h1
            obtain ⟨f0, f1, f2, f3, g0, g1, g2, g3⟩ := HCC.out W hG
            go_simp
            exact hK _ _ (Below.refl _ W) (fun j u _ _ _ h => h) trivial rfl
           ·refine ⟨fun _ => ?_, fun h => absurd h (by decide)⟩
            intro L T W hG hJ hLs hLi dq fq vq K hK
            have h1 := fq 11 (by decide)
            simp at h1
            go_simp
            exact hK _ _ (Below.refl _ W) (fun j u _ _ _ h => h) trivial rfl
           ·refine ⟨fun _ => ?_, fun h => absurd h (by decide)⟩
            intro L T W hG hJ hLs hLi dq fq vq K hK
            have h1 := fq 18 (by decide)
            simp at h1
            go_simp
            exact hK _ _ (Below.refl _ W) (fun j u _ _ _ h => h) trivial rfl
           ·refine ⟨fun _ => ?_, fun h => absurd h (by decide)⟩
            intro L T W hG hJ hLs hLi dq fq vq K hK
            have h1 := vq ⟨6, .data⟩ (by simp) rfl 108 rfl
            simp only [wiR] at h1
            have h2 := vq ⟨7, .data⟩ (by simp) rfl 109 rfl
            simp only [wiR] at h2
            simp at h1 h2
            go_simp
            exact hK _ _ (Below.refl _ W) (fun j u _ _ _ h => h) trivial rfl
           ·refine ⟨fun _ => ?_, fun h => absurd h (by decide)⟩
            intro L T W hG hJ hLs hLi dq fq vq K hK
            have h1 := vq ⟨8, .data⟩ (by simp) rfl 110 rfl
            simp only [wiR] at h1
            simp at h1
            obtain ⟨f0, f1, f2, f3, g0, g1, g2, g3⟩ := HCC.out W hG
            go_simp
            exact hK _ _ (Below.refl _ W) (fun j u _ _ _ h => h) trivial rfl
           ·refine ⟨fun _ => ?_, fun h => absurd h (by decide)⟩
            intro L T W hG hJ hLs hLi dq fq vq K hK
            have h1 := vq ⟨5, .data⟩ (by simp) rfl 107 rfl
            simp only [wiR] at h1
            have h2 := vq ⟨9, .data⟩ (by simp) rfl 111 rfl
            simp only [wiR] at h2
            simp at h1 h2
            go_simp
            refine (hcb W hG).mono ?_
            rintro e W2 ⟨rfl, hb2⟩
            exact hK _ _ hb2 (fun j u _ _ _ h => h) trivial rfl
           ·refine ⟨fun _ => ?_, fun h => absurd h (by decide)⟩
            intro L T W hG hJ hLs hLi dq fq vq K hK
            go_simp
            exact hK _ _ (Below.refl _ W) (fun j u _ _ _ h => h) trivial rfl
           ·refine ⟨fun _ => ?_, fun h => absurd h (by decide)⟩
            intro L T W hG hJ hLs hLi dq fq vq K hK
            have h1 := vq ⟨10, .data⟩ (by simp) rfl 112 rfl
            simp only [wiR] at h1
            have h2 := vq ⟨11, .data⟩ (by simp) rfl 113 rfl
            simp only [wiR] at h2
            simp at h1 h2
            go_simp
            exact hK _ _ (Below.refl _ W) (fun j u _ _ _ h => h) trivial rfl
           ·refine ⟨fun _ => ?_, fun h => absurd h (by decide)⟩
            intro L T W hG hJ hLs hLi dq fq vq K hK
            have h1 := vq ⟨1, .data⟩ (by simp) rfl 103 rfl
            simp only [wiR] at h1
            have h2 := vq ⟨12, .data⟩ (by simp) rfl 114 rfl
            simp only [wiR] at h2
            simp at h1 h2
            go_simp
            exact hK _ _ (Below.refl _ W) (fun j u _ _ _ h => h) trivial rfl
          ·intro f9 w5 hG hJe hR
           have e13 := hR 13 115 (by decide) rfl
           simp only [concDsts, List.take_succ_cons, List.take_zero, List.drop_succ_cons, List.drop_zero, List.filterMap_cons, List.filterMap_nil, List.foldl_cons, List.foldl_nil, List.setIfInBounds_toArray, List.set_cons_zero, List.set_cons_succ]
           simp only [wiR] at e13
           rw [e13]
           clear e13 hR
           generalize f9 102 = v102
           generalize f9 103 = v103
           generalize f9 104 = v104
           generalize f9 105 = v105
           generalize f9 106 = v106
           generalize f9 107 = v107
           generalize f9 108 = v108
           generalize f9 109 = v109
           generalize f9 110 = v110
           generalize f9 111 = v111
           generalize f9 112 = v112
           generalize f9 113 = v113
           generalize f9 114 = v114
           clear f9
           have HG5 := Hd (show Below wt.heap.size wt w5 from (show Below wt.heap.size wt wt.drew from (Below.refl _ _).drew).trans hG)
           clear hG hJe hcb hz HCC
           go_wp2_with fail
           go_roundg (SL - (k + 1))
           case measure => have h1 := HZ.out.2.2.2.1; omega
           case rel => exact ⟨k + 1, by omega, rfl, rfl, by rw [HSU.out], HZ.out.2.2.2.2.trans (HG5.out.mono HZ.out.2.2.2.2.size)⟩
        ·obtain rfl : k = SL := by omega
         obtain ⟨wi, hwi⟩ : ∃ wi, wiN S p k = wi := ⟨_, rfl⟩
         rw [hwi]
         have HWI := Hd hwi
         have hpw := N.out.2.2.2.2.2.2.2.2.2.2.same (hbk.block pg N.out.2.2.2.2.2.2.2.2.2.2.lt)
         have f0 : wr.cell? ⟨pg, po + c * 4, none⟩ = some (.int .u64 (wd p 0)) := hpw.cells c p N.out.2.2.2.2.2.2.2.1 0 _ rfl
         have f1 : wr.cell? ⟨pg, po + c * 4 + 1, none⟩ = some (.int .u64 (wd p 1)) := hpw.cells c p N.out.2.2.2.2.2.2.2.1 1 _ rfl
         have f2 : wr.cell? ⟨pg, po + c * 4 + 2, none⟩ = some (.int .u64 (wd p 2)) := hpw.cells c p N.out.2.2.2.2.2.2.2.1 2 _ rfl
         have f3 : wr.cell? ⟨pg, po + c * 4 + 3, none⟩ = some (.int .u64 (wd p 3)) := hpw.cells c p N.out.2.2.2.2.2.2.2.1 3 _ rfl
         have T := Hd (An (row_below N.out.2.1 hbk) (An (N.out.2.2.2.2.1.trans (hbk.mono N.out.2.2.2.2.1.size)) (An (row_below N.out.2.2.1 hbk) (row_below N.out.2.2.2.1 hbk))))
         have hsz := T.out.2.1.size
         clear hwi hpw hbk
         cases wi with
         | true =>
          have HSU := Hd (show partsN S (c + 1) = partsN S c ++ [⟨0, p, 0⟩] from by rw [N.out.2.2.2.2.2.1, R.out.2.2.2, HWI.out]; rfl)
          have HA1 := Hd (show (∀ j u, ([.int .i64 0, .int .u64 (wd p 0), .int .u64 (wd p 1), .int .u64 (wd p 2), .int .u64 (wd p 3), .int .i64 0] : List Value)[j]? = some u -> (wr.alloc (.cells #[.int .i64 0, .int .u64 (wd p 0), .int .u64 (wd p 1), .int .u64 (wd p 2), .int .u64 (wd p 3), .int .i64 0] 28)).cell? ((⟨wr.heap.size, 0, none⟩ : Addr).add j) = some u) /\ (∀ u ∈ ([.int .i64 0, .int .u64 (wd p 0), .int .u64 (wd p 1), .int .u64 (wd p 2), .int .u64 (wd p 3), .int .i64 0] : List Value), u.oneCell' = true) /\ ML2 + 1 <= maxLen /\ (ML2 + 1) * 48 <= 140737488355328 /\ W1.heap.size <= (wr.alloc (.cells #[.int .i64 0, .int .u64 (wd p 0), .int .u64 (wd p 1), .int .u64 (wd p 2), .int .u64 (wd p 3), .int .i64 0] 28)).heap.size from
           ⟨cells_new2 wr 28 #[.int .i64 0, .int .u64 (wd p 0), .int .u64 (wd p 1), .int .u64 (wd p 2), .int .u64 (wd p 3), .int .i64 0], by { intro u hu; simp at hu; rcases hu with rfl | rfl | rfl | rfl | rfl | rfl <;> rfl }, by { unfold maxLen; omega }, by omega, by { simp; omega }⟩)
          obtain ⟨i0, hi9, hz0, hz1, hz2⟩ := info_parts infoSym2
          go_wp2_with (at_builtin; go_loud (refine wpList_append_ownF _ rfl _ _ 31 rfl W1.heap.size 28 i0 (.agg #[.int .i64 0, .int .u64 0, .int .u64 0, .int .u64 0, .int .u64 0, .int .i64 0]) 6 48 Tryz.underlying31 hi9 hz0 hz1 hz2 rfl (by decide) _ ML2 _ rfl (T.out.1.alloc _) ⟨wr.heap.size, 0, none⟩ 1 1 [.int .i64 0, .int .u64 (wd p 0), .int .u64 (wd p 1), .int .u64 (wd p 2), .int .u64 (wd p 3), .int .i64 0] rfl rfl HA1.out.1 HA1.out.2.1 HA1.out.2.2.1 HA1.out.2.2.2.1 HA1.out.2.2.2.2 ?_))
          intro v' w8 hown8 hg8 hfr8
          have hb8 := (T.out.2.1.alloc hsz (.cells #[.int .i64 0, .int .u64 (wd p 0), .int .u64 (wd p 1), .int .u64 (wd p 2), .int .u64 (wd p 3), .int .i64 0] 28)).grown hg8 (by simp; omega) (fun b hb => (T.out.1.lt b hb).1)
          have ez : flatK encSy (sortsN g l n ++ partsN S c) ++ [.int .i64 0, .int .u64 (wd p 0), .int .u64 (wd p 1), .int .u64 (wd p 2), .int .u64 (wd p 3), .int .i64 0] = flatK encSy ((sortsN g l n ++ partsN S c) ++ [⟨0, p, 0⟩]) := by rw [<- flatK_snoc]; rfl
          rw [ez] at hown8
          have hal8 := (T.out.2.2.1.alloc (.cells #[.int .i64 0, .int .u64 (wd p 0), .int .u64 (wd p 1), .int .u64 (wd p 2), .int .u64 (wd p 3), .int .i64 0] 28)).kept hg8 (own_ne T.out.2.2.1 T.out.1 (by decide))
          have hpa8 := (T.out.2.2.2.alloc (.cells #[.int .i64 0, .int .u64 (wd p 0), .int .u64 (wd p 1), .int .u64 (wd p 2), .int .u64 (wd p 3), .int .i64 0] 28)).kept hg8 (own_ne T.out.2.2.2 T.out.1 (by decide))
          have S8 := Hd (An hown8 (An hb8 (An hal8 hpa8)))
          clear hown8 hg8 hfr8 hb8 hi9 hz0 hz1 hz2 ez hal8 hpa8
          go_wp2_with fail
          go_roundg (PL - (c + 1))
          case measure => have h1 := N.out.1; omega
          case rel =>
           refine ⟨c + 1, by omega, rfl, rfl, ?_, S8.out.2.2.1, S8.out.2.2.2, S8.out.2.1⟩
           rw [HSU.out, <- List.append_assoc, List.length_append, N.out.2.2.2.2.2.2.1]
           exact S8.out.1
         | false =>
          have HSU := Hd (show partsN S (c + 1) = partsN S c from by rw [N.out.2.2.2.2.2.1, R.out.2.2.2, HWI.out]; rfl)
          clear f0 f1 f2 f3
          go_wp2_with fail
          go_roundg (PL - (c + 1))
          case measure => have h1 := N.out.1; omega
          case rel => exact ⟨c + 1, by omega, rfl, rfl, by rw [HSU.out, N.out.2.2.2.2.2.2.1]; exact T.out.1, T.out.2.2.1, T.out.2.2.2, T.out.2.1⟩
      ·obtain rfl : c = PL := by omega
       have Z := Hd (An hown hby)
       clear hown hal hpa hby hm
       go_wp2_with fail
       go_ret
       refine ⟨.slice oa (sortsN g l n ++ partsN S c).length oc, rfl, ?_, H1.out.2.1.trans (Z.out.2.mono H1.out.2.1.size)⟩
       have hEs : symsR g l = sortsN g l n ++ partsN S c := by rw [symsR_parts, HS2.out, HNS.out, HPL.out]
       rw [hEs]
       exact own_low Z.out.1 H1.out.2.1.size
end Go.Proofs.YtknpkndiflodbaaGreatDoor.Tb
