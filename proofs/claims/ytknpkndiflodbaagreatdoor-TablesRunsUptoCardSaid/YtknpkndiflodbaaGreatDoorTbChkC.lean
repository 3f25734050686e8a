/-
  WALKS of package kernel: Check, of any grammar. What a grammar has that may be.
-/
import Derived.Test.YtknpkndiflodbaaGreatDoorTbChkG
import Derived.Test.YtknpkndiflodbaaGreatDoorTbVast
set_option linter.unusedVariables false
set_option linter.unusedSimpArgs false
namespace Go.Proofs.YtknpkndiflodbaaGreatDoor.Tb
open Go Go.RowKit Go.Proofs Go.Maps Mx
def checkB (g : Gr) : Bool := sortsB g && prodsB g && forbidsB g && followsB g
/-- What Check answers. -/
def chkN (g : Gr) : Int := if checkB g = true then 0 else 160
theorem chk_no1 {g : Gr} (h : sortsB g = false) : chkN g = 160 := by unfold chkN checkB; rw [h]; rfl
theorem chk_no2 {g : Gr} (h : prodsB g = false) : chkN g = 160 := by unfold chkN checkB; rw [h]; cases sortsB g <;> rfl
theorem chk_no3 {g : Gr} (h : forbidsB g = false) : chkN g = 160 := by unfold chkN checkB; rw [h]; cases sortsB g <;> cases prodsB g <;> rfl
theorem chk_no4 {g : Gr} (h : followsB g = false) : chkN g = 160 := by unfold chkN checkB; rw [h]; cases sortsB g <;> cases prodsB g <;> cases forbidsB g <;> rfl
set_option maxRecDepth 100000 in
set_option maxHeartbeats 8000000 in
theorem check_any (g : Gr) (N : Nat) (hN : N ≤ 2000000) (w : World) (sv pv fv lv : Value) (hG : GramAt w N g sv pv fv lv) :
    Calls Tryz.prog 14 #[.agg #[sv, pv, .int .i64 g.start, fv, lv]] w fun e w' => e = .returned (.int .i64 (chkN g)) ∧ Below w.heap.size w w' := by
  obtain ⟨sa, sc, rfl⟩ := slice_shape hG.sorts
  obtain ⟨pa, pc, rfl⟩ := prodsAt_shape hG.prodsAt
  have i0 : ∀ w, (Instr.index 100 (.agg #[.func (.func 37) #[] #[], .func (.func 38) #[] #[], .func (.func 39) #[] #[], .func (.func 40) #[] #[]]) (.int .i64 0)).run Tryz.prog w = .ok (.func (.func 37) #[] #[]) w := fun _ => by kernel_rfl
  have i1 : ∀ w, (Instr.index 100 (.agg #[.func (.func 37) #[] #[], .func (.func 38) #[] #[], .func (.func 39) #[] #[], .func (.func 40) #[] #[]]) (.int .i64 1)).run Tryz.prog w = .ok (.func (.func 38) #[] #[]) w := fun _ => by kernel_rfl
  have i2 : ∀ w, (Instr.index 100 (.agg #[.func (.func 37) #[] #[], .func (.func 38) #[] #[], .func (.func 39) #[] #[], .func (.func 40) #[] #[]]) (.int .i64 2)).run Tryz.prog w = .ok (.func (.func 39) #[] #[]) w := fun _ => by kernel_rfl
  have i3 : ∀ w, (Instr.index 100 (.agg #[.func (.func 37) #[] #[], .func (.func 38) #[] #[], .func (.func 39) #[] #[], .func (.func 40) #[] #[]]) (.int .i64 3)).run Tryz.prog w = .ok (.func (.func 40) #[] #[]) w := fun _ => by kernel_rfl
  have H := Lib.hid (And.intro hG (And.intro hG.ok hN))
  clear hG hN
  go_enter Tryz.func14, Tryz.ntmps14
  go_wp2_with fail
  have hB1 : Blk (w.alloc (.cells #[.slice sa g.sorts.length sc, .slice pa g.prods.length pc, .int .i64 g.start, fv, lv] 39)) w.heap.size 39 #[.slice sa g.sorts.length sc, .slice pa g.prods.length pc, .int .i64 g.start, fv, lv] := Blk.new _ _ _
  have hb1 : Below w.heap.size w (w.alloc (.cells #[.slice sa g.sorts.length sc, .slice pa g.prods.length pc, .int .i64 g.start, fv, lv] 39)) := (Below.refl _ w).alloc (Nat.le_refl _) _
  generalize (w.alloc (.cells #[.slice sa g.sorts.length sc, .slice pa g.prods.length pc, .int .i64 g.start, fv, lv] 39)) = W1 at hB1 hb1 ⊢
  have H1 := Lib.hid (And.intro hB1 hb1)
  clear hB1 hb1
  go_loopg [6] 4 (fun m v wr => ∃ i : Nat, i ≤ 4 ∧ m = 4 - i ∧ v = .int .i64 i ∧ Blk wr w.heap.size 39 #[.slice sa g.sorts.length sc, .slice pa g.prods.length pc, .int .i64 g.start, fv, lv] ∧ Below w.heap.size w wr ∧ (1 ≤ i → sortsB g = true) ∧ (2 ≤ i → prodsB g = true) ∧ (3 ≤ i → forbidsB g = true) ∧ (4 ≤ i → followsB g = true))
  case atStart => exact ⟨0, by omega, rfl, rfl, H1.out.1, H1.out.2, by omega, by omega, by omega, by omega⟩
  case round =>
    obtain ⟨i, hi, hm, rfl, hB, hb, hv1, hv2, hv3, hv4⟩ := hrel
    have f0 := hB.cell 0
    have f1 := hB.cell 1
    have f2 := hB.cell 2
    have f3 := hB.cell 3
    have f4 := hB.cell 4
    simp at f0 f1 f2 f3 f4
    have A := Lib.hid (And.intro hm (And.intro hB (And.intro hb (And.intro hv1 (And.intro hv2 (And.intro hv3 hv4))))))
    clear hm hB hb hv1 hv2 hv3 hv4
    have HW := Lib.hid (H.out.1.keep A.out.2.2.1)
    rcases (show i = 0 ∨ i = 1 ∨ i = 2 ∨ i = 3 ∨ i = 4 by omega) with rfl | rfl | rfl | rfl | rfl
    · clear i1 i2 i3
      go_wp2_with fail
      refine (sorts_any _ g (by have := H.out.1.nsorts; have := H.out.2.2; omega) (fun s hs => by have := H.out.1.str s hs; have := H.out.2.2; omega) wr _ _ _ _ HW.out.sorts).mono ?_
      rintro e w2 ⟨rfl, hb2⟩
      have A2 := Lib.hid (And.intro (A.out.2.1.below hb2 A.out.2.1.lt) (A.out.2.2.1.trans (hb2.mono A.out.2.2.1.size)))
      clear hb2
      cases hv : sortsB g with
      | false =>
        have HV := Lib.hid (chk_no1 hv)
        clear hv
        go_wp2_with fail
        go_ret
        exact ⟨by rw [HV.out]; rfl, A2.out.2⟩
      | true =>
        have HV := Lib.hid hv
        clear hv
        go_wp2_with fail
        have hv := HV.out
        go_roundg 3
        case measure => have := A.out.1; omega
        case rel => exact ⟨1, by omega, rfl, rfl, A2.out.1, A2.out.2, fun _ => hv, by omega, by omega, by omega⟩
    · clear i0 i2 i3
      go_wp2_with fail
      refine (prods_any _ g (by have := H.out.1.nprods; have := H.out.2.2; omega) (fun p hp => by have := H.out.2.1 p hp; have := H.out.2.2; exact ⟨by omega, by omega, fun s hs => ((H.out.2.1 p hp).2.2.1 s hs).1⟩) wr _ _ _ rfl (by have := H.out.1.nsorts; have := H.out.2.2; omega) _ _ _ HW.out.prodsAt ⟨_, _, rfl⟩).mono ?_
      rintro e w2 ⟨rfl, hb2⟩
      have A2 := Lib.hid (And.intro (A.out.2.1.below hb2 A.out.2.1.lt) (A.out.2.2.1.trans (hb2.mono A.out.2.2.1.size)))
      clear hb2
      cases hv : prodsB g with
      | false =>
        have HV := Lib.hid (chk_no2 hv)
        clear hv
        go_wp2_with fail
        go_ret
        exact ⟨by rw [HV.out]; rfl, A2.out.2⟩
      | true =>
        have HV := Lib.hid hv
        clear hv
        go_wp2_with fail
        have hv := HV.out
        go_roundg 2
        case measure => have := A.out.1; omega
        case rel => exact ⟨2, by omega, rfl, rfl, A2.out.1, A2.out.2, fun _ => A.out.2.2.2.1 (by omega), fun _ => hv, by omega, by omega⟩
    · clear i0 i1 i3
      go_wp2_with fail
      refine (forbids_any _ g (by have := H.out.1.nforbid; have := H.out.2.2; omega) (by have := H.out.1.nprods; have := H.out.2.2; omega) (fun p hp => by have := H.out.2.1 p hp; have := H.out.2.2; omega) H.out.1.fb wr _ _ _ _ ⟨_, _, rfl⟩ HW.out.prodsAt HW.out.forbid).mono ?_
      rintro e w2 ⟨rfl, hb2⟩
      have A2 := Lib.hid (And.intro (A.out.2.1.below hb2 A.out.2.1.lt) (A.out.2.2.1.trans (hb2.mono A.out.2.2.1.size)))
      clear hb2
      cases hv : forbidsB g with
      | false =>
        have HV := Lib.hid (chk_no3 hv)
        clear hv
        go_wp2_with fail
        go_ret
        exact ⟨by rw [HV.out]; rfl, A2.out.2⟩
      | true =>
        have HV := Lib.hid hv
        clear hv
        go_wp2_with fail
        have hv := HV.out
        go_roundg 1
        case measure => have := A.out.1; omega
        case rel => exact ⟨3, by omega, rfl, rfl, A2.out.1, A2.out.2, fun _ => A.out.2.2.2.1 (by omega), fun _ => A.out.2.2.2.2.1 (by omega), fun _ => hv, by omega⟩
    · clear i0 i1 i2
      go_wp2_with fail
      refine (follows_any _ g (by have := H.out.1.nfollow; have := H.out.2.2; omega) (by have := H.out.1.nsorts; have := H.out.2.2; omega) H.out.1.fo wr _ _ _ rfl _ _ _ HW.out.follow).mono ?_
      rintro e w2 ⟨rfl, hb2⟩
      have A2 := Lib.hid (And.intro (A.out.2.1.below hb2 A.out.2.1.lt) (A.out.2.2.1.trans (hb2.mono A.out.2.2.1.size)))
      clear hb2
      cases hv : followsB g with
      | false =>
        have HV := Lib.hid (chk_no4 hv)
        clear hv
        go_wp2_with fail
        go_ret
        exact ⟨by rw [HV.out]; rfl, A2.out.2⟩
      | true =>
        have HV := Lib.hid hv
        clear hv
        go_wp2_with fail
        have hv := HV.out
        go_roundg 0
        case measure => have := A.out.1; omega
        case rel => exact ⟨4, by omega, rfl, rfl, A2.out.1, A2.out.2, fun _ => A.out.2.2.2.1 (by omega), fun _ => A.out.2.2.2.2.1 (by omega), fun _ => A.out.2.2.2.2.2.1 (by omega), fun _ => hv⟩
    · clear i0 i1 i2 i3
      have hv : chkN g = 0 := by
        unfold chkN checkB
        rw [A.out.2.2.2.1 (by omega), A.out.2.2.2.2.1 (by omega), A.out.2.2.2.2.2.1 (by omega), A.out.2.2.2.2.2.2 (by omega)]
        rfl
      have HV := Lib.hid hv
      clear hv
      go_wp2_with fail
      go_ret
      exact ⟨by rw [HV.out]; rfl, A.out.2.2.1⟩
end Go.Proofs.YtknpkndiflodbaaGreatDoor.Tb
