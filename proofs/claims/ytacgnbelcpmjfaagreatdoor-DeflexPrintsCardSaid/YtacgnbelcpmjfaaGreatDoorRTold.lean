/-
  WALKS: the document's Told.
-/
import Derived.Test.YtacgnbelcpmjfaaGreatDoorRSText
import Derived.Test.YtacgnbelcpmjfaaGreatDoorRQuoteA
import Derived.Test.YtacgnbelcpmjfaaGreatDoorRMay
import Derived.Test.YtacgnbelcpmjfaaGreatDoorPrintA
set_option linter.unusedVariables false
set_option linter.unusedSimpArgs false
namespace Go.Proofs.YtacgnbelcpmjfaaGreatDoor.Dx
open Go.RowKit Go.Proofs Mx Bx
set_option maxRecDepth 100000 in
set_option maxHeartbeats 4000000 in
theorem rtold_any (p : Int) (v : Wd) (hf : fitW v) (hm : mayF v = true) (w : World) (E : Env w) :
    Calls Tryz.prog 34 #[wdV p v] w fun e w' => e = .returned (.string ⟨(toldF v).toArray⟩) ∧ Below w.heap.size w w' := by
  have hal : Below w.heap.size w (w.alloc (.cells #[.int .i64 v.kind, .int .i64 p, .string ⟨v.text.toArray⟩, .int .u64 (wd v.set 0), .int .u64 (wd v.set 1), .int .u64 (wd v.set 2), .int .u64 (wd v.set 3), .int .i64 v.num] 35)) := (Below.refl _ _).alloc (Nat.le_refl _) _
  have E1 := E.below hal E.big
  have HE := Lib.hid (And.intro hal (And.intro E1 hm))
  have hsz : (⟨v.text.toArray⟩ : ByteArray).size ≤ 400000000 := by rw [Lib.size_eq]; exact hf.2
  have hqu := fun W => rquote_any ⟨v.text.toArray⟩ hsz W
  have hst := fun W => rstext_any v.set hf.1 W
  unfold setV at hst
  unfold wdV wdC
  clear hal E1 hm hsz E hf
  by_cases h2 : v.kind = 2
  · have k2 : (v.kind == 2) = true := by simp [h2]
    have HF := Lib.hid (show quoteF v.text = toldF v by rw [toldF, if_pos h2])
    clear h2
    go_enter Tryz.func34, Tryz.ntmps34
    go_wp2_with fail
    refine (hqu _).mono ?_
    rintro e w2 ⟨rfl, hb⟩
    have HB := Lib.hid (HE.out.1.trans (hb.mono (by simp)))
    clear hb
    go_wp2_with fail
    go_ret
    exact ⟨by rw [← HF.out]; rfl, HB.out⟩
  have k2 : (v.kind == 2) = false := by simp [h2]
  by_cases h3 : v.kind = 3
  · have k3 : (v.kind == 3) = true := by simp [h3]
    have HF := Lib.hid (show setText v.set = toldF v by rw [toldF, if_neg h2, if_pos h3])
    clear h2 h3
    go_enter Tryz.func34, Tryz.ntmps34
    go_wp2_with fail
    refine (hst _).mono ?_
    rintro e w2 ⟨rfl, hb⟩
    have HB := Lib.hid (HE.out.1.trans (hb.mono (by simp)))
    clear hb
    go_wp2_with fail
    go_ret
    exact ⟨by rw [← HF.out]; rfl, HB.out⟩
  have k3 : (v.kind == 3) = false := by simp [h3]
  by_cases h4 : v.kind = 4
  · have k4 : (v.kind == 4) = true := by simp [h4]
    have HF := Lib.hid (show Lib.itoa v.num = toldF v by rw [toldF, if_neg h2, if_neg h3, if_pos h4])
    have hn := may_num4 HE.out.2.2 h4
    clear h2 h3 h4
    go_enter Tryz.func34, Tryz.ntmps34
    go_wp2_with fail
    refine (Tryz.strconv_Itoa v.num (by omega) (by omega) _ HE.out.2.1.pow).mono ?_
    rintro e w2 ⟨rfl, kk, oo, hw2⟩
    have hb : Below (w.alloc (.cells #[.int .i64 v.kind, .int .i64 p, .string ⟨v.text.toArray⟩, .int .u64 (wd v.set 0), .int .u64 (wd v.set 1), .int .u64 (wd v.set 2), .int .u64 (wd v.set 3), .int .i64 v.num] 35)).heap.size (w.alloc (.cells #[.int .i64 v.kind, .int .i64 p, .string ⟨v.text.toArray⟩, .int .u64 (wd v.set 0), .int .u64 (wd v.set 1), .int .u64 (wd v.set 2), .int .u64 (wd v.set 3), .int .i64 v.num] 35)) w2 := by rw [hw2]; exact Lib.below_grow _ _ (Nat.le_refl _) kk oo
    have HB := Lib.hid (HE.out.1.trans (hb.mono (by simp)))
    clear hb hw2
    go_wp2_with fail
    go_ret
    exact ⟨by rw [← HF.out]; rfl, HB.out⟩
  have k4 : (v.kind == 4) = false := by simp [h4]
  have HF := Lib.hid (show v.text = toldF v by rw [toldF, if_neg h2, if_neg h3, if_neg h4])
  clear h2 h3 h4
  go_enter Tryz.func34, Tryz.ntmps34
  go_wp2_with fail
  go_ret
  exact ⟨by rw [← HF.out]; rfl, HE.out.1⟩
end Go.Proofs.YtacgnbelcpmjfaaGreatDoor.Dx
