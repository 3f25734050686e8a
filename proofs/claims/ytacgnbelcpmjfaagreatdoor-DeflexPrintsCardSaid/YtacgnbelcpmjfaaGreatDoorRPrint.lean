/-
  WALKS: the document's Print.
-/
import Derived.Test.YtacgnbelcpmjfaaGreatDoorRTold
import Derived.Test.YtacgnbelcpmjfaaGreatDoorTellLen
set_option linter.unusedVariables false
set_option linter.unusedSimpArgs false
namespace Go.Proofs.YtacgnbelcpmjfaaGreatDoor.Dx
open Go.RowKit Go.Proofs Mx Bx
theorem may_take (l : List (Int × Wd)) (k : Nat) (p : Int) (v : Wd) (h : l[k]? = some (p, v)) : allMay (l.take (k + 1)) = (allMay (l.take k) && mayF v) := by
  obtain ⟨hk, he⟩ := List.getElem?_eq_some_iff.1 h
  rw [List.take_succ_eq_append_getElem hk, he]
  simp [allMay]
theorem tell_take (l : List (Int × Wd)) (k : Nat) (p : Int) (v : Wd) (h : l[k]? = some (p, v)) :
    tellL ((l.take (k + 1)).map (·.2)) = tellL ((l.take k).map (·.2)) ++ ((if k = 0 then [] else [32]) ++ toldF v) := by
  obtain ⟨hk, he⟩ := List.getElem?_eq_some_iff.1 h
  rw [List.take_succ_eq_append_getElem hk, he, List.map_append, List.map_cons, List.map_nil, tellL_snoc]
  by_cases h0 : k = 0
  · subst h0; simp
  · have : (l.take k).map (·.2) ≠ [] := by
      intro e
      have := congrArg List.length e
      rw [List.length_map, List.length_take] at this
      simp only [List.length_nil] at this
      omega
    rw [if_neg this, if_neg h0]
theorem may_not (l : List (Int × Wd)) (k : Nat) (p : Int) (v : Wd) (h : l[k]? = some (p, v)) (hv : mayF v = false) : allMay l = false := by
  rw [allMay, Bool.eq_false_iff]
  intro e
  have h2 : mayF v = true := List.all_eq_true.1 e (p, v) (List.mem_of_getElem? h)
  rw [hv] at h2
  cases h2
theorem print_no (l : List (Int × Wd)) (h : allMay l = false) : printF (l.map (·.2)) = ([], 2) := by
  rw [printF, ← allMay_map, h]; rfl
theorem print_long (l : List (Int × Wd)) (h : allMay l = true) (h2 : 1048576 < (tellL (l.map (·.2))).length) : printF (l.map (·.2)) = ([], 3) := by
  rw [printF, ← allMay_map, h, if_pos rfl, if_pos h2]
theorem print_ok (l : List (Int × Wd)) (h : allMay l = true) (h2 : ¬ 1048576 < (tellL (l.map (·.2))).length) : printF (l.map (·.2)) = (tellL (l.map (·.2)), 0) := by
  rw [printF, ← allMay_map, h, if_pos rfl, if_neg h2]
theorem pr_out {x : List UInt8 × Int} {a : ByteArray} {b : Int} (h : x = (a.data.toList, b)) : Ending.returned (.tuple #[.string a, .int .i64 b]) = .returned (.tuple #[.string ⟨x.1.toArray⟩, .int .i64 x.2]) := by
  subst h
  rw [str_eq a _ rfl]
theorem told_text (p : Int) (v : Wd) (hf : fitW v) (hm : mayF v = true) : ∃ T : ByteArray, T.data.toList = toldF v ∧ T.size = (toldF v).length ∧ ∀ W, Env W → Calls Tryz.prog 34 #[wdV p v] W fun e w' => e = .returned (.string T) ∧ Below W.heap.size W w' :=
  ⟨⟨(toldF v).toArray⟩, by simp, by rw [Lib.size_eq], fun W E => rtold_any p v hf hm W E⟩
set_option maxRecDepth 100000 in
set_option maxHeartbeats 4000000 in
theorem rprint_any (V : Value) (l : List (Int × Wd)) (hl : l.length ≤ 1000000000) (hfit : ∀ q ∈ l, fitW q.2) (htot : ∀ k, allMay (l.take k) = true → (tellL ((l.take k).map (·.2))).length ≤ 100000000000) (w : World) (E : Env w) (hV : SliceW w V l) :
    Calls Tryz.prog 13 #[V] w fun e w' => e = .returned (.tuple #[.string ⟨(printF (l.map (·.2))).1.toArray⟩, .int .i64 (printF (l.map (·.2))).2]) ∧ Below w.heap.size w w' := by
  obtain ⟨a0, c0, rfl, ho⟩ := hV.opt
  have H0 := Lib.hid (And.intro ho (And.intro hfit (And.intro htot E)))
  clear hV hfit htot E ho
  go_enter Tryz.func13, Tryz.ntmps13
  go_wp2_with fail
  go_loopg [4, 5] l.length (fun m v4 v5 wr => ∃ (k : Nat) (O : ByteArray), k ≤ l.length ∧ m = l.length - k ∧ v5 = .int .i64 k ∧ v4 = .string O ∧ O.data.toList = tellL ((l.take k).map (·.2)) ∧ allMay (l.take k) = true ∧ Below w.heap.size w wr)
  case atStart => exact ⟨0, ⟨#[]⟩, Nat.zero_le _, rfl, rfl, rfl, rfl, rfl, Below.refl _ _⟩
  case round =>
    obtain ⟨k, O, hk, hm, rfl, rfl, hO, hmay, hbe⟩ := hrel
    have hOs : O.size ≤ 100000000000 := by rw [Lib.size_eq, hO]; exact H0.out.2.2.1 k hmay
    by_cases hlt : k < l.length
    · obtain ⟨q, hq⟩ : ∃ q, l[k]? = some q := ⟨l[k], List.getElem?_eq_getElem hlt⟩
      obtain ⟨p, v⟩ := q
      obtain ⟨g, o, rfl, hr⟩ := H0.out.1.some (by omega)
      have hfv := H0.out.2.1 (p, v) (List.mem_of_getElem? hq)
      have h8 := (hr.cells k p v hq).below hbe hr.lt
      have hki : (k : Int) < (l.length : Int) := by omega
      have hk0 : (0 : Int) ≤ (k : Int) := by omega
      have hcall := fun W => rmay_any p v hfv.1 hfv.2 W
      have ht1 := tell_take l k p v hq
      have ht2 := may_take l k p v hq
      have A := Lib.hid (And.intro hm (And.intro hO (And.intro hmay (And.intro hbe (And.intro ht1 (And.intro h8 hr.lt))))))
      obtain ⟨x0, x1, x2, x3, x4, x5, x6, x7⟩ := h8
      clear hm hO hbe ht1 hr
      unfold wdV wdC at hcall
      cases hmv : mayF v with
      | false =>
        rw [hmv] at hcall
        have HF := Lib.hid (print_no l (may_not l k p v hq hmv))
        clear hq hmv ht2 hmay
        go_wp2_with fail
        refine (hcall _).mono ?_
        rintro e w2 ⟨rfl, hb⟩
        have HB := Lib.hid (A.out.2.2.2.1.trans (hb.mono A.out.2.2.2.1.size))
        clear hb
        go_wp2_with fail
        go_ret2
        exact ⟨pr_out HF.out, HB.out⟩
      | true =>
        rw [hmv] at hcall
        obtain ⟨T, hT, hTs, htold⟩ := told_text p v hfv hmv
        have hmay2 : allMay (l.take (k + 1)) = true := by rw [ht2, hmay, hmv]; rfl
        have htot2 := H0.out.2.2.1 (k + 1) hmay2
        rw [A.out.2.2.2.2.1, List.length_append, List.length_append, ← A.out.2.1, ← Lib.size_eq, ← hTs] at htot2
        have HM := Lib.hid (And.intro hmay2 hT)
        unfold wdV wdC at htold
        clear hq hmv ht2 hmay hmay2 hT hTs hfv
        go_wp2_with fail
        refine (hcall _).mono ?_
        rintro e w2 ⟨rfl, hb⟩
        have hb2 := A.out.2.2.2.1.trans (hb.mono A.out.2.2.2.1.size)
        have h82 := A.out.2.2.2.2.2.1.below hb (Nat.lt_of_lt_of_le A.out.2.2.2.2.2.2 A.out.2.2.2.1.size)
        have HB := Lib.hid (And.intro hb2 (H0.out.2.2.2.below hb2 H0.out.2.2.2.big))
        obtain ⟨y0, y1, y2, y3, y4, y5, y6, y7⟩ := h82
        clear hb hb2 x0 x1 x2 x3 x4 x5 x6 x7 hcall
        by_cases hz : k = 0
        · subst hz
          simp only [Nat.zero_mul, Nat.add_zero] at y0 y1 y2 y3 y4 y5 y6 y7
          have hs1 : ¬ 9223372036854775807 < O.size + T.size := by omega
          go_wp2_with fail
          refine (htold _ HB.out.2).mono ?_
          rintro e w3 ⟨rfl, hb3⟩
          have HC := Lib.hid (HB.out.1.trans (hb3.mono HB.out.1.size))
          clear hb3
          go_wp2_with fail
          go_roundg (l.length - (0 + 1))
          case measure => have := A.out.1; omega
          case rel =>
            refine ⟨0 + 1, O ++ T, by omega, rfl, rfl, rfl, ?_, HM.out.1, HC.out⟩
            rw [A.out.2.2.2.2.1, ByteArray.data_append, Array.toList_append, A.out.2.1, HM.out.2]
            rfl
        · have hkz : (0 : Int) < (k : Int) := by omega
          rw [if_neg hz] at htot2
          have hs0 : ¬ 9223372036854775807 < O.size + 1 := by omega
          have hs1 : ¬ 9223372036854775807 < O.size + 1 + T.size := by simp at htot2; omega
          have HZ := Lib.hid hz
          clear hz
          go_wp2_with fail
          refine (htold _ HB.out.2).mono ?_
          rintro e w3 ⟨rfl, hb3⟩
          have HC := Lib.hid (HB.out.1.trans (hb3.mono HB.out.1.size))
          clear hb3
          go_wp2_with fail
          go_roundg (l.length - (k + 1))
          case measure => have := A.out.1; omega
          case rel =>
            refine ⟨k + 1, (O ++ ⟨#[32]⟩) ++ T, by omega, rfl, rfl, rfl, ?_, HM.out.1, HC.out⟩
            rw [A.out.2.2.2.2.1, if_neg HZ.out]
            simp only [ByteArray.data_append, Array.toList_append, A.out.2.1, HM.out.2, List.append_assoc]
    · obtain rfl : k = l.length := by omega
      rw [List.take_length] at hmay hO
      have A := Lib.hid (And.intro hO (And.intro hmay hbe))
      have hsz : O.size = (tellL (l.map (·.2))).length := by rw [Lib.size_eq, hO]
      by_cases hbig : 1048576 < O.size
      · have hbi : (1048576 : Int) < (O.size : Int) := by omega
        have HF := Lib.hid (print_long l hmay (by omega))
        clear hO hmay hbe hm hsz hbig
        go_wp2_with fail
        go_ret2
        exact ⟨pr_out HF.out, A.out.2.2⟩
      · have hbi : ¬ (1048576 : Int) < (O.size : Int) := by omega
        have HF := Lib.hid (print_ok l hmay (by omega))
        clear hO hmay hbe hm hsz hbig
        go_wp2_with fail
        go_ret2
        exact ⟨pr_out (HF.out.trans (by rw [A.out.1])), A.out.2.2⟩
end Go.Proofs.YtacgnbelcpmjfaaGreatDoor.Dx
