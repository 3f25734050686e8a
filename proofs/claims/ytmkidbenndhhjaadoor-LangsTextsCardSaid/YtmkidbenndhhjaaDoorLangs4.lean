/-
  WALKS of package langs: keywords.
-/
import Derived.Test.YtmkidbenndhhjaaDoorLangs3
import Derived.Test.YtmkidbenndhhjaaDoorBuilder
import Derived.Test.YtmkidbenndhhjaaDoorShelfL
import Derived.LoopTactic
set_option linter.unusedVariables false
namespace Go.Proofs.YtmkidbenndhhjaaDoor.Lx
open Go.RowKit Go.Proofs Mx Bx

def kw1 (s : List UInt8) : List UInt8 :=
  [108, 101, 120, 105, 99, 97, 108, 32, 73, 100, 32, 61, 32, 34] ++ s ++ [34, 32, 40, 114, 101, 106, 101, 99, 116, 41, 59, 10, 114, 101, 115, 116, 114, 105, 99, 116, 32, 34] ++ s ++
    [34, 32, 110, 111, 116, 32, 91, 48, 45, 57, 97, 45, 122, 93, 59, 10]
def kwS (l : List (List UInt8)) : List UInt8 := l.flatMap kw1
theorem kwS_succ (l : List (List UInt8)) (k : Nat) (hk : k < l.length) : kwS (l.take (k + 1)) = kwS (l.take k) ++ kw1 (l.getD k []) := by
  rw [List.take_succ_eq_append_getElem hk, kwS, List.flatMap_append]
  simp [kwS, List.getD, hk]

set_option maxRecDepth 100000 in
set_option maxHeartbeats 1000000 in
theorem keywords_any (A c : Nat) (ss : List (List UInt8)) (w : World) (hn : ss.length ≤ 1000) (hl : ∀ k, (kwS (ss.take k)).length ≤ 1000000) (h1 : ∀ k, (kw1 (ss.getD k [])).length ≤ 1000000) (hA : A < w.heap.size)
    (hc : ∀ i, i < ss.length → w.cell? ⟨A, i, none⟩ = some (.string ⟨(ss.getD i []).toArray⟩)) :
    Calls Tryd.prog 55 #[.slice (some ⟨A, 0, none⟩) ss.length c] w fun e w' => e = .returned (.string ⟨(kwS ss).toArray⟩) ∧ Below w.heap.size w w' := by
  go_enter Tryd.func55, Tryd.ntmps55
  go_wp2_with fail
  go_loopw [8] (fun i wr => ∃ k : Nat, k ≤ ss.length ∧ i = .int .i64 k ∧ Lib.IsBuilder 80 5 w.heap.size w.heap.size (Lib.byteCells (kwS (ss.take k))) wr ∧ Below w.heap.size w wr) (fun i _ => ss.length - (intOf i).toNat)
  case atStart => exact ⟨0, Nat.zero_le _, rfl, Lib.fresh_isBuilder _ _ _, by go_grown⟩
  case round =>
    obtain ⟨k, hk, rfl, hb, hbw⟩ := hrel
    by_cases hlt : k < ss.length
    · have hcell : wr.cell? ⟨A, k, none⟩ = some (.string ⟨(ss.getD k []).toArray⟩) := (hbw.cell (p := ⟨A, k, none⟩) hA).trans (hc k hlt)
      have hkl := hl (k + 1)
      rw [kwS_succ ss k hlt, List.length_append] at hkl
      have hks := Lib.hid (kwS_succ ss k hlt)
      have hrl : (ss.getD k []).length ≤ (kw1 (ss.getD k [])).length := by rw [kw1]; simp; omega
      obtain ⟨r, hr⟩ : ∃ r, ss.getD k [] = r := ⟨_, rfl⟩
      rw [hr] at hcell hkl hks hrl
      have hrl' : r.length ≤ 1000000 := by omega
      clear hc hl h1 hr hrl
      obtain ⟨cw, hcw⟩ : ∃ cw, kwS (ss.take k) = cw := ⟨_, rfl⟩
      rw [hcw] at hb hkl
      go_wp2_with fail
      refine (writeString w.heap.size w.heap.size (Lib.byteCells cw) _ _ hb (by simp [Lib.byteCells_length, ByteArray.size] at hkl ⊢; simp [kw1] at hkl; omega) hbw.size).mono ?_
      rintro e w2 ⟨rfl, hb2, hbb⟩
      go_wp2
      go_roundw
      case rel =>
        refine ⟨k + 1, by omega, by go_num, ?_, hbw.trans hbb⟩
        rw [hks.out, hcw]
        refine .inr ?_
        rw [show Lib.byteCells (cw ++ kw1 r) = Lib.byteCells cw ++ Lib.strCells _ from ?_]
        · exact hb2
        · simp [Lib.byteCells, Lib.strCells, kw1]
      case measure => simp [intOf]; omega
    · have hk' : k = ss.length := by omega
      subst hk'
      rw [List.take_length] at hb
      clear hc hl h1
      go_wp2_with fail
      refine (Tryd.Builder_String_any w.heap.size w.heap.size (kwS ss) _ hb hbw.size).mono ?_
      rintro e w2 ⟨rfl, hbb⟩
      go_wp2
      go_ret
      exact ⟨rfl, hbw.trans hbb⟩
end Go.Proofs.YtmkidbenndhhjaaDoor.Lx
