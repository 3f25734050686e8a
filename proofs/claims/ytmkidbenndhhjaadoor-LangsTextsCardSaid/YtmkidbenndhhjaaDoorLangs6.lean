/-
  WALKS of package langs: Text, Root, Samples; the reference's texts.
-/
import Derived.Test.YtmkidbenndhhjaaDoorLangs5
set_option linter.unusedVariables false
namespace Go.Proofs.YtmkidbenndhhjaaDoor.Lx
open Go.RowKit Go.Proofs Mx Bx

theorem kwS_take_le (l : List (List UInt8)) (j : Nat) : (kwS (l.take j)).length ≤ (kwS l).length := by
  have h : kwS l = kwS (l.take j) ++ kwS (l.drop j) := by
    rw [kwS, kwS, kwS, ← List.flatMap_append, List.take_append_drop]
  rw [h, List.length_append]
  omega
theorem kw1_getD_le (l : List (List UInt8)) (j : Nat) : (kw1 (l.getD j [])).length ≤ (kwS l).length + 52 := by
  by_cases h : j < l.length
  · have := kwS_take_le l (j + 1)
    rw [kwS_succ l j h, List.length_append] at this
    omega
  · have e : l.getD j [] = [] := by simp [List.getD, h]
    rw [e]; simp [kw1]
def asciiB (s : ByteArray) : Bool := s.data.toList.all fun b => decide (b.toNat < 128)
theorem ascii_of (s : ByteArray) (h : asciiB s = true) : ascii s := by
  intro j b hb
  rw [asciiB, List.all_eq_true] at h
  simpa using h b (List.mem_of_getElem? hb)
def fineB (t k : ByteArray) : Bool := asciiB k && decide (k.size ≤ 1000) && decide (t.size ≤ 1000000) && decide ((Lib.fields k.data.toList).length ≤ 1000) && decide ((kwS (Lib.fields k.data.toList)).length ≤ 100000)
theorem whole_fine (n t k : ByteArray) (v : Value) (w : World) (hT : Tab w) (hg : 0 < w.heap.size) (hf : fineB t k = true) :
    Calls Tryd.prog 29 #[.agg #[.string n, .string t, .string k, v]] w fun e w' => e = .returned (.string (wholeS t k)) ∧ Below w.heap.size w w' := by
  simp only [fineB, Bool.and_eq_true, decide_eq_true_eq] at hf
  obtain ⟨⟨⟨⟨h1, h2⟩, h3⟩, h4⟩, h5⟩ := hf
  exact whole_any n t k v w hT hg (ascii_of _ h1) h2 h3 h4 (fun j => Nat.le_trans (kwS_take_le _ j) (by omega)) (fun j => Nat.le_trans (kw1_getD_le _ j) (by omega))
theorem fine0 : fineB (cs 5) (cs 6) = true := by decide +kernel
theorem fine1 : fineB (cs 12) (cs 13) = true := by decide +kernel
theorem fine2 : fineB (cs 19) (cs 20) = true := by decide +kernel
def eqB : List UInt8 → List UInt8 → Bool
  | [], [] => true
  | a :: l, b :: m => if Nat.beq a.toNat b.toNat then eqB l m else false
  | _, _ => false
theorem eqB_eq : ∀ (l m : List UInt8), eqB l m = true → l = m
  | [], [], _ => rfl
  | [], _ :: _, h => by simp [eqB] at h
  | _ :: _, [], h => by simp [eqB] at h
  | a :: l, b :: m, h => by
    rw [eqB] at h
    split at h
    · rename_i e
      have := Nat.eq_of_beq_eq_true e
      rw [eqB_eq l m h, UInt8.toNat_inj.1 this]
    · cases h
theorem bytes_eq {s t : ByteArray} (h : eqB s.data.toList t.data.toList = true) : s = t := by
  have := eqB_eq _ _ h
  cases s; cases t
  simp only [ByteArray.mk.injEq]
  exact Array.toList_inj.1 this
theorem same0 : wholeS (cs 5) (cs 6) = rs 1 := bytes_eq (by kernel_rfl)
theorem same1 : wholeS (cs 12) (cs 13) = rs 2 := bytes_eq (by kernel_rfl)
theorem same2 : wholeS (cs 19) (cs 20) = rs 3 := bytes_eq (by kernel_rfl)
end Go.Proofs.YtmkidbenndhhjaaDoor.Lx
