/-
  WHAT A GRAMMAR MAY BE; WALKS of package kernel: forbids, of any grammar.
-/
import Derived.Test.YtknpkndiflodbaaGreatDoorTbChkF
import Derived.Test.YtknpkndiflodbaaGreatDoorTbSortA
import Derived.Deep.QuietTactic
import Derived.BigQuiet
set_option linter.unusedVariables false
set_option linter.unusedSimpArgs false
namespace Go.Proofs.YtknpkndiflodbaaGreatDoor.Tb
open Go Go.RowKit Go.Proofs Go.Maps Go.WideMaps Mx
def prodAt (g : Gr) (n : Int) : Option Pr := if 0 ≤ n then g.prods[n.toNat]? else none
def pB (g : Gr) (n : Int) : Bool := match prodAt g n with | some p => !decide (p.role = 11) | none => false
def fbB (g : Gr) (f : Int × Int × Int) : Bool :=
  match prodAt g f.1, prodAt g f.2.2 with
  | some p, some q => !decide (p.role = 11) && !decide (q.role = 11) && !decide (f.2.1 < 1) && !decide ((p.right.length : Int) < f.2.1) &&
    (match p.right[(f.2.1 - 1).toNat]? with | some s => decide (s.kind = 1) && decide (s.sort = q.left) | none => false)
  | _, _ => false
def forbidsB (g : Gr) : Bool := decide g.forbid.Nodup && g.forbid.all (fbB g)
theorem forbidsB_no {g : Gr} {f : Int × Int × Int} (hm : f ∈ g.forbid) (h : fbB g f = false) : forbidsB g = false := by
  unfold forbidsB
  cases h2 : g.forbid.all (fbB g) with
  | false => simp
  | true =>
    have h1 := List.all_eq_true.1 h2 f hm
    rw [h] at h1; exact absurd h1 (by simp)
theorem fb_arms (g : Gr) (f : Int × Int × Int) :
    (fbB g f = false ∧ pB g f.1 = false) ∨ (fbB g f = false ∧ pB g f.1 = true ∧ pB g f.2.2 = false) ∨
    (∃ n m p q, f.1 = (n : Nat) ∧ f.2.2 = (m : Nat) ∧ g.prods[n]? = some p ∧ g.prods[m]? = some q ∧ pB g f.1 = true ∧ pB g f.2.2 = true ∧
      ((fbB g f = false ∧ f.2.1 < 1) ∨ (fbB g f = false ∧ 1 ≤ f.2.1 ∧ (p.right.length : Int) < f.2.1) ∨
       (∃ k s, f.2.1 = (k : Nat) + 1 ∧ p.right[k]? = some s ∧ ((fbB g f = false ∧ ¬ s.kind = 1) ∨ (fbB g f = false ∧ s.kind = 1 ∧ ¬ s.sort = q.left) ∨ (fbB g f = true ∧ s.kind = 1 ∧ s.sort = q.left))))) := by
  obtain ⟨a, b, c⟩ := f
  cases h1 : prodAt g a with
  | none => left; simp [fbB, pB, h1]
  | some p =>
    cases h2 : prodAt g c with
    | none =>
      by_cases hp : p.role = 11
      · left; simp [fbB, pB, h1, h2, hp]
      · right; left; simp [fbB, pB, h1, h2, hp]
    | some q =>
      by_cases hp : p.role = 11
      · left; simp [fbB, pB, h1, h2, hp]
      · by_cases hq : q.role = 11
        · right; left; simp [fbB, pB, h1, h2, hp, hq]
        · right; right
          have ha : 0 ≤ a := Classical.byContradiction fun h => by rw [prodAt, if_neg h] at h1; cases h1
          have hc : 0 ≤ c := Classical.byContradiction fun h => by rw [prodAt, if_neg h] at h2; cases h2
          have e1 := h1
          have e2 := h2
          rw [prodAt, if_pos ha] at e1
          rw [prodAt, if_pos hc] at e2
          refine ⟨a.toNat, c.toNat, p, q, by simp; omega, by simp; omega, e1, e2, by simp [pB, h1, hp], by simp [pB, h2, hq], ?_⟩
          by_cases hb : b < 1
          · left; exact ⟨by simp [fbB, h1, h2, hb], hb⟩
          · by_cases hb2 : (p.right.length : Int) < b
            · right; left; exact ⟨by simp [fbB, h1, h2, hb2], by simpa using hb, hb2⟩
            · right; right
              obtain ⟨k, rfl⟩ : ∃ k : Nat, b = k + 1 := ⟨(b - 1).toNat, by omega⟩
              have hk : k < p.right.length := by omega
              have hkk : ((k : Int) + 1 - 1).toNat = k := by omega
              obtain ⟨s, hs⟩ : ∃ s, p.right[k]? = some s := ⟨_, List.getElem?_eq_getElem hk⟩
              refine ⟨k, s, rfl, hs, ?_⟩
              have hv : fbB g (a, (k : Int) + 1, c) = (decide (s.kind = 1) && decide (s.sort = q.left)) := by
                unfold fbB
                simp only [h1, h2, hkk, hs, decide_eq_false hp, decide_eq_false hq, decide_eq_false hb, decide_eq_false hb2]
                rfl
              by_cases k1 : s.kind = 1
              · by_cases k2 : s.sort = q.left
                · right; right; exact ⟨by rw [hv, decide_eq_true k1, decide_eq_true k2]; rfl, k1, k2⟩
                · right; left; exact ⟨by rw [hv, decide_eq_false k2, Bool.and_false], k1, k2⟩
              · left; exact ⟨by rw [hv, decide_eq_false k1, Bool.false_and], k1⟩
theorem fbLaw : KeyLaw Tryz.prog 147 := deep_law_laid laidOut (m := 2) (by omega) (of_decide_eq_true (by kernel_rfl)) (by kernel_rfl) (by kernel_rfl)
def keyB (f : Int × Int × Int) : Lit := .string (keyBytes [.int .i64 f.1, .int .i64 f.2.1, .int .i64 f.2.2])
theorem fbKeyType : Tryz.prog.keyType 147 = true := by kernel_rfl
theorem fbCells : Tryz.prog.cellsOf 147 = 3 := by kernel_rfl
theorem keyOf_fb (f : Int × Int × Int) (h : FbOk f) : keyOf Tryz.prog 147 (.agg #[.int .i64 f.1, .int .i64 f.2.1, .int .i64 f.2.2]) = some (keyB f) := by
  obtain ⟨m0, hm0⟩ := typesSize
  unfold keyOf
  simp only [Tryz.underlying147]
  rw [if_pos (by simp [fbKeyType, Value.formed, Tryz.underlying147, fbCells]), hm0]
  unfold Program.keyLits
  simp only [Tryz.underlying147, Value.cells]
  rw [if_pos (by rw [fbCells]; exact ⟨rfl, by kernel_rfl⟩)]
  have h0 := i64_lit h.1
  have h1 := i64_lit h.2.1
  have h2 := i64_lit h.2.2
  simp [Program.keyLits, Tryz.underlying3, cwInt, h0, h1, h2, keyB]
theorem keyB_inj {x y : Int × Int × Int} (hx : FbOk x) (hy : FbOk y) (h : keyB x = keyB y) : x = y := by
  have h1 := fbLaw.inj (keyOf_fb x hx) (by rw [h]; exact keyOf_fb y hy)
  injection h1 with h1
  injection h1 with h1
  simp at h1
  exact Prod.ext h1.1 (Prod.ext h1.2.1 h1.2.2)
set_option maxRecDepth 100000 in
set_option maxHeartbeats 8000000 in
theorem fprod_any (D : Nat → Prop) (g : Gr) (hN : g.prods.length ≤ 2000000) (w : World) (b : Nat) (pa : Option Addr) (pc : Nat) (h : w.cell? ⟨b, 1, none⟩ = some (.slice pa g.prods.length pc)) (hP : ProdsAt D w (.slice pa g.prods.length pc) g.prods) (n : Int) (r : Bool) (hr : pB g n = r) :
    Calls Tryz.prog 73 #[.int .i64 n, .pointer (some ⟨b, 0, none⟩)] w fun e w' => e = .returned (.bool r) ∧ w' = w := by
  by_cases h0 : 0 ≤ n
  · by_cases h1 : n < (g.prods.length : Int)
    · obtain ⟨k, rfl⟩ : ∃ k : Nat, n = k := ⟨n.toNat, by omega⟩
      have hk : k < g.prods.length := by omega
      obtain ⟨p, hp⟩ : ∃ p, g.prods[k]? = some p := ⟨_, List.getElem?_eq_getElem hk⟩
      obtain ⟨cap, b2, o, vr, epv, hbl, hvr, hpc⟩ := hP.at_ hp
      injection epv with e1 e2 e3
      subst e1
      subst e3
      have f3 := hpc 3 _ rfl
      have hv : pB g k = !decide (p.role = 11) := by unfold pB prodAt; rw [if_pos (by omega)]; simp [hp]
      rw [hv] at hr
      clear hpc hP hvr hv
      by_cases c : p.role = 11
      · have hrr : r = false := by rw [← hr]; simp [c]
        clear hr
        rw [c] at f3
        go_enter Tryz.func73, Tryz.ntmps73
        go_wp2_with fail
        go_ret
        exact ⟨rfl, rfl⟩
      · have hrr : r = true := by rw [← hr]; simp [c]
        clear hr
        go_enter Tryz.func73, Tryz.ntmps73
        go_wp2_with fail
        go_ret
        exact ⟨ret_bool (by simp [c]), rfl⟩
    · have hv : r = false := by
        rw [← hr]; unfold pB prodAt
        rw [if_pos h0, List.getElem?_eq_none (by omega)]
      have hd : decide (n < (g.prods.length : Int)) = false := decide_eq_false h1
      clear hr h1 hP
      go_enter Tryz.func73, Tryz.ntmps73
      go_wp2_with fail
      go_ret
      exact ⟨by rw [hv]; rfl, rfl⟩
  · have hv : r = false := by rw [← hr]; unfold pB prodAt; rw [if_neg h0]
    have hd : decide (0 ≤ n) = false := decide_eq_false h0
    clear hr h0 hP
    go_enter Tryz.func73, Tryz.ntmps73
    go_wp2_with fail
    go_ret
    exact ⟨by rw [hv]; rfl, rfl⟩
end Go.Proofs.YtknpkndiflodbaaGreatDoor.Tb
