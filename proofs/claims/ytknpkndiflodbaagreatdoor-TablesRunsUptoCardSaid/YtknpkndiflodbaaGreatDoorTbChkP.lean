/-
  WHAT A GRAMMAR MAY BE; WALKS of package kernel: prods, of any grammar.
-/
import Derived.Test.YtknpkndiflodbaaGreatDoorTbChkS
import Derived.Test.YtknpkndiflodbaaGreatDoorTbOpen
set_option linter.unusedVariables false
set_option linter.unusedSimpArgs false
namespace Go.Proofs.YtknpkndiflodbaaGreatDoor.Tb
open Go Go.RowKit Go.Proofs Go.Maps Mx
attribute [local go_sem] eqSet
def inB (g : Gr) (s : Int) : Bool := decide (0 ≤ s ∧ s < g.sorts.length)
def headB (g : Gr) (p : Pr) : Bool := inB g p.left && !decide (30 < (p.right.length : Int)) && !decide (p.role < 0) && !decide (11 < p.role) && !decide (p.made < -1) && !decide (64 < (p.cons.length : Int)) && !(!p.cons.isEmpty && !decide (p.role = 0)) && !(p.prefer && p.avoid)
def symB (g : Gr) (r : Int) (s : Sy) : Bool :=
  if s.kind = 0 then !decide (s.set = 0) && decide (s.sort = 0) else if s.kind = 1 then decide (s.set = 0) && inB g s.sort && !decide (r = 11) else false
def prodB (g : Gr) (p : Pr) : Bool := headB g p && p.right.all (symB g p.role)
def prodsB (g : Gr) : Bool := g.prods.all (prodB g) && decide ((g.prods.length : Int) ≤ 1000)
theorem prodsB_no {g : Gr} {p : Pr} (h : p ∈ g.prods) (hb : prodB g p = false) : prodsB g = false := by
  unfold prodsB
  cases h2 : g.prods.all (prodB g) with
  | false => rfl
  | true => rw [List.all_eq_true.1 h2 p h] at hb; exact absurd hb (by simp)
theorem prodB_head {g : Gr} {p : Pr} (hb : headB g p = false) : prodB g p = false := by unfold prodB; rw [hb]; rfl
theorem prodB_sym {g : Gr} {p : Pr} {s : Sy} (hs : s ∈ p.right) (hb : symB g p.role s = false) : prodB g p = false := by
  unfold prodB
  cases h2 : p.right.all (symB g p.role) with
  | false => simp
  | true => rw [List.all_eq_true.1 h2 s hs] at hb; exact absurd hb (by simp)
theorem sortIn_any (w : World) (b : Nat) (sa : Option Addr) (n c : Nat) (h : w.cell? ⟨b, 0, none⟩ = some (.slice sa n c)) (s : Int) (r : Bool) (hr : decide (0 ≤ s ∧ s < (n : Int)) = r) :
    Calls Tryz.prog 72 #[.int .i64 s, .pointer (some ⟨b, 0, none⟩)] w fun e w' => e = .returned (.bool r) ∧ w' = w := by
  by_cases h0 : 0 ≤ s
  · by_cases h1 : s < (n : Int)
    · have hv : r = true := by rw [← hr]; simp; omega
      clear hr
      go_enter Tryz.func72, Tryz.ntmps72
      go_wp2_with fail
      go_ret
      exact ⟨by rw [hv]; rfl, rfl⟩
    · have hv : r = false := by rw [← hr]; simp; omega
      have hd : decide (s < (n : Int)) = false := decide_eq_false h1
      clear hr h1
      go_enter Tryz.func72, Tryz.ntmps72
      go_wp2_with fail
      go_ret
      exact ⟨by rw [hv]; rfl, rfl⟩
  · have hv : r = false := by rw [← hr]; simp; omega
    have hd : decide (0 ≤ s) = false := decide_eq_false h0
    clear hr h0
    go_enter Tryz.func72, Tryz.ntmps72
    go_wp2_with fail
    go_ret
    exact ⟨by rw [hv]; rfl, rfl⟩
theorem head_arms (g : Gr) (p : Pr) :
    (headB g p = false ∧ inB g p.left = false) ∨ (headB g p = false ∧ inB g p.left = true ∧ decide (30 < (p.right.length : Int)) = true) ∨
    (headB g p = false ∧ inB g p.left = true ∧ decide (30 < (p.right.length : Int)) = false ∧ decide (p.role < 0) = true) ∨
    (headB g p = false ∧ inB g p.left = true ∧ decide (30 < (p.right.length : Int)) = false ∧ decide (p.role < 0) = false ∧ decide (11 < p.role) = true) ∨
    (headB g p = false ∧ inB g p.left = true ∧ decide (30 < (p.right.length : Int)) = false ∧ decide (p.role < 0) = false ∧ decide (11 < p.role) = false ∧ decide (p.made < -1) = true) ∨
    (headB g p = false ∧ inB g p.left = true ∧ decide (30 < (p.right.length : Int)) = false ∧ decide (p.role < 0) = false ∧ decide (11 < p.role) = false ∧ decide (p.made < -1) = false ∧ decide (64 < (p.cons.length : Int)) = true) ∨
    (headB g p = false ∧ inB g p.left = true ∧ decide (30 < (p.right.length : Int)) = false ∧ decide (p.role < 0) = false ∧ decide (11 < p.role) = false ∧ decide (p.made < -1) = false ∧ decide (64 < (p.cons.length : Int)) = false ∧ p.cons ≠ [] ∧ ¬ p.role = 0) ∨
    (headB g p = false ∧ inB g p.left = true ∧ decide (30 < (p.right.length : Int)) = false ∧ decide (p.role < 0) = false ∧ decide (11 < p.role) = false ∧ decide (p.made < -1) = false ∧ decide (64 < (p.cons.length : Int)) = false ∧ p.cons = [] ∧ p.prefer = true ∧ p.avoid = true) ∨
    (headB g p = false ∧ inB g p.left = true ∧ decide (30 < (p.right.length : Int)) = false ∧ decide (p.role < 0) = false ∧ decide (11 < p.role) = false ∧ decide (p.made < -1) = false ∧ decide (64 < (p.cons.length : Int)) = false ∧ p.role = 0 ∧ p.prefer = true ∧ p.avoid = true) ∨
    (headB g p = true ∧ inB g p.left = true ∧ decide (30 < (p.right.length : Int)) = false ∧ decide (p.role < 0) = false ∧ decide (11 < p.role) = false ∧ decide (p.made < -1) = false ∧ decide (64 < (p.cons.length : Int)) = false ∧ p.cons = [] ∧ p.prefer = false) ∨
    (headB g p = true ∧ inB g p.left = true ∧ decide (30 < (p.right.length : Int)) = false ∧ decide (p.role < 0) = false ∧ decide (11 < p.role) = false ∧ decide (p.made < -1) = false ∧ decide (64 < (p.cons.length : Int)) = false ∧ p.cons = [] ∧ p.prefer = true ∧ p.avoid = false) ∨
    (headB g p = true ∧ inB g p.left = true ∧ decide (30 < (p.right.length : Int)) = false ∧ decide (p.role < 0) = false ∧ decide (11 < p.role) = false ∧ decide (p.made < -1) = false ∧ decide (64 < (p.cons.length : Int)) = false ∧ p.role = 0 ∧ p.prefer = false) ∨
    (headB g p = true ∧ inB g p.left = true ∧ decide (30 < (p.right.length : Int)) = false ∧ decide (p.role < 0) = false ∧ decide (11 < p.role) = false ∧ decide (p.made < -1) = false ∧ decide (64 < (p.cons.length : Int)) = false ∧ p.role = 0 ∧ p.prefer = true ∧ p.avoid = false) := by
  unfold headB
  have hc : p.cons.isEmpty = decide (p.cons = []) := by cases p.cons <;> simp
  rw [hc]
  have h1 : ∀ c : Prop, ∀ _ : Decidable c, (decide c = false) ↔ ¬ c := fun c _ => decide_eq_false_iff_not
  cases inB g p.left <;> simp only [true_and, false_and, and_true, and_false, or_false, false_or, Bool.false_and, Bool.true_and, Bool.false_eq_true, reduceCtorEq]
  cases decide (30 < (p.right.length : Int)) <;> simp only [true_and, false_and, and_true, and_false, or_false, false_or, Bool.false_and, Bool.true_and, Bool.not_true, Bool.not_false, Bool.false_eq_true, reduceCtorEq]
  cases decide (p.role < 0) <;> simp only [true_and, false_and, and_true, and_false, or_false, false_or, Bool.false_and, Bool.true_and, Bool.not_true, Bool.not_false, Bool.false_eq_true, reduceCtorEq]
  cases decide (11 < p.role) <;> simp only [true_and, false_and, and_true, and_false, or_false, false_or, Bool.false_and, Bool.true_and, Bool.not_true, Bool.not_false, Bool.false_eq_true, reduceCtorEq]
  cases decide (p.made < -1) <;> simp only [true_and, false_and, and_true, and_false, or_false, false_or, Bool.false_and, Bool.true_and, Bool.not_true, Bool.not_false, Bool.false_eq_true, reduceCtorEq]
  cases decide (64 < (p.cons.length : Int)) <;> simp only [true_and, false_and, and_true, and_false, or_false, false_or, Bool.false_and, Bool.true_and, Bool.not_true, Bool.not_false, Bool.false_eq_true, reduceCtorEq]
  by_cases hcc : p.cons = [] <;> by_cases hr : p.role = 0 <;> cases p.prefer <;> cases p.avoid <;> simp [hcc, hr]
theorem sym_arms (g : Gr) (r : Int) (s : Sy) :
    (symB g r s = false ∧ s.kind = 0 ∧ s.set = 0) ∨ (symB g r s = false ∧ s.kind = 0 ∧ s.set ≠ 0 ∧ ¬ s.sort = 0) ∨ (symB g r s = true ∧ s.kind = 0 ∧ s.set ≠ 0 ∧ s.sort = 0) ∨
    (symB g r s = false ∧ s.kind = 1 ∧ s.set ≠ 0) ∨ (symB g r s = false ∧ s.kind = 1 ∧ s.set = 0 ∧ inB g s.sort = false) ∨ (symB g r s = false ∧ s.kind = 1 ∧ s.set = 0 ∧ inB g s.sort = true ∧ r = 11) ∨
    (symB g r s = true ∧ s.kind = 1 ∧ s.set = 0 ∧ inB g s.sort = true ∧ ¬ r = 11) ∨ (symB g r s = false ∧ ¬ s.kind = 0 ∧ ¬ s.kind = 1) := by
  unfold symB
  by_cases h0 : s.kind = 0
  · by_cases h1 : s.set = 0 <;> by_cases h2 : s.sort = 0 <;> simp [h0, h1, h2]
  · by_cases h1 : s.kind = 1
    · by_cases h2 : s.set = 0 <;> by_cases h3 : r = 11 <;> cases inB g s.sort <;> simp [h1, h2, h3]
    · simp [h0, h1]
set_option maxRecDepth 100000 in
set_option maxHeartbeats 16000000 in
theorem prods_any (D : Nat → Prop) (g : Gr) (hpm : g.prods.length ≤ 2000000) (hg : ∀ p ∈ g.prods, p.right.length ≤ 2000000 ∧ p.cons.length ≤ 2000000 ∧ ∀ s ∈ p.right, s.set < 2 ^ 256) (w : World) (sa : Option Addr) (sn sc : Nat) (hsn : sn = g.sorts.length) (hsn2 : g.sorts.length ≤ 2000000) (pv fv lv : Value) (hs : ProdsAt D w pv g.prods) (hpl : ∃ pa pc, pv = .slice pa g.prods.length pc) :
    Calls Tryz.prog 38 #[.agg #[.slice sa sn sc, pv, .int .i64 g.start, fv, lv]] w fun e w' => e = .returned (.bool (prodsB g)) ∧ Below w.heap.size w w' := by
  obtain ⟨pa, pc, rfl⟩ := hpl
  have hmf : ∀ (fn : Fn) (first cap : Array Value) (w : World), (Instr.makeFunc fn first cap).run Tryz.prog w = .ok (.func fn first cap) w := fun _ _ _ _ => rfl
  have HK := Lib.hid (And.intro hs (And.intro hg hsn))
  clear hs hg hsn
  go_enter Tryz.func38, Tryz.ntmps38
  go_wp2_with fail
  have hB1 : Blk (w.alloc (.cells #[.slice sa sn sc, .slice pa g.prods.length pc, .int .i64 g.start, fv, lv] 39)) w.heap.size 39 #[.slice sa sn sc, .slice pa g.prods.length pc, .int .i64 g.start, fv, lv] := Blk.new _ _ _
  have hb1 : Below w.heap.size w (w.alloc (.cells #[.slice sa sn sc, .slice pa g.prods.length pc, .int .i64 g.start, fv, lv] 39)) := (Below.refl _ w).alloc (Nat.le_refl _) _
  generalize (w.alloc (.cells #[.slice sa sn sc, .slice pa g.prods.length pc, .int .i64 g.start, fv, lv] 39)) = W1 at hB1 hb1 ⊢
  have H1 := Lib.hid (And.intro hB1 hb1)
  clear hB1 hb1
  go_loopg [12] g.prods.length (fun m v12 wr => ∃ (i : Nat), i ≤ g.prods.length ∧ m = g.prods.length - i ∧ v12 = .int .i64 i ∧ Below w.heap.size w wr ∧ Blk wr w.heap.size 39 #[.slice sa sn sc, .slice pa g.prods.length pc, .int .i64 g.start, fv, lv] ∧ ∀ p ∈ g.prods.take i, prodB g p = true)
  case atStart => exact ⟨0, by omega, rfl, rfl, H1.out.2, H1.out.1, by simp⟩
  case round =>
    obtain ⟨i, hi, hm, rfl, hb, hB, hdone⟩ := hrel
    have q0 := hB.cell 0
    have q1 := hB.cell 1
    simp at q0 q1
    by_cases hlt : i < g.prods.length
    · obtain ⟨p, hp⟩ : ∃ p, g.prods[i]? = some p := ⟨_, List.getElem?_eq_getElem hlt⟩
      obtain ⟨cap, b, o, vr, epv, hbl, hvr, hpc⟩ := HK.out.1.at_ hp
      injection epv with e1 e2 e3
      subst e1
      subst e3
      obtain ⟨ra, rc, rfl, hrc1, hrc2, hrk⟩ := hvr
      have hpm2 := List.mem_of_getElem? hp
      have hok := HK.out.2.1 p hpm2
      have up : ∀ {i : Nat} {u : Value}, w.cell? ⟨b, i, none⟩ = some u → wr.cell? ⟨b, i, none⟩ = some u := fun h => (World.cell?_of_block (hb.block b hbl)).trans h
      have f0 := up (hpc 0 _ rfl)
      have f1 := up (hpc 1 _ rfl)
      have f2 := up (hpc 2 _ rfl)
      have f3 := up (hpc 3 _ rfl)
      have f4 := up (hpc 4 _ rfl)
      have f5 := up (hpc 5 _ rfl)
      have f6 := up (hpc 6 _ rfl)
      simp only [Nat.add_zero] at f0
      have hi0 : (0 : Int) ≤ (i : Int) := by omega
      have hi1 : (i : Int) < (g.prods.length : Int) := by omega
      have HR := Lib.hid (And.intro hm (And.intro hb (And.intro hB (And.intro hrk (And.intro hok (And.intro hdone (And.intro hp hpm2)))))))
      have hrl2 := hok.1
      have hcl2 := hok.2.1
      clear hm hb hB hpc up hrk hp hok hdone hpm2
      go_upto_region 5 with fail
      have hP : Blk (wr.alloc (.cells #[.int .i64 p.left, .slice ra p.right.length rc, .string ⟨p.cons.toArray⟩, .int .i64 p.role, .bool p.prefer, .bool p.avoid, .int .i64 p.made] 34)) wr.heap.size 34 #[.int .i64 p.left, .slice ra p.right.length rc, .string ⟨p.cons.toArray⟩, .int .i64 p.role, .bool p.prefer, .bool p.avoid, .int .i64 p.made] := Blk.new _ _ _
      have hb3 : Below wr.heap.size wr (wr.alloc (.cells #[.int .i64 p.left, .slice ra p.right.length rc, .string ⟨p.cons.toArray⟩, .int .i64 p.role, .bool p.prefer, .bool p.avoid, .int .i64 p.made] 34)) := (Below.refl _ wr).alloc (Nat.le_refl _) _
      generalize (wr.alloc (.cells #[.int .i64 p.left, .slice ra p.right.length rc, .string ⟨p.cons.toArray⟩, .int .i64 p.role, .bool p.prefer, .bool p.avoid, .int .i64 p.made] 34)) = w3 at hP hb3 ⊢
      have hG3 := HR.out.2.2.1.below hb3 HR.out.2.2.1.lt
      have g0 := hG3.cell 0
      simp at g0
      have x0 := hP.cell 0
      have x1 := hP.cell 1
      have x2 := hP.cell 2
      have x3 := hP.cell 3
      have x4 := hP.cell 4
      have x5 := hP.cell 5
      have x6 := hP.cell 6
      simp at x0 x1 x2 x3 x4 x5 x6
      have HQ := Lib.hid (And.intro hP (And.intro hb3 hG3))
      clear hP hb3 hG3 f0 f1 f2 f3 f4 f5 f6 q0 q1
      go_cut [65] from 13 to 65 (fun s65 wx => s65 = .bool (!headB g p) ∧ wx = w3)
      case first =>
        rcases head_arms g p with ⟨hh, hin⟩ | ⟨hh, hin, o1⟩ | ⟨hh, hin, o1, o2⟩ | ⟨hh, hin, o1, o2, o3⟩ | ⟨hh, hin, o1, o2, o3, o4⟩ | ⟨hh, hin, o1, o2, o3, o4, o5⟩ | ⟨hh, hin, o1, o2, o3, o4, o5, o6, o7⟩ | ⟨hh, hin, o1, o2, o3, o4, o5, o6, o7, o8⟩ | ⟨hh, hin, o1, o2, o3, o4, o5, o6, o7, o8⟩ | ⟨hh, hin, o1, o2, o3, o4, o5, o6, o7⟩ | ⟨hh, hin, o1, o2, o3, o4, o5, o6, o7, o8⟩ | ⟨hh, hin, o1, o2, o3, o4, o5, o6, o7⟩ | ⟨hh, hin, o1, o2, o3, o4, o5, o6, o7, o8⟩
        all_goals (
        unfold inB at hin
        rw [← HK.out.2.2] at hin
        have HH := Lib.hid (And.intro hh hin)
        clear hh hin
        go_wp2_with fail
        refine (sortIn_any w3 _ sa sn sc g0 p.left _ HH.out.2).mono ?_
        rintro e w4 ⟨rfl, rfl⟩
        go_wp2_with fail
        all_goals (go_meet; exact ⟨by rw [HH.out.1]; rfl, rfl⟩))
      case rest =>
        obtain ⟨rfl, rfl⟩ := hcut
        obtain ⟨pb, hpb⟩ : ∃ pb, wr.heap.size = pb := ⟨_, rfl⟩
        have hbw3 := HR.out.2.1.trans (HQ.out.2.1.mono HR.out.2.1.size)
        rw [hpb] at HQ x0 x1 x3 ⊢
        clear x2 x4 x5 x6
        cases hhd : headB g p with
        | false =>
          have HV := Lib.hid (And.intro (prodsB_no HR.out.2.2.2.2.2.2.2 (prodB_head hhd)) hbw3)
          clear hbw3 hhd
          go_wp2_with fail
          go_ret
          exact ⟨by rw [HV.out.1]; rfl, HV.out.2⟩
        | true =>
        have HHd := Lib.hid hhd
        clear hhd
        go_wp2_with fail
        rename_i K8 hK8 hcc8
        have HK8 := Lib.hid hK8
        clear hK8
        go_loopg [69] p.right.length (fun m v69 wx => ∃ (k : Nat), k ≤ p.right.length ∧ m = p.right.length - k ∧ v69 = .int .i64 k ∧ Below w.heap.size w wx ∧ Blk wx w.heap.size 39 #[.slice sa sn sc, .slice (some ⟨b, o, none⟩) g.prods.length pc, .int .i64 g.start, fv, lv] ∧ (∃ y4 y5 y6 y2, Blk wx pb 34 #[.int .i64 p.left, .slice ra p.right.length rc, y2, .int .i64 p.role, y4, y5, y6]) ∧ ∀ s ∈ p.right.take k, symB g p.role s = true)
        case atStart => exact ⟨0, by omega, rfl, rfl, hbw3, HQ.out.2.2, ⟨_, _, _, _, HQ.out.1⟩, by simp⟩
        case round =>
          obtain ⟨k, hk, hm, rfl, hb, hB, ⟨y4, y5, y6, y2, hP⟩, hsd⟩ := hrel
          have g0 := hB.cell 0
          have x3 := hP.cell 3
          simp at g0 x3
          by_cases hkl : k < p.right.length
          · obtain ⟨sy, hsy⟩ : ∃ sy, p.right[k]? = some sy := ⟨_, List.getElem?_eq_getElem hkl⟩
            obtain ⟨kg, ko, rfl, hkD, hkr⟩ := HR.out.2.2.2.1 (by rintro h; rw [h] at hkl; simp at hkl)
            have up : ∀ {i : Nat} {u : Value}, w.cell? ⟨kg, i, none⟩ = some u → wr.cell? ⟨kg, i, none⟩ = some u := fun h => (World.cell?_of_block (hb.block kg hkr.lt)).trans h
            have c0 := up (hkr.cells k _ hsy 0 _ rfl)
            have c1 := up (hkr.cells k _ hsy 1 _ rfl)
            have c2 := up (hkr.cells k _ hsy 2 _ rfl)
            have c3 := up (hkr.cells k _ hsy 3 _ rfl)
            have c4 := up (hkr.cells k _ hsy 4 _ rfl)
            have c5 := up (hkr.cells k _ hsy 5 _ rfl)
            simp only [Nat.add_zero] at c0
            have hk0 : (0 : Int) ≤ (k : Int) := by omega
            have hk1 : (k : Int) < (p.right.length : Int) := by omega
            have hsm := List.mem_of_getElem? hsy
            have hs256 := HR.out.2.2.2.2.1.2.2 sy hsm
            have hnext : symB g p.role sy = true → ∀ s ∈ p.right.take (k + 1), symB g p.role s = true := fun h s hs => by
              rw [List.take_add_one, hsy] at hs
              rcases List.mem_append.1 hs with hs | hs
              · exact hsd s hs
              · simp at hs; subst hs; exact h
            have hno : symB g p.role sy = false → prodsB g = false := fun h => prodsB_no HR.out.2.2.2.2.2.2.2 (prodB_sym hsm h)
            have HS := Lib.hid (And.intro hm (And.intro hb (And.intro hB (And.intro hP (And.intro hnext hno)))))
            clear hm hb hB hP up hkr hsy hsd hnext hno hsm
            have hbW : ∀ blk, Below w.heap.size w (wr.alloc blk) := fun blk => HS.out.2.1.trans (((Below.refl wr.heap.size wr).alloc (Nat.le_refl _) blk).mono HS.out.2.1.size)
            have HbW := Lib.hid hbW
            clear hbW
            have hw0 : wd 0 0 = 0 ∧ wd 0 1 = 0 ∧ wd 0 2 = 0 ∧ wd 0 3 = 0 := by simp [wd]
            rcases sym_arms g p.role sy with ⟨hh, s1, s2⟩ | ⟨hh, s1, s2, s3⟩ | ⟨hh, s1, s2, s3⟩ | ⟨hh, s1, s2⟩ | ⟨hh, s1, s2, s3⟩ | ⟨hh, s1, s2, s3, s4⟩ | ⟨hh, s1, s2, s3, s4⟩ | ⟨hh, s1, s2⟩
            · have HV := Lib.hid (HS.out.2.2.2.2.2 hh)
              clear hh
              rw [s1] at c0
              rw [s2] at c1 c2 c3 c4
              rw [hw0.1] at c1
              rw [hw0.2.1] at c2
              rw [hw0.2.2.1] at c3
              rw [hw0.2.2.2] at c4
              go_wp2_with fail
              go_ret
              exact ⟨by rw [HV.out]; rfl, HbW.out _⟩
            · have HV := Lib.hid (HS.out.2.2.2.2.2 hh)
              have hz : ¬ (wd sy.set 0 = 0 ∧ wd sy.set 1 = 0 ∧ wd sy.set 2 = 0 ∧ wd sy.set 3 = 0) := fun h => s2 ((wd_zero_iff _ hs256).1 h)
              clear hh
              rw [s1] at c0
              go_wp2_with fail
              go_ret
              exact ⟨by rw [HV.out]; rfl, HbW.out _⟩
            · have HV := Lib.hid (HS.out.2.2.2.2.1 hh)
              have hz : ¬ (wd sy.set 0 = 0 ∧ wd sy.set 1 = 0 ∧ wd sy.set 2 = 0 ∧ wd sy.set 3 = 0) := fun h => s2 ((wd_zero_iff _ hs256).1 h)
              clear hh
              rw [s1] at c0
              rw [s3] at c5
              go_wp2_with fail
              go_roundg (p.right.length - (k + 1))
              case measure => have := HS.out.1; omega
              case rel => exact ⟨k + 1, by omega, rfl, rfl, HbW.out _, HS.out.2.2.1.alloc _, ⟨_, _, _, _, HS.out.2.2.2.1.alloc _⟩, HV.out⟩
            · have HV := Lib.hid (HS.out.2.2.2.2.2 hh)
              have hz : ¬ (wd sy.set 0 = 0 ∧ wd sy.set 1 = 0 ∧ wd sy.set 2 = 0 ∧ wd sy.set 3 = 0) := fun h => s2 ((wd_zero_iff _ hs256).1 h)
              clear hh
              rw [s1] at c0
              go_wp2_with fail
              go_ret
              exact ⟨by rw [HV.out]; rfl, HbW.out _⟩
            · have HV := Lib.hid (HS.out.2.2.2.2.2 hh)
              unfold inB at s3
              rw [← HK.out.2.2] at s3
              have HV3 := Lib.hid s3
              clear hh s3
              rw [s1] at c0
              rw [s2] at c1 c2 c3 c4
              rw [hw0.1] at c1
              rw [hw0.2.1] at c2
              rw [hw0.2.2.1] at c3
              rw [hw0.2.2.2] at c4
              go_wp2_with fail
              refine (sortIn_any _ _ sa sn sc (cell_alloc_ g0 _) sy.sort _ HV3.out).mono ?_
              rintro e w5 ⟨rfl, rfl⟩
              go_wp2_with fail
              go_ret
              exact ⟨by rw [HV.out]; rfl, HbW.out _⟩
            · have HV := Lib.hid (HS.out.2.2.2.2.2 hh)
              unfold inB at s3
              rw [← HK.out.2.2] at s3
              have HV3 := Lib.hid s3
              clear hh s3
              rw [s1] at c0
              rw [s2] at c1 c2 c3 c4
              rw [hw0.1] at c1
              rw [hw0.2.1] at c2
              rw [hw0.2.2.1] at c3
              rw [hw0.2.2.2] at c4
              go_wp2_with fail
              have x3a := cell_alloc_ x3 (.cells #[.int .i64 1, .int .u64 0, .int .u64 0, .int .u64 0, .int .u64 0, .int .i64 sy.sort] 28)
              refine (sortIn_any _ _ sa sn sc (cell_alloc_ g0 _) sy.sort _ HV3.out).mono ?_
              rintro e w5 ⟨rfl, rfl⟩
              go_wp2_with fail
              go_ret
              exact ⟨by rw [HV.out]; rfl, HbW.out _⟩
            · have HV := Lib.hid (HS.out.2.2.2.2.1 hh)
              unfold inB at s3
              rw [← HK.out.2.2] at s3
              have HV3 := Lib.hid s3
              clear hh s3
              rw [s1] at c0
              rw [s2] at c1 c2 c3 c4
              rw [hw0.1] at c1
              rw [hw0.2.1] at c2
              rw [hw0.2.2.1] at c3
              rw [hw0.2.2.2] at c4
              go_wp2_with fail
              have x3a := cell_alloc_ x3 (.cells #[.int .i64 1, .int .u64 0, .int .u64 0, .int .u64 0, .int .u64 0, .int .i64 sy.sort] 28)
              refine (sortIn_any _ _ sa sn sc (cell_alloc_ g0 _) sy.sort _ HV3.out).mono ?_
              rintro e w5 ⟨rfl, rfl⟩
              go_wp2_with fail
              go_roundg (p.right.length - (k + 1))
              case measure => have := HS.out.1; omega
              case rel => exact ⟨k + 1, by omega, rfl, rfl, HbW.out _, HS.out.2.2.1.alloc _, ⟨_, _, _, _, HS.out.2.2.2.1.alloc _⟩, HV.out⟩
            · have HV := Lib.hid (HS.out.2.2.2.2.2 hh)
              clear hh
              go_wp2_with fail
              go_ret
              exact ⟨by rw [HV.out]; rfl, HbW.out _⟩
          · obtain rfl : k = p.right.length := by omega
            rw [List.take_length] at hsd
            have hpb2 : prodB g p = true := by
              unfold prodB
              rw [HHd.out, List.all_eq_true.2 hsd]
              rfl
            have HS := Lib.hid (And.intro hm (And.intro hb (And.intro hB (And.intro hP hpb2))))
            clear hm hb hB hP hsd hpb2
            go_wp2_with fail
            refine HK8.out _ _ ?_
            go_wp2_with fail
            go_roundg (g.prods.length - (i + 1))
            case measure => have := HR.out.1; omega
            case rel =>
              refine ⟨i + 1, by omega, rfl, rfl, HS.out.2.1, HS.out.2.2.1, fun q hq => ?_⟩
              rw [List.take_add_one, HR.out.2.2.2.2.2.2.1] at hq
              rcases List.mem_append.1 hq with hq | hq
              · exact HR.out.2.2.2.2.2.1 q hq
              · simp at hq; subst hq; exact HS.out.2.2.2.2
    · obtain rfl : i = g.prods.length := by omega
      rw [List.take_length] at hdone
      have hv : prodsB g = decide ((g.prods.length : Int) ≤ 1000) := by
        unfold prodsB
        rw [List.all_eq_true.2 hdone]
        simp
      have HR := Lib.hid (And.intro hb (And.intro hB hv))
      clear hb hB hdone hv
      go_wp2_with fail
      go_ret
      exact ⟨by rw [HR.out.2.2]; rfl, HR.out.1⟩
end Go.Proofs.YtknpkndiflodbaaGreatDoor.Tb
