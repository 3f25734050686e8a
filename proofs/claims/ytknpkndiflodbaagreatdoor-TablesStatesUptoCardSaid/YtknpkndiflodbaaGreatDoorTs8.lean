/- Walks and plain laws that the last text stands on: TbChkP, TbChkF, SortL, SortRow. -/
import Derived.Test.YtknpkndiflodbaaGreatDoorTs7
import Derived.Shelf.SlSortCmp.NoneTotal
import Derived.Ground.SlsfProg
import Derived.Shelf.Sort.Plain
import Derived.Test.YtknpkndiflodbaaGreatDoorProg
import Derived.Shelf.SlSortCmp.WholeK
import Derived.Test.YtknpkndiflodbaaGreatDoorTs2
set_option linter.unusedVariables false
set_option linter.unusedSimpArgs false
set_option maxRecDepth 100000
set_option maxHeartbeats 16000000
namespace Go.Proofs.YtknpkndiflodbaaGreatDoor.Tb
open Go Go.RowKit Go.Proofs Go.Maps Mx
attribute [local go_sem] eqSet
def inB (g : Gr) (s : Int) : Bool := decide (0 <= s /\ s < g.sorts.length)
def headB (g : Gr) (p : Pr) : Bool := inB g p.left && !decide (30 < (p.right.length : Int)) && !decide (p.role < 0) && !decide (11 < p.role) && !decide (p.made < -1) && !decide (64 < (p.cons.length : Int)) && !(!p.cons.isEmpty && !decide (p.role = 0)) && !(p.prefer && p.avoid)
def symB (g : Gr) (r : Int) (s : Sy) : Bool :=
 if s.kind = 0 then !decide (s.set = 0) && decide (s.sort = 0) else if s.kind = 1 then decide (s.set = 0) && inB g s.sort && !decide (r = 11) else false
def prodB (g : Gr) (p : Pr) : Bool := headB g p && p.right.all (symB g p.role)
def prodsB (g : Gr) : Bool := g.prods.all (prodB g) && decide ((g.prods.length : Int) <= 1000)
theorem prodsB_no {g : Gr} {p : Pr} (h : p ∈ g.prods) (hb : prodB g p = false) : prodsB g = false := by
 unfold prodsB
 cases h2 : g.prods.all (prodB g) with
 | false => rfl
 | true => rw [List.all_eq_true.1 h2 p h] at hb; exact absurd hb (by simp)
theorem prodB_head {g : Gr} {p : Pr} (hb : headB g p = false) : prodB g p = false := by unfold prodB; rw [hb]; rfl
theorem prodB_sym {g : Gr} {p : Pr} {s : Sy} (hs : s ∈ p.right) (hb : symB g p.role s = false) : prodB g p = false := by
 unfold prodB
 cases h2 : p.right.all (symB g p.role) with
 | false => simp
 | true => rw [List.all_eq_true.1 h2 s hs] at hb; exact absurd hb (by simp)
theorem sortIn_any (w : World) (b : Nat) (sa : Option Addr) (n c : Nat) (h : w.cell? ⟨b, 0, none⟩ = some (.slice sa n c)) (s : Int) (r : Bool) (hr : decide (0 <= s /\ s < (n : Int)) = r) :
  Calls Tryz.prog 72 #[.int .i64 s, .pointer (some ⟨b, 0, none⟩)] w fun e w' => e = .returned (.bool r) /\ w' = w := by
 by_cases h0 : 0 <= s
 ·by_cases h1 : s < (n : Int)
  ·have hv : r = true := by rw [<- hr]; simp; omega
   clear hr
   go_enter Tryz.func72, Tryz.ntmps72
   go_wp2_with fail
   go_ret
   exact ⟨by rw [hv]; rfl, rfl⟩
  ·have hv : r = false := by rw [<- hr]; simp; omega
   have hd : decide (s < (n : Int)) = false := decide_eq_false h1
   clear hr h1
   go_enter Tryz.func72, Tryz.ntmps72
   go_wp2_with fail
   go_ret
   exact ⟨by rw [hv]; rfl, rfl⟩
 ·have hv : r = false := by rw [<- hr]; simp; omega
  have hd : decide (0 <= s) = false := decide_eq_false h0
  clear hr h0
  go_enter Tryz.func72, Tryz.ntmps72
  go_wp2_with fail
  go_ret
  exact ⟨by rw [hv]; rfl, rfl⟩
theorem head_arms (g : Gr) (p : Pr) :
  (headB g p = false /\ inB g p.left = false) ∨ (headB g p = false /\ inB g p.left = true /\ decide (30 < (p.right.length : Int)) = true) ∨
  (headB g p = false /\ inB g p.left = true /\ decide (30 < (p.right.length : Int)) = false /\ decide (p.role < 0) = true) ∨
  (headB g p = false /\ inB g p.left = true /\ decide (30 < (p.right.length : Int)) = false /\ decide (p.role < 0) = false /\ decide (11 < p.role) = true) ∨
  (headB g p = false /\ inB g p.left = true /\ decide (30 < (p.right.length : Int)) = false /\ decide (p.role < 0) = false /\ decide (11 < p.role) = false /\ decide (p.made < -1) = true) ∨
  (headB g p = false /\ inB g p.left = true /\ decide (30 < (p.right.length : Int)) = false /\ decide (p.role < 0) = false /\ decide (11 < p.role) = false /\ decide (p.made < -1) = false /\ decide (64 < (p.cons.length : Int)) = true) ∨
  (headB g p = false /\ inB g p.left = true /\ decide (30 < (p.right.length : Int)) = false /\ decide (p.role < 0) = false /\ decide (11 < p.role) = false /\ decide (p.made < -1) = false /\ decide (64 < (p.cons.length : Int)) = false /\ p.cons ≠ [] /\ ¬ p.role = 0) ∨
  (headB g p = false /\ inB g p.left = true /\ decide (30 < (p.right.length : Int)) = false /\ decide (p.role < 0) = false /\ decide (11 < p.role) = false /\ decide (p.made < -1) = false /\ decide (64 < (p.cons.length : Int)) = false /\ p.cons = [] /\ p.prefer = true /\ p.avoid = true) ∨
  (headB g p = false /\ inB g p.left = true /\ decide (30 < (p.right.length : Int)) = false /\ decide (p.role < 0) = false /\ decide (11 < p.role) = false /\ decide (p.made < -1) = false /\ decide (64 < (p.cons.length : Int)) = false /\ p.role = 0 /\ p.prefer = true /\ p.avoid = true) ∨
  (headB g p = true /\ inB g p.left = true /\ decide (30 < (p.right.length : Int)) = false /\ decide (p.role < 0) = false /\ decide (11 < p.role) = false /\ decide (p.made < -1) = false /\ decide (64 < (p.cons.length : Int)) = false /\ p.cons = [] /\ p.prefer = false) ∨
  (headB g p = true /\ inB g p.left = true /\ decide (30 < (p.right.length : Int)) = false /\ decide (p.role < 0) = false /\ decide (11 < p.role) = false /\ decide (p.made < -1) = false /\ decide (64 < (p.cons.length : Int)) = false /\ p.cons = [] /\ p.prefer = true /\ p.avoid = false) ∨
  (headB g p = true /\ inB g p.left = true /\ decide (30 < (p.right.length : Int)) = false /\ decide (p.role < 0) = false /\ decide (11 < p.role) = false /\ decide (p.made < -1) = false /\ decide (64 < (p.cons.length : Int)) = false /\ p.role = 0 /\ p.prefer = false) ∨
  (headB g p = true /\ inB g p.left = true /\ decide (30 < (p.right.length : Int)) = false /\ decide (p.role < 0) = false /\ decide (11 < p.role) = false /\ decide (p.made < -1) = false /\ decide (64 < (p.cons.length : Int)) = false /\ p.role = 0 /\ p.prefer = true /\ p.avoid = false) := by
 unfold headB
 have hc : p.cons.isEmpty = decide (p.cons = []) := by cases p.cons <;> simp
 rw [hc]
 have h1 : ∀ c : Prop, ∀ _ : Decidable c, (decide c = false) ↔ ¬ c := fun c _ => decide_eq_false_iff_not
 cases inB g p.left <;> simp only [true_and, false_and, and_true, and_false, or_false, false_or, Bool.false_and, Bool.true_and, Bool.false_eq_true, reduceCtorEq]
 cases decide (30 < (p.right.length : Int)) <;> simp only [true_and, false_and, and_true, and_false, or_false, false_or, Bool.false_and, Bool.true_and, Bool.not_true, Bool.not_false, Bool.false_eq_true, reduceCtorEq]
 cases decide (p.role < 0) <;> simp only [true_and, false_and, and_true, and_false, or_false, false_or, Bool.false_and, Bool.true_and, Bool.not_true, Bool.not_false, Bool.false_eq_true, reduceCtorEq]
 cases decide (11 < p.role) <;> simp only [true_and, false_and, and_true, and_false, or_false, false_or, Bool.false_and, Bool.true_and, Bool.not_true, Bool.not_false, Bool.false_eq_true, reduceCtorEq]
 cases decide (p.made < -1) <;> simp only [true_and, false_and, and_true, and_false, or_false, false_or, Bool.false_and, Bool.true_and, Bool.not_true, Bool.not_false, Bool.false_eq_true, reduceCtorEq]
 cases decide (64 < (p.cons.length : Int)) <;> simp only [true_and, false_and, and_true, and_false, or_false, false_or, Bool.false_and, Bool.true_and, Bool.not_true, Bool.not_false, Bool.false_eq_true, reduceCtorEq]
 by_cases hcc : p.cons = [] <;> by_cases hr : p.role = 0 <;> cases p.prefer <;> cases p.avoid <;> simp [hcc, hr]
theorem sym_arms (g : Gr) (r : Int) (s : Sy) :
  (symB g r s = false /\ s.kind = 0 /\ s.set = 0) ∨ (symB g r s = false /\ s.kind = 0 /\ s.set ≠ 0 /\ ¬ s.sort = 0) ∨ (symB g r s = true /\ s.kind = 0 /\ s.set ≠ 0 /\ s.sort = 0) ∨
  (symB g r s = false /\ s.kind = 1 /\ s.set ≠ 0) ∨ (symB g r s = false /\ s.kind = 1 /\ s.set = 0 /\ inB g s.sort = false) ∨ (symB g r s = false /\ s.kind = 1 /\ s.set = 0 /\ inB g s.sort = true /\ r = 11) ∨
  (symB g r s = true /\ s.kind = 1 /\ s.set = 0 /\ inB g s.sort = true /\ ¬ r = 11) ∨ (symB g r s = false /\ ¬ s.kind = 0 /\ ¬ s.kind = 1) := by
 unfold symB
 by_cases h0 : s.kind = 0
 ·by_cases h1 : s.set = 0 <;> by_cases h2 : s.sort = 0 <;> simp [h0, h1, h2]
 ·by_cases h1 : s.kind = 1
  ·by_cases h2 : s.set = 0 <;> by_cases h3 : r = 11 <;> cases inB g s.sort <;> simp [h1, h2, h3]
  ·simp [h0, h1]
theorem prods_any (D : Nat -> Prop) (g : Gr) (hpm : g.prods.length <= 2000000) (hg : ∀ p ∈ g.prods, p.right.length <= 2000000 /\ p.cons.length <= 2000000 /\ ∀ s ∈ p.right, s.set < 2 ^ 256) (w : World) (sa : Option Addr) (sn sc : Nat) (hsn : sn = g.sorts.length) (hsn2 : g.sorts.length <= 2000000) (pv fv lv : Value) (hs : ProdsAt D w pv g.prods) (hpl : ∃ pa pc, pv = .slice pa g.prods.length pc) :
  Calls Tryz.prog 38 #[.agg #[.slice sa sn sc, pv, .int .i64 g.start, fv, lv]] w fun e w' => e = .returned (.bool (prodsB g)) /\ Below w.heap.size w w' := by
 obtain ⟨pa, pc, rfl⟩ := hpl
 have hmf : ∀ (fn : Fn) (first cap : Array Value) (w : World), (Instr.makeFunc fn first cap).run Tryz.prog w = .ok (.func fn first cap) w := fun _ _ _ _ => rfl
 have HK := Hd (An hs (An hg hsn))
 clear hs hg hsn
 go_enter Tryz.func38, Tryz.ntmps38
 go_wp2_with fail
 have hB1 : Blk (w.alloc (.cells #[.slice sa sn sc, .slice pa g.prods.length pc, .int .i64 g.start, fv, lv] 39)) w.heap.size 39 #[.slice sa sn sc, .slice pa g.prods.length pc, .int .i64 g.start, fv, lv] := Blk.new _ _ _
 have hb1 : Below w.heap.size w (w.alloc (.cells #[.slice sa sn sc, .slice pa g.prods.length pc, .int .i64 g.start, fv, lv] 39)) := (Below.refl _ w).alloc (Nat.le_refl _) _
 generalize (w.alloc (.cells #[.slice sa sn sc, .slice pa g.prods.length pc, .int .i64 g.start, fv, lv] 39)) = W1 at hB1 hb1 ⊢
 have H1 := Hd (An hB1 hb1)
 clear hB1 hb1
 go_loopg [12] g.prods.length (fun m v12 wr => ∃ (i : Nat), i <= g.prods.length /\ m = g.prods.length - i /\ v12 = .int .i64 i /\ Below w.heap.size w wr /\ Blk wr w.heap.size 39 #[.slice sa sn sc, .slice pa g.prods.length pc, .int .i64 g.start, fv, lv] /\ ∀ p ∈ g.prods.take i, prodB g p = true)
 case atStart => exact ⟨0, by omega, rfl, rfl, H1.out.2, H1.out.1, by simp⟩
 case round =>
  obtain ⟨i, hi, hm, rfl, hb, hB, hdone⟩ := hrel
  have q0 := hB.cell 0
  have q1 := hB.cell 1
  simp at q0 q1
  by_cases hlt : i < g.prods.length
  ·obtain ⟨p, hp⟩ : ∃ p, g.prods[i]? = some p := ⟨_, List.getElem?_eq_getElem hlt⟩
   obtain ⟨cap, b, o, vr, epv, hbl, hvr, hpc⟩ := HK.out.1.at_ hp
   injection epv with e1 e2 e3
   subst e1
   subst e3
   obtain ⟨ra, rc, rfl, hrc1, hrc2, hrk⟩ := hvr
   have hpm2 := List.mem_of_getElem? hp
   have hok := HK.out.2.1 p hpm2
   have up : ∀ {i : Nat} {u : Value}, w.cell? ⟨b, i, none⟩ = some u -> wr.cell? ⟨b, i, none⟩ = some u := fun h => (World.cell?_of_block (hb.block b hbl)).trans h
   have f0 := up (hpc 0 _ rfl)
   have f1 := up (hpc 1 _ rfl)
   have f2 := up (hpc 2 _ rfl)
   have f3 := up (hpc 3 _ rfl)
   have f4 := up (hpc 4 _ rfl)
   have f5 := up (hpc 5 _ rfl)
   have f6 := up (hpc 6 _ rfl)
   simp only [Nat.add_zero] at f0
   have hi0 : (0 : Int) <= (i : Int) := by omega
   have hi1 : (i : Int) < (g.prods.length : Int) := by omega
   have HR := Hd (An hm (An hb (An hB (An hrk (An hok (An hdone (An hp hpm2)))))))
   have hrl2 := hok.1
   have hcl2 := hok.2.1
   clear hm hb hB hpc up hrk hp hok hdone hpm2
   go_upto_region 5 with fail
   have hP : Blk (wr.alloc (.cells #[.int .i64 p.left, .slice ra p.right.length rc, .string ⟨p.cons.toArray⟩, .int .i64 p.role, .bool p.prefer, .bool p.avoid, .int .i64 p.made] 34)) wr.heap.size 34 #[.int .i64 p.left, .slice ra p.right.length rc, .string ⟨p.cons.toArray⟩, .int .i64 p.role, .bool p.prefer, .bool p.avoid, .int .i64 p.made] := Blk.new _ _ _
   have hb3 : Below wr.heap.size wr (wr.alloc (.cells #[.int .i64 p.left, .slice ra p.right.length rc, .string ⟨p.cons.toArray⟩, .int .i64 p.role, .bool p.prefer, .bool p.avoid, .int .i64 p.made] 34)) := (Below.refl _ wr).alloc (Nat.le_refl _) _
   generalize (wr.alloc (.cells #[.int .i64 p.left, .slice ra p.right.length rc, .string ⟨p.cons.toArray⟩, .int .i64 p.role, .bool p.prefer, .bool p.avoid, .int .i64 p.made] 34)) = w3 at hP hb3 ⊢
   have hG3 := HR.out.2.2.1.below hb3 HR.out.2.2.1.lt
   have g0 := hG3.cell 0
   simp at g0
   have x0 := hP.cell 0
   have x1 := hP.cell 1
   have x2 := hP.cell 2
   have x3 := hP.cell 3
   have x4 := hP.cell 4
   have x5 := hP.cell 5
   have x6 := hP.cell 6
   simp at x0 x1 x2 x3 x4 x5 x6
   have HQ := Hd (An hP (An hb3 hG3))
   clear hP hb3 hG3 f0 f1 f2 f3 f4 f5 f6 q0 q1
   go_cut [65] from 13 to 65 (fun s65 wx => s65 = .bool (!headB g p) /\ wx = w3)
   case first =>
    rcases head_arms g p with ⟨hh, hin⟩ | ⟨hh, hin, o1⟩ | ⟨hh, hin, o1, o2⟩ | ⟨hh, hin, o1, o2, o3⟩ | ⟨hh, hin, o1, o2, o3, o4⟩ | ⟨hh, hin, o1, o2, o3, o4, o5⟩ | ⟨hh, hin, o1, o2, o3, o4, o5, o6, o7⟩ | ⟨hh, hin, o1, o2, o3, o4, o5, o6, o7, o8⟩ | ⟨hh, hin, o1, o2, o3, o4, o5, o6, o7, o8⟩ | ⟨hh, hin, o1, o2, o3, o4, o5, o6, o7⟩ | ⟨hh, hin, o1, o2, o3, o4, o5, o6, o7, o8⟩ | ⟨hh, hin, o1, o2, o3, o4, o5, o6, o7⟩ | ⟨hh, hin, o1, o2, o3, o4, o5, o6, o7, o8⟩
    all_goals (
    unfold inB at hin
    rw [<- HK.out.2.2] at hin
    have HH := Hd (An hh hin)
    clear hh hin
    go_wp2_with fail
    refine (sortIn_any w3 _ sa sn sc g0 p.left _ HH.out.2).mono ?_
    rintro e w4 ⟨rfl, rfl⟩
    go_wp2_with fail
    all_goals (go_meet; exact ⟨by rw [HH.out.1]; rfl, rfl⟩))
   case rest =>
    obtain ⟨rfl, rfl⟩ := hcut
    obtain ⟨pb, hpb⟩ : ∃ pb, wr.heap.size = pb := ⟨_, rfl⟩
    have hbw3 := HR.out.2.1.trans (HQ.out.2.1.mono HR.out.2.1.size)
    rw [hpb] at HQ x0 x1 x3 ⊢
    clear x2 x4 x5 x6
    cases hhd : headB g p with
    | false =>
     have HV := Hd (An (prodsB_no HR.out.2.2.2.2.2.2.2 (prodB_head hhd)) hbw3)
     clear hbw3 hhd
     go_wp2_with fail
     go_ret
     exact ⟨by rw [HV.out.1]; rfl, HV.out.2⟩
    | true =>
    have HHd := Hd hhd
    clear hhd
    go_wp2_with fail
    rename_i K8 hK8 hcc8
    have HK8 := Hd hK8
    clear hK8
    go_loopg [69] p.right.length (fun m v69 wx => ∃ (k : Nat), k <= p.right.length /\ m = p.right.length - k /\ v69 = .int .i64 k /\ Below w.heap.size w wx /\ Blk wx w.heap.size 39 #[.slice sa sn sc, .slice (some ⟨b, o, none⟩) g.prods.length pc, .int .i64 g.start, fv, lv] /\ (∃ y4 y5 y6 y2, Blk wx pb 34 #[.int .i64 p.left, .slice ra p.right.length rc, y2, .int .i64 p.role, y4, y5, y6]) /\ ∀ s ∈ p.right.take k, symB g p.role s = true)
    case atStart => exact ⟨0, by omega, rfl, rfl, hbw3, HQ.out.2.2, ⟨_, _, _, _, HQ.out.1⟩, by simp⟩
    case round =>
     obtain ⟨k, hk, hm, rfl, hb, hB, ⟨y4, y5, y6, y2, hP⟩, hsd⟩ := hrel
     have g0 := hB.cell 0
     have x3 := hP.cell 3
     simp at g0 x3
     by_cases hkl : k < p.right.length
     ·obtain ⟨sy, hsy⟩ : ∃ sy, p.right[k]? = some sy := ⟨_, List.getElem?_eq_getElem hkl⟩
      obtain ⟨kg, ko, rfl, hkD, hkr⟩ := HR.out.2.2.2.1 (by rintro h; rw [h] at hkl; simp at hkl)
      have up : ∀ {i : Nat} {u : Value}, w.cell? ⟨kg, i, none⟩ = some u -> wr.cell? ⟨kg, i, none⟩ = some u := fun h => (World.cell?_of_block (hb.block kg hkr.lt)).trans h
      have c0 := up (hkr.cells k _ hsy 0 _ rfl)
      have c1 := up (hkr.cells k _ hsy 1 _ rfl)
      have c2 := up (hkr.cells k _ hsy 2 _ rfl)
      have c3 := up (hkr.cells k _ hsy 3 _ rfl)
      have c4 := up (hkr.cells k _ hsy 4 _ rfl)
      have c5 := up (hkr.cells k _ hsy 5 _ rfl)
      simp only [Nat.add_zero] at c0
      have hk0 : (0 : Int) <= (k : Int) := by omega
      have hk1 : (k : Int) < (p.right.length : Int) := by omega
      have hsm := List.mem_of_getElem? hsy
      have hs256 := HR.out.2.2.2.2.1.2.2 sy hsm
      have hnext : symB g p.role sy = true -> ∀ s ∈ p.right.take (k + 1), symB g p.role s = true := fun h s hs => by
       rw [List.take_add_one, hsy] at hs
       rcases List.mem_append.1 hs with hs | hs
       ·exact hsd s hs
       ·simp at hs; subst hs; exact h
      have hno : symB g p.role sy = false -> prodsB g = false := fun h => prodsB_no HR.out.2.2.2.2.2.2.2 (prodB_sym hsm h)
      have HS := Hd (An hm (An hb (An hB (An hP (An hnext hno)))))
      clear hm hb hB hP up hkr hsy hsd hnext hno hsm
      have hbW : ∀ blk, Below w.heap.size w (wr.alloc blk) := fun blk => HS.out.2.1.trans (((Below.refl wr.heap.size wr).alloc (Nat.le_refl _) blk).mono HS.out.2.1.size)
      have HbW := Hd hbW
      clear hbW
      have hw0 : wd 0 0 = 0 /\ wd 0 1 = 0 /\ wd 0 2 = 0 /\ wd 0 3 = 0 := by simp [wd]
      rcases sym_arms g p.role sy with ⟨hh, s1, s2⟩ | ⟨hh, s1, s2, s3⟩ | ⟨hh, s1, s2, s3⟩ | ⟨hh, s1, s2⟩ | ⟨hh, s1, s2, s3⟩ | ⟨hh, s1, s2, s3, s4⟩ | ⟨hh, s1, s2, s3, s4⟩ | ⟨hh, s1, s2⟩
      ·have HV := Hd (HS.out.2.2.2.2.2 hh)
       clear hh
       rw [s1] at c0
       rw [s2] at c1 c2 c3 c4
       rw [hw0.1] at c1
       rw [hw0.2.1] at c2
       rw [hw0.2.2.1] at c3
       rw [hw0.2.2.2] at c4
       go_wp2_with fail
       go_ret
       exact ⟨by rw [HV.out]; rfl, HbW.out _⟩
      ·have HV := Hd (HS.out.2.2.2.2.2 hh)
       have hz : ¬ (wd sy.set 0 = 0 /\ wd sy.set 1 = 0 /\ wd sy.set 2 = 0 /\ wd sy.set 3 = 0) := fun h => s2 ((wd_zero_iff _ hs256).1 h)
       clear hh
       rw [s1] at c0
       go_wp2_with fail
       go_ret
       exact ⟨by rw [HV.out]; rfl, HbW.out _⟩
      ·have HV := Hd (HS.out.2.2.2.2.1 hh)
       have hz : ¬ (wd sy.set 0 = 0 /\ wd sy.set 1 = 0 /\ wd sy.set 2 = 0 /\ wd sy.set 3 = 0) := fun h => s2 ((wd_zero_iff _ hs256).1 h)
       clear hh
       rw [s1] at c0
       rw [s3] at c5
       go_wp2_with fail
       go_roundg (p.right.length - (k + 1))
       case measure => have := HS.out.1; omega
       case rel => exact ⟨k + 1, by omega, rfl, rfl, HbW.out _, HS.out.2.2.1.alloc _, ⟨_, _, _, _, HS.out.2.2.2.1.alloc _⟩, HV.out⟩
      ·have HV := Hd (HS.out.2.2.2.2.2 hh)
       have hz : ¬ (wd sy.set 0 = 0 /\ wd sy.set 1 = 0 /\ wd sy.set 2 = 0 /\ wd sy.set 3 = 0) := fun h => s2 ((wd_zero_iff _ hs256).1 h)
       clear hh
       rw [s1] at c0
       go_wp2_with fail
       go_ret
       exact ⟨by rw [HV.out]; rfl, HbW.out _⟩
      ·have HV := Hd (HS.out.2.2.2.2.2 hh)
       unfold inB at s3
       rw [<- HK.out.2.2] at s3
       have HV3 := Hd s3
       clear hh s3
       rw [s1] at c0
       rw [s2] at c1 c2 c3 c4
       rw [hw0.1] at c1
       rw [hw0.2.1] at c2
       rw [hw0.2.2.1] at c3
       rw [hw0.2.2.2] at c4
       go_wp2_with fail
       refine (sortIn_any _ _ sa sn sc (cell_alloc_ g0 _) sy.sort _ HV3.out).mono ?_
       rintro e w5 ⟨rfl, rfl⟩
       go_wp2_with fail
       go_ret
       exact ⟨by rw [HV.out]; rfl, HbW.out _⟩
      ·have HV := Hd (HS.out.2.2.2.2.2 hh)
       unfold inB at s3
       rw [<- HK.out.2.2] at s3
       have HV3 := Hd s3
       clear hh s3
       rw [s1] at c0
       rw [s2] at c1 c2 c3 c4
       rw [hw0.1] at c1
       rw [hw0.2.1] at c2
       rw [hw0.2.2.1] at c3
       rw [hw0.2.2.2] at c4
       go_wp2_with fail
       have x3a := cell_alloc_ x3 (.cells #[.int .i64 1, .int .u64 0, .int .u64 0, .int .u64 0, .int .u64 0, .int .i64 sy.sort] 28)
       refine (sortIn_any _ _ sa sn sc (cell_alloc_ g0 _) sy.sort _ HV3.out).mono ?_
       rintro e w5 ⟨rfl, rfl⟩
       go_wp2_with fail
       go_ret
       exact ⟨by rw [HV.out]; rfl, HbW.out _⟩
      ·have HV := Hd (HS.out.2.2.2.2.1 hh)
       unfold inB at s3
       rw [<- HK.out.2.2] at s3
       have HV3 := Hd s3
       clear hh s3
       rw [s1] at c0
       rw [s2] at c1 c2 c3 c4
       rw [hw0.1] at c1
       rw [hw0.2.1] at c2
       rw [hw0.2.2.1] at c3
       rw [hw0.2.2.2] at c4
       go_wp2_with fail
       have x3a := cell_alloc_ x3 (.cells #[.int .i64 1, .int .u64 0, .int .u64 0, .int .u64 0, .int .u64 0, .int .i64 sy.sort] 28)
       refine (sortIn_any _ _ sa sn sc (cell_alloc_ g0 _) sy.sort _ HV3.out).mono ?_
       rintro e w5 ⟨rfl, rfl⟩
       go_wp2_with fail
       go_roundg (p.right.length - (k + 1))
       case measure => have := HS.out.1; omega
       case rel => exact ⟨k + 1, by omega, rfl, rfl, HbW.out _, HS.out.2.2.1.alloc _, ⟨_, _, _, _, HS.out.2.2.2.1.alloc _⟩, HV.out⟩
      ·have HV := Hd (HS.out.2.2.2.2.2 hh)
       clear hh
       go_wp2_with fail
       go_ret
       exact ⟨by rw [HV.out]; rfl, HbW.out _⟩
     ·obtain rfl : k = p.right.length := by omega
      rw [List.take_length] at hsd
      have hpb2 : prodB g p = true := by
       unfold prodB
       rw [HHd.out, List.all_eq_true.2 hsd]
       rfl
      have HS := Hd (An hm (An hb (An hB (An hP hpb2))))
      clear hm hb hB hP hsd hpb2
      go_wp2_with fail
      refine HK8.out _ _ ?_
      go_wp2_with fail
      go_roundg (g.prods.length - (i + 1))
      case measure => have := HR.out.1; omega
      case rel =>
       refine ⟨i + 1, by omega, rfl, rfl, HS.out.2.1, HS.out.2.2.1, fun q hq => ?_⟩
       rw [List.take_add_one, HR.out.2.2.2.2.2.2.1] at hq
       rcases List.mem_append.1 hq with hq | hq
       ·exact HR.out.2.2.2.2.2.1 q hq
       ·simp at hq; subst hq; exact HS.out.2.2.2.2
  ·obtain rfl : i = g.prods.length := by omega
   rw [List.take_length] at hdone
   have hv : prodsB g = decide ((g.prods.length : Int) <= 1000) := by
    unfold prodsB
    rw [List.all_eq_true.2 hdone]
    simp
   have HR := Hd (An hb (An hB hv))
   clear hb hB hdone hv
   go_wp2_with fail
   go_ret
   exact ⟨by rw [HR.out.2.2]; rfl, HR.out.1⟩
end Go.Proofs.YtknpkndiflodbaaGreatDoor.Tb
namespace Go.Proofs.YtknpkndiflodbaaGreatDoor.Tb
open Go Go.RowKit Go.Proofs Go.Maps Mx
attribute [local go_sem] eqSet
def followsB (g : Gr) : Bool := decide (g.follow.map (·.1)).Nodup && g.follow.all (fun f => inB g f.1 && !decide (f.2 = 0))
theorem followsB_no {g : Gr} {f : Int × Nat} (hm : f ∈ g.follow) (h : inB g f.1 = false ∨ f.2 = 0) : followsB g = false := by
 unfold followsB
 cases h2 : g.follow.all (fun f => inB g f.1 && !decide (f.2 = 0)) with
 | false => simp
 | true =>
  have h1 := List.all_eq_true.1 h2 f hm
  rcases h with h | h
  ·rw [h] at h1; exact absurd h1 (by simp)
  ·rw [h] at h1; exact absurd h1 (by simp)
theorem nodup_again {α : Type} [DecidableEq α] {l : List α} {i : Nat} {x : α} (hx : l[i]? = some x) (h : x ∈ l.take i) : ¬ l.Nodup := fun hn => by
 obtain ⟨hi, e2⟩ := List.getElem?_eq_some_iff.1 hx
 obtain ⟨j, hj, e⟩ := List.getElem_of_mem h
 have hji : j < i := by rw [List.length_take] at hj; omega
 rw [List.getElem_take] at e
 have h1 := List.pairwise_iff_getElem.1 hn j i (by omega) hi hji
 rw [e, e2] at h1
 exact h1 rfl
theorem i64_lit {s : Int} (h : I64 s) : (Lit.int .i64 s).wf = true := by
 unfold I64 at h
 simp [Lit.wf, IntKind.min, IntKind.max, IntKind.bits, IntKind.signed]
 omega
theorem follows_any (D : Nat -> Prop) (g : Gr) (hN : g.follow.length <= 2000000) (hsl : g.sorts.length <= 2000000) (hF : ∀ f ∈ g.follow, FoOk f) (w : World) (sa : Option Addr) (sn sc : Nat) (hsn : sn = g.sorts.length) (pv fv lv : Value) (hs : SliceK D encFo 5 w lv g.follow) :
  Calls Tryz.prog 40 #[.agg #[.slice sa sn sc, pv, .int .i64 g.start, fv, lv]] w fun e w' => e = .returned (.bool (followsB g)) /\ Below w.heap.size w w' := by
 obtain ⟨a, c, rfl, hc1, hc2, hk⟩ := hs
 have hmm := @run_makeMap Tryz.prog
 have HK := Hd (An hk (An hF hsn))
 clear hk hF hsn
 go_enter Tryz.func40, Tryz.ntmps40
 go_wp2_with fail
 have hB1 : Blk ((w.alloc (.cells #[.slice sa sn sc, pv, .int .i64 g.start, fv, .slice a g.follow.length c] 39)).alloc (.map #[] 0)) w.heap.size 39 #[.slice sa sn sc, pv, .int .i64 g.start, fv, .slice a g.follow.length c] := (Blk.new _ _ _).alloc _
 have hM1 : MapV Tryz.prog 3 ((w.alloc (.cells #[.slice sa sn sc, pv, .int .i64 g.start, fv, .slice a g.follow.length c] 39)).alloc (.map #[] 0)) (w.heap.size + 1) 0 (fun _ => none) := by
  have := MapV.made (w.alloc (.cells #[.slice sa sn sc, pv, .int .i64 g.start, fv, .slice a g.follow.length c] 39)) Tryz.prog 3
  simpa using this
 have hb1 : Below w.heap.size w ((w.alloc (.cells #[.slice sa sn sc, pv, .int .i64 g.start, fv, .slice a g.follow.length c] 39)).alloc (.map #[] 0)) := ((Below.refl _ w).alloc (Nat.le_refl _) _).alloc (by simp) _
 have hz1 : w.heap.size + 2 <= ((w.alloc (.cells #[.slice sa sn sc, pv, .int .i64 g.start, fv, .slice a g.follow.length c] 39)).alloc (.map #[] 0)).heap.size := by simp
 generalize (w.alloc (.cells #[.slice sa sn sc, pv, .int .i64 g.start, fv, .slice a g.follow.length c] 39)).alloc (.map #[] 0) = W1 at hB1 hM1 hb1 hz1 ⊢
 have H1 := Hd (An hB1 (An hM1 (An hb1 hz1)))
 clear hB1 hM1 hb1 hz1
 go_loopg [10] g.follow.length (fun m v10 wr => ∃ (i : Nat) (f : Lit -> Option Value), i <= g.follow.length /\ m = g.follow.length - i /\ v10 = .int .i64 i /\ MapV Tryz.prog 3 wr (w.heap.size + 1) i f /\
  (∀ s, f (.int .i64 s) = if s ∈ (g.follow.map (·.1)).take i then some (.int .i64 1) else none) /\ Below w.heap.size w wr /\ w.heap.size + 2 <= wr.heap.size /\ Blk wr w.heap.size 39 #[.slice sa sn sc, pv, .int .i64 g.start, fv, .slice a g.follow.length c] /\ ((g.follow.map (·.1)).take i).Nodup /\ ∀ s ∈ g.follow.take i, (inB g s.1 && !decide (s.2 = 0)) = true)
 case atStart => exact ⟨0, _, by omega, rfl, rfl, H1.out.2.1, (fun s => by simp), H1.out.2.2.1, H1.out.2.2.2, H1.out.1, by simp, by simp⟩
 case round =>
  obtain ⟨i, f, hi, hm, rfl, hM, hf, hb, hz, hB, hnd, heach⟩ := hrel
  have q0 := hB.cell 0
  have q4 := hB.cell 4
  simp at q0 q4
  by_cases hlt : i < g.follow.length
  ·obtain ⟨⟨s, M⟩, hsi⟩ : ∃ s, g.follow[i]? = some s := ⟨_, List.getElem?_eq_getElem hlt⟩
   obtain ⟨kg, ko, rfl, hkD, hkr⟩ := HK.out.1 (by rintro h; rw [h] at hlt; simp at hlt)
   have up : ∀ {i : Nat} {u : Value}, w.cell? ⟨kg, i, none⟩ = some u -> wr.cell? ⟨kg, i, none⟩ = some u := fun h => (World.cell?_of_block (hb.block kg hkr.lt)).trans h
   have k0 := up (hkr.cells i _ hsi 0 _ rfl)
   have k1 := up (hkr.cells i _ hsi 1 _ rfl)
   have k2 := up (hkr.cells i _ hsi 2 _ rfl)
   have k3 := up (hkr.cells i _ hsi 3 _ rfl)
   have k4 := up (hkr.cells i _ hsi 4 _ rfl)
   simp only [Nat.add_zero] at k0
   have hmem := List.mem_of_getElem? hsi
   obtain ⟨hs64, hM256⟩ := HK.out.2.1 _ hmem
   have hsi1 : (g.follow.map (·.1))[i]? = some s := by rw [List.getElem?_map, hsi]; rfl
   have hkey : keyOf Tryz.prog 3 (.int .i64 s) = some (.int .i64 s) := keyOf_int_mk Tryz.underlying3 (i64_lit hs64)
   obtain ⟨cn, hcn⟩ : ∃ cn : Nat, (if s ∈ (g.follow.map (·.1)).take i then some (Value.int .i64 1) else none).getD (.int .i64 0) = .int .i64 (cn : Int) /\ (cn = 0 ∨ cn = 1) /\ (cn = 0 ↔ s ∉ (g.follow.map (·.1)).take i) := by
    by_cases h : s ∈ (g.follow.map (·.1)).take i
    ·exact ⟨1, by rw [if_pos h]; rfl, .inr rfl, by simp [h]⟩
    ·exact ⟨0, by rw [if_neg h]; rfl, .inl rfl, by simp [h]⟩
   obtain ⟨hcv, hc01, hcm⟩ := hcn
   have hlk : (Instr.lookup 148 (.map (some (w.heap.size + 1))) (.int .i64 s) false).run Tryz.prog (wr.alloc (.cells #[.int .i64 s, .int .u64 (wd M 0), .int .u64 (wd M 1), .int .u64 (wd M 2), .int .u64 (wd M 3)] 150)) = .ok (.int .i64 (cn : Int)) (wr.alloc (.cells #[.int .i64 s, .int .u64 (wd M 0), .int .u64 (wd M 1), .int .u64 (wd M 2), .int .u64 (wd M 3)] 150)) := by
    have h1 := (hM.alloc (.cells #[.int .i64 s, .int .u64 (wd M 0), .int .u64 (wd M 1), .int .u64 (wd M 2), .int .u64 (wd M 3)] 150)).lookup (int_keyed Tryz.underlying3) Tryz.underlying148 (Tryz.zeroValue3 _) hkey
    rw [hf, hcv] at h1
    exact h1
   have hi0 : (0 : Int) <= (i : Int) := by omega
   have hi1 : (i : Int) < (g.follow.length : Int) := by omega
   have hmx : i < maxLen := by unfold maxLen; omega
   have hcn0 : (0 : Int) <= (cn : Int) := by omega
   have hcn1 : (cn : Int) <= 1 := by omega
   have hwz : wr.heap.size ≠ w.heap.size + 1 := by omega
   have hwz0 : w.heap.size < wr.heap.size := by omega
   have HMv := Hd (hM.alloc (.cells #[.int .i64 s, .int .u64 (wd M 0), .int .u64 (wd M 1), .int .u64 (wd M 2), .int .u64 (wd M 3)] 150))
   have hXn : Blk (wr.alloc (.cells #[.int .i64 s, .int .u64 (wd M 0), .int .u64 (wd M 1), .int .u64 (wd M 2), .int .u64 (wd M 3)] 150)) wr.heap.size 150 #[.int .i64 s, .int .u64 (wd M 0), .int .u64 (wd M 1), .int .u64 (wd M 2), .int .u64 (wd M 3)] := Blk.new _ _ _
   have hsz1 := hb.size
   have hbW := hb.trans (((Below.refl wr.heap.size wr).alloc (Nat.le_refl _) (.cells #[.int .i64 s, .int .u64 (wd M 0), .int .u64 (wd M 1), .int .u64 (wd M 2), .int .u64 (wd M 3)] 150)).mono hb.size)
   have hBW := hB.alloc (.cells #[.int .i64 s, .int .u64 (wd M 0), .int .u64 (wd M 1), .int .u64 (wd M 2), .int .u64 (wd M 3)] 150)
   have hzW : w.heap.size + 2 <= (wr.alloc (.cells #[.int .i64 s, .int .u64 (wd M 0), .int .u64 (wd M 1), .int .u64 (wd M 2), .int .u64 (wd M 3)] 150)).heap.size := by simp; omega
   have hno : inB g s = false ∨ M = 0 -> followsB g = false := fun h => followsB_no hmem h
   have hno2 : s ∈ (g.follow.map (·.1)).take i -> followsB g = false := fun h => by
    unfold followsB
    rw [decide_eq_false (nodup_again hsi1 h)]
    rfl
   have HR := Hd (An hm (An hf (An hbW (An hBW (An hsi (An hcm (An hnd (An heach (An hno (An hno2 (An hsi1 (An hXn hzW))))))))))))
   clear hm hf hb hB hsi hcv hcm hM hkr q0 hnd heach hno hno2 hsi1 hXn hmem hs64 hbW hBW hzW up
   go_wp2_with (at_mapUpdate; refine wpList_mapUpdateV _ rfl _ _ _ 148 rfl 3 3 (int_keyed Tryz.underlying3) Tryz.underlying148 (w.heap.size + 1) i f rfl ?_ hmx _ _ _ rfl rfl hkey ?_; exact HMv.out)
   intro w5 hm5 hg5
   have hlk5 : (Instr.lookup 148 (.map (some (w.heap.size + 1))) (.int .i64 s) false).run Tryz.prog w5 = .ok (.int .i64 ((cn : Int) + 1)) w5 := by
    have h1 := hm5.lookup (int_keyed Tryz.underlying3) Tryz.underlying148 (Tryz.zeroValue3 w5) hkey
    rw [putV_int, if_pos rfl] at h1
    exact h1
   have hb5 : Below w.heap.size w w5 := HR.out.2.2.1.trans (below_of_grown hg5 HR.out.2.2.1.size (Nat.le_succ _))
   have hB5 := HR.out.2.2.2.1.grown hg5 (by simp)
   have hX5 := HR.out.2.2.2.2.2.2.2.2.2.2.2.1.grown hg5 (by intro e; injection e with e; exact hwz e)
   have g0 := hB5.cell 0
   have x0 := hX5.cell 0
   have x1 := hX5.cell 1
   have x2 := hX5.cell 2
   have x3 := hX5.cell 3
   have x4 := hX5.cell 4
   simp at g0 x0 x1 x2 x3 x4
   have hz5 : w.heap.size + 2 <= w5.heap.size := by have h1 := HR.out.2.2.2.2.2.2.2.2.2.2.2.2; have h2 := hg5.size; omega
   have HS := Hd (An hm5 (An hb5 (An hB5 hz5)))
   clear hm5 hb5 hB5 hg5 hlk hX5 hz5
   by_cases hcz : cn = 0
   ·subst hcz
    have hnm := HR.out.2.2.2.2.2.1.1 rfl
    by_cases c1 : s < 0
    ·have HV := Hd (HR.out.2.2.2.2.2.2.2.2.1 (.inl (decide_eq_false (by omega))))
     clear hnm
     go_wp2_with fail
     go_ret
     exact ⟨by rw [HV.out]; rfl, HS.out.2.1⟩
    ·by_cases c2 : (sn : Int) <= s
     ·have HV := Hd (HR.out.2.2.2.2.2.2.2.2.1 (.inl (decide_eq_false (by rw [<- HK.out.2.2]; omega))))
      have d1 : decide (s < 0) = false := decide_eq_false c1
      clear hnm c1
      go_wp2_with fail
      go_ret
      exact ⟨by rw [HV.out]; rfl, HS.out.2.1⟩
     ·have d1 : decide (s < 0) = false := decide_eq_false c1
      have d2 : decide ((sn : Int) <= s) = false := decide_eq_false c2
      by_cases c3 : M = 0
      ·have HV := Hd (HR.out.2.2.2.2.2.2.2.2.1 (.inr c3))
       subst c3
       have hw0 : wd 0 0 = 0 /\ wd 0 1 = 0 /\ wd 0 2 = 0 /\ wd 0 3 = 0 := by simp [wd]
       rw [hw0.1] at x1
       rw [hw0.2.1] at x2
       rw [hw0.2.2.1] at x3
       rw [hw0.2.2.2] at x4
       clear hnm c1 c2
       go_wp2_with fail
       go_ret
       exact ⟨by rw [HV.out]; rfl, HS.out.2.1⟩
      ·have hz : ¬ (wd M 0 = 0 /\ wd M 1 = 0 /\ wd M 2 = 0 /\ wd M 3 = 0) := fun h => c3 ((wd_zero_iff _ hM256).1 h)
       have hin : inB g s = true := decide_eq_true (by rw [<- HK.out.2.2]; omega)
       have HD := Hd (An hnm (An hin c3))
       clear hnm hin c1 c2 c3
       go_wp2_with fail
       go_roundg (g.follow.length - (i + 1))
       case measure => have := HR.out.1; omega
       case rel =>
        have htk : (g.follow.map (·.1)).take (i + 1) = (g.follow.map (·.1)).take i ++ [s] := by rw [List.take_add_one, HR.out.2.2.2.2.2.2.2.2.2.2.1]; rfl
        refine ⟨i + 1, _, by omega, rfl, rfl, HS.out.1, fun t => ?_, HS.out.2.1, HS.out.2.2.2, HS.out.2.2.1, ?_, fun t ht => ?_⟩
        ·rw [putV_int, htk]
         by_cases e : t = s
         ·rw [if_pos e, if_pos (by simp [e])]; rfl
         ·rw [if_neg e, HR.out.2.1]
          by_cases e2 : t ∈ (g.follow.map (·.1)).take i
          ·rw [if_pos e2, if_pos (List.mem_append_left _ e2)]
          ·rw [if_neg e2, if_neg (fun h => (List.mem_append.1 h).elim e2 (fun h => e (by simpa using h)))]
        ·rw [htk, List.nodup_append]
         exact ⟨HR.out.2.2.2.2.2.2.1, by simp, fun a ha b hb => by simp at hb; subst hb; exact fun e => HD.out.1 (e ▸ ha)⟩
        ·rw [List.take_add_one, HR.out.2.2.2.2.1] at ht
         rcases List.mem_append.1 ht with ht | ht
         ·exact HR.out.2.2.2.2.2.2.2.1 t ht
         ·simp at ht; subst ht
          simp [HD.out.2.1, HD.out.2.2]
   ·have hmem : s ∈ (g.follow.map (·.1)).take i := Classical.byContradiction fun h => hcz (HR.out.2.2.2.2.2.1.2 h)
    have HV := Hd (HR.out.2.2.2.2.2.2.2.2.2.1 hmem)
    have hc1 : cn = 1 := by omega
    subst hc1
    clear hmem
    go_wp2_with fail
    go_ret
    exact ⟨by rw [HV.out]; rfl, HS.out.2.1⟩
  ·obtain rfl : i = g.follow.length := by omega
   rw [show (g.follow.map (·.1)).take g.follow.length = g.follow.map (·.1) from by rw [List.take_of_length_le]; simp] at hnd
   rw [List.take_length] at heach
   have hv : followsB g = true := by
    unfold followsB
    rw [decide_eq_true hnd, List.all_eq_true.2 heach]
    rfl
   have HR := Hd (An hb hv)
   clear hb hB hM hf hm hnd heach hv
   go_wp2_with fail
   go_ret
   exact ⟨by rw [HR.out.2]; rfl, HR.out.1⟩
end Go.Proofs.YtknpkndiflodbaaGreatDoor.Tb
namespace Go.Proofs
open Go.Shelf
def Tryz.sortItems_ren : Go.Shelf.Ren := ⟨fun | 6 => 81 | 15 => 88 | 14 => 95 | 28 => 109 | 29 => 110 | 20 => 114 | 21 => 115 | 22 => 116 | 23 => 117 | 24 => 118 | 25 => 119 | 26 => 120 | 27 => 121 | 46 => 142 | 47 => 128 | 48 => 129 | 49 => 143 | 50 => 144 | 57 => 153 | n => n, fun | 22 => 50 | 24 => 53 | 25 => 163 | 3 => 3 | 39 => 158 | 0 => 0 | 53 => 190 | 55 => 24 | 4 => 4 | 46 => 183 | 45 => 182 | 50 => 65 | 5 => 5 | 9 => 9 | 66 => 206 | 70 => 210 | 76 => 223 | 77 => 224 | n => n, fun | n => n⟩
theorem Tryz.sortItems : Go.Proofs.SlLaysF0.n6 Tryz.prog Tryz.sortItems_ren := {
 mixed := by kernel_rfl
 f6 := ⟨Tryz.f81.name, by decide, Tryz.func81.trans (congrArg some (by kernel_rfl))⟩
 f14 := ⟨Tryz.f95.name, by decide, Tryz.func95.trans (congrArg some (by kernel_rfl))⟩
 f15 := Tryz.func88.trans (congrArg some (by kernel_rfl))
 f20 := ⟨Tryz.f114.name, by decide, Tryz.func114.trans (congrArg some (by kernel_rfl))⟩
 f21 := ⟨Tryz.f115.name, by decide, Tryz.func115.trans (congrArg some (by kernel_rfl))⟩
 f22 := ⟨Tryz.f116.name, by decide, Tryz.func116.trans (congrArg some (by kernel_rfl))⟩
 f23 := ⟨Tryz.f117.name, by decide, Tryz.func117.trans (congrArg some (by kernel_rfl))⟩
 f24 := ⟨Tryz.f118.name, by decide, Tryz.func118.trans (congrArg some (by kernel_rfl))⟩
 f25 := ⟨Tryz.f119.name, by decide, Tryz.func119.trans (congrArg some (by kernel_rfl))⟩
 f26 := ⟨Tryz.f120.name, by decide, Tryz.func120.trans (congrArg some (by kernel_rfl))⟩
 f27 := ⟨Tryz.f121.name, by decide, Tryz.func121.trans (congrArg some (by kernel_rfl))⟩
 f28 := Tryz.func109.trans (congrArg some (by kernel_rfl))
 f29 := Tryz.func110.trans (congrArg some (by kernel_rfl))
 f46 := ⟨Tryz.f142.name, by decide, Tryz.func142.trans (congrArg some (by kernel_rfl))⟩
 f47 := Tryz.func128.trans (congrArg some (by kernel_rfl))
 f48 := Tryz.func129.trans (congrArg some (by kernel_rfl))
 f49 := ⟨Tryz.f143.name, by decide, Tryz.func143.trans (congrArg some (by kernel_rfl))⟩
 f50 := ⟨Tryz.f144.name, by decide, Tryz.func144.trans (congrArg some (by kernel_rfl))⟩
 f57 := ⟨Tryz.f153.name, by decide, Tryz.func153.trans (congrArg some (by kernel_rfl))⟩
 t0 := Tryz.underlying0
 a0 := Tryz.isAgg0
 z0 := Tryz.sizeOf0
 v0 := Tryz.zeroValue0
 t3 := Tryz.underlying3
 a3 := Tryz.isAgg3
 z3 := Tryz.sizeOf3
 v3 := Tryz.zeroValue3
 t4 := Tryz.underlying4
 a4 := Tryz.isAgg4
 z4 := Tryz.sizeOf4
 v4 := Tryz.zeroValue4
 t5 := Tryz.underlying5
 a5 := Tryz.isAgg5
 z5 := Tryz.sizeOf5
 v5 := Tryz.zeroValue5
 t9 := Tryz.underlying9
 a9 := Tryz.isAgg9
 z9 := Tryz.sizeOf9
 v9 := Tryz.zeroValue9
 t22 := Tryz.underlying50
 a22 := Tryz.isAgg50
 z22 := Tryz.sizeOf50
 v22 := Tryz.zeroValue50
 t25 := Tryz.underlying163
 a25 := Tryz.isAgg163
 z25 := Tryz.sizeOf163
 v25 := Tryz.zeroValue163
 t39 := Tryz.underlying158
 a39 := Tryz.isAgg158
 z39 := Tryz.sizeOf158
 v39 := Tryz.zeroValue158
 t45 := Tryz.underlying182
 a45 := Tryz.isAgg182
 z45 := Tryz.sizeOf182
 v45 := Tryz.zeroValue182
 t46 := Tryz.underlying183
 a46 := Tryz.isAgg183
 z46 := Tryz.sizeOf183
 v46 := Tryz.zeroValue183
 t50 := Tryz.underlying65
 a50 := Tryz.isAgg65
 z50 := Tryz.sizeOf65
 v50 := Tryz.zeroValue65
 t53 := Tryz.underlying190
 a53 := Tryz.isAgg190
 z53 := Tryz.sizeOf190
 v53 := Tryz.zeroValue190
 t55 := Tryz.underlying24
 a55 := Tryz.isAgg24
 z55 := Tryz.sizeOf24
 v55 := Tryz.zeroValue24
 t66 := Tryz.underlying206
 a66 := Tryz.isAgg206
 z66 := Tryz.sizeOf206
 v66 := Tryz.zeroValue206
 t70 := Tryz.underlying210
 a70 := Tryz.isAgg210
 z70 := Tryz.sizeOf210
 v70 := Tryz.zeroValue210
 t76 := Tryz.underlying223
 a76 := Tryz.isAgg223
 z76 := Tryz.sizeOf223
 v76 := Tryz.zeroValue223
 t77 := Tryz.underlying224
 a77 := Tryz.isAgg224
 z77 := Tryz.sizeOf224
 v77 := Tryz.zeroValue224 }
def Tryz.sortSets_ren : Go.Shelf.Ren := ⟨fun | 6 => 92 | 15 => 88 | 14 => 112 | 28 => 109 | 29 => 110 | 20 => 132 | 21 => 133 | 22 => 134 | 23 => 135 | 24 => 136 | 25 => 137 | 26 => 138 | 27 => 139 | 46 => 150 | 47 => 128 | 48 => 129 | 49 => 151 | 50 => 152 | 57 => 155 | n => n, fun | 22 => 137 | 24 => 26 | 25 => 174 | 3 => 3 | 39 => 158 | 0 => 0 | 53 => 190 | 55 => 24 | 4 => 4 | 46 => 183 | 45 => 182 | 50 => 65 | 5 => 5 | 9 => 9 | 66 => 206 | 70 => 210 | 76 => 223 | 77 => 224 | n => n, fun | n => n⟩
theorem Tryz.sortSets : Go.Proofs.SlLaysF0.n6 Tryz.prog Tryz.sortSets_ren := {
 mixed := by kernel_rfl
 f6 := ⟨Tryz.f92.name, by decide, Tryz.func92.trans (congrArg some (by kernel_rfl))⟩
 f14 := ⟨Tryz.f112.name, by decide, Tryz.func112.trans (congrArg some (by kernel_rfl))⟩
 f15 := Tryz.func88.trans (congrArg some (by kernel_rfl))
 f20 := ⟨Tryz.f132.name, by decide, Tryz.func132.trans (congrArg some (by kernel_rfl))⟩
 f21 := ⟨Tryz.f133.name, by decide, Tryz.func133.trans (congrArg some (by kernel_rfl))⟩
 f22 := ⟨Tryz.f134.name, by decide, Tryz.func134.trans (congrArg some (by kernel_rfl))⟩
 f23 := ⟨Tryz.f135.name, by decide, Tryz.func135.trans (congrArg some (by kernel_rfl))⟩
 f24 := ⟨Tryz.f136.name, by decide, Tryz.func136.trans (congrArg some (by kernel_rfl))⟩
 f25 := ⟨Tryz.f137.name, by decide, Tryz.func137.trans (congrArg some (by kernel_rfl))⟩
 f26 := ⟨Tryz.f138.name, by decide, Tryz.func138.trans (congrArg some (by kernel_rfl))⟩
 f27 := ⟨Tryz.f139.name, by decide, Tryz.func139.trans (congrArg some (by kernel_rfl))⟩
 f28 := Tryz.func109.trans (congrArg some (by kernel_rfl))
 f29 := Tryz.func110.trans (congrArg some (by kernel_rfl))
 f46 := ⟨Tryz.f150.name, by decide, Tryz.func150.trans (congrArg some (by kernel_rfl))⟩
 f47 := Tryz.func128.trans (congrArg some (by kernel_rfl))
 f48 := Tryz.func129.trans (congrArg some (by kernel_rfl))
 f49 := ⟨Tryz.f151.name, by decide, Tryz.func151.trans (congrArg some (by kernel_rfl))⟩
 f50 := ⟨Tryz.f152.name, by decide, Tryz.func152.trans (congrArg some (by kernel_rfl))⟩
 f57 := ⟨Tryz.f155.name, by decide, Tryz.func155.trans (congrArg some (by kernel_rfl))⟩
 t0 := Tryz.underlying0
 a0 := Tryz.isAgg0
 z0 := Tryz.sizeOf0
 v0 := Tryz.zeroValue0
 t3 := Tryz.underlying3
 a3 := Tryz.isAgg3
 z3 := Tryz.sizeOf3
 v3 := Tryz.zeroValue3
 t4 := Tryz.underlying4
 a4 := Tryz.isAgg4
 z4 := Tryz.sizeOf4
 v4 := Tryz.zeroValue4
 t5 := Tryz.underlying5
 a5 := Tryz.isAgg5
 z5 := Tryz.sizeOf5
 v5 := Tryz.zeroValue5
 t9 := Tryz.underlying9
 a9 := Tryz.isAgg9
 z9 := Tryz.sizeOf9
 v9 := Tryz.zeroValue9
 t22 := Tryz.underlying137
 a22 := Tryz.isAgg137
 z22 := Tryz.sizeOf137
 v22 := Tryz.zeroValue137
 t25 := Tryz.underlying174
 a25 := Tryz.isAgg174
 z25 := Tryz.sizeOf174
 v25 := Tryz.zeroValue174
 t39 := Tryz.underlying158
 a39 := Tryz.isAgg158
 z39 := Tryz.sizeOf158
 v39 := Tryz.zeroValue158
 t45 := Tryz.underlying182
 a45 := Tryz.isAgg182
 z45 := Tryz.sizeOf182
 v45 := Tryz.zeroValue182
 t46 := Tryz.underlying183
 a46 := Tryz.isAgg183
 z46 := Tryz.sizeOf183
 v46 := Tryz.zeroValue183
 t50 := Tryz.underlying65
 a50 := Tryz.isAgg65
 z50 := Tryz.sizeOf65
 v50 := Tryz.zeroValue65
 t53 := Tryz.underlying190
 a53 := Tryz.isAgg190
 z53 := Tryz.sizeOf190
 v53 := Tryz.zeroValue190
 t55 := Tryz.underlying24
 a55 := Tryz.isAgg24
 z55 := Tryz.sizeOf24
 v55 := Tryz.zeroValue24
 t66 := Tryz.underlying206
 a66 := Tryz.isAgg206
 z66 := Tryz.sizeOf206
 v66 := Tryz.zeroValue206
 t70 := Tryz.underlying210
 a70 := Tryz.isAgg210
 z70 := Tryz.sizeOf210
 v70 := Tryz.zeroValue210
 t76 := Tryz.underlying223
 a76 := Tryz.isAgg223
 z76 := Tryz.sizeOf223
 v76 := Tryz.zeroValue223
 t77 := Tryz.underlying224
 a77 := Tryz.isAgg224
 z77 := Tryz.sizeOf224
 v77 := Tryz.zeroValue224 }
def Tryz.lays189_ren : Go.Shelf.Ren := ⟨fun | 189 => 68 | 125 => 88 | 257 => 87 | 128 => 109 | 129 => 110 | 294 => 100 | 295 => 101 | 296 => 102 | 297 => 103 | 298 => 104 | 299 => 105 | 216 => 106 | 300 => 107 | 301 => 108 | 328 => 127 | 329 => 128 | 330 => 129 | 331 => 130 | 332 => 131 | 215 => 122 | 343 => 149 | n => n, fun | 28 => 68 | 3 => 3 | 46 => 158 | 0 => 0 | 51 => 190 | 53 => 24 | 4 => 4 | 183 => 183 | 182 => 182 | 131 => 65 | 5 => 5 | 9 => 9 | 218 => 206 | 222 => 210 | 228 => 223 | 229 => 224 | n => n, fun | n => n⟩
theorem Tryz.lays189 : Go.Proofs.Lays.n189 Tryz.prog Tryz.lays189_ren := {
 mixed := by kernel_rfl
 f125 := Tryz.func88.trans (congrArg some (by kernel_rfl))
 f128 := Tryz.func109.trans (congrArg some (by kernel_rfl))
 f129 := Tryz.func110.trans (congrArg some (by kernel_rfl))
 f189 := Tryz.func68.trans (congrArg some (by kernel_rfl))
 f215 := Tryz.func122.trans (congrArg some (by kernel_rfl))
 f216 := Tryz.func106.trans (congrArg some (by kernel_rfl))
 f257 := Tryz.func87.trans (congrArg some (by kernel_rfl))
 f294 := Tryz.func100.trans (congrArg some (by kernel_rfl))
 f295 := Tryz.func101.trans (congrArg some (by kernel_rfl))
 f296 := Tryz.func102.trans (congrArg some (by kernel_rfl))
 f297 := Tryz.func103.trans (congrArg some (by kernel_rfl))
 f298 := Tryz.func104.trans (congrArg some (by kernel_rfl))
 f299 := Tryz.func105.trans (congrArg some (by kernel_rfl))
 f300 := Tryz.func107.trans (congrArg some (by kernel_rfl))
 f301 := Tryz.func108.trans (congrArg some (by kernel_rfl))
 f328 := Tryz.func127.trans (congrArg some (by kernel_rfl))
 f329 := Tryz.func128.trans (congrArg some (by kernel_rfl))
 f330 := Tryz.func129.trans (congrArg some (by kernel_rfl))
 f331 := Tryz.func130.trans (congrArg some (by kernel_rfl))
 f332 := Tryz.func131.trans (congrArg some (by kernel_rfl))
 f343 := Tryz.func149.trans (congrArg some (by kernel_rfl))
 t0 := Tryz.underlying0
 a0 := Tryz.isAgg0
 z0 := Tryz.sizeOf0
 v0 := Tryz.zeroValue0
 t3 := Tryz.underlying3
 a3 := Tryz.isAgg3
 z3 := Tryz.sizeOf3
 v3 := Tryz.zeroValue3
 t4 := Tryz.underlying4
 a4 := Tryz.isAgg4
 z4 := Tryz.sizeOf4
 v4 := Tryz.zeroValue4
 t5 := Tryz.underlying5
 a5 := Tryz.isAgg5
 z5 := Tryz.sizeOf5
 v5 := Tryz.zeroValue5
 t9 := Tryz.underlying9
 a9 := Tryz.isAgg9
 z9 := Tryz.sizeOf9
 v9 := Tryz.zeroValue9
 t28 := Tryz.underlying68
 a28 := Tryz.isAgg68
 z28 := Tryz.sizeOf68
 v28 := Tryz.zeroValue68
 t46 := Tryz.underlying158
 a46 := Tryz.isAgg158
 z46 := Tryz.sizeOf158
 v46 := Tryz.zeroValue158
 t51 := Tryz.underlying190
 a51 := Tryz.isAgg190
 z51 := Tryz.sizeOf190
 v51 := Tryz.zeroValue190
 t53 := Tryz.underlying24
 a53 := Tryz.isAgg24
 z53 := Tryz.sizeOf24
 v53 := Tryz.zeroValue24
 t131 := Tryz.underlying65
 a131 := Tryz.isAgg65
 z131 := Tryz.sizeOf65
 v131 := Tryz.zeroValue65
 t182 := Tryz.underlying182
 a182 := Tryz.isAgg182
 z182 := Tryz.sizeOf182
 v182 := Tryz.zeroValue182
 t183 := Tryz.underlying183
 a183 := Tryz.isAgg183
 z183 := Tryz.sizeOf183
 v183 := Tryz.zeroValue183
 t218 := Tryz.underlying206
 a218 := Tryz.isAgg206
 z218 := Tryz.sizeOf206
 v218 := Tryz.zeroValue206
 t222 := Tryz.underlying210
 a222 := Tryz.isAgg210
 z222 := Tryz.sizeOf210
 v222 := Tryz.zeroValue210
 t228 := Tryz.underlying223
 a228 := Tryz.isAgg223
 z228 := Tryz.sizeOf223
 v228 := Tryz.zeroValue223
 t229 := Tryz.underlying224
 a229 := Tryz.isAgg224
 z229 := Tryz.sizeOf224
 v229 := Tryz.zeroValue224 }
end Go.Proofs
namespace Go.Proofs.YtknpkndiflodbaaGreatDoor.Mx
open Go Go.RowKit Go.Proofs

section
variable {α : Type} [Inhabited α] {enc : α → List Value} {k : Nat}
theorem flat_get (hk : ∀ x, (enc x).length = k) (hk0 : 0 < k) (d : Array α) (t : Nat) (h : t < d.size * k) : (flatK enc d.toList)[t]? = some ((enc d[t / k]!)[t % k]!) := by
 have h1 : t / k < d.size := Nat.div_lt_of_lt_mul (by rwa [Nat.mul_comm] at h)
 have h2 := Nat.mod_lt t hk0
 have h3 : d.toList[t / k]? = some d[t / k]! := by rw [getElem!_pos d _ h1]; simp [h1]
 have h4 : (enc d[t / k]!)[t % k]? = some ((enc d[t / k]!)[t % k]!) := by
  rw [getElem!_pos (enc d[t / k]!) (t % k) (by rw [hk]; exact h2)]; exact List.getElem?_eq_getElem _
 have := flatK_get hk d.toList (t / k) _ (t % k) _ h3 h4
 rwa [Nat.mul_comm (t / k) k, Nat.div_add_mod] at this
variable {w : World} {B : Nat} {t : TypeId} {g n cap : Nat} {l : List α}
theorem own_holds (hk : ∀ x, (enc x).length = k) (hk0 : 0 < k) (h : w.ownsRow B t k (.slice (some ⟨g, 0, none⟩) n cap) n (flatK enc l)) (hn : n = l.length) : Go.Sort.HoldsK enc k w g 0 l.toArray := by
 intro j hj
 rw [Go.Sort.size_flatK] at hj
 have h1 := flat_get hk hk0 l.toArray j hj
 rw [Nat.zero_add]
 refine ⟨?_, h.frozenAt j⟩
 rw [h.cellAt j (by rw [hn]; simpa using hj), Go.Sort.get_flatK _ _ _ _ hj]
 exact h1
theorem sorted_own (hk : ∀ x, (enc x).length = k) (hk0 : 0 < k) (h : w.ownsRow B t k (.slice (some ⟨g, 0, none⟩) n cap) n (flatK enc l)) (m : Nat) (d : Array α) (hd : d.size = n) (os : Array Obj) :
  (Go.Proofs.sortWorldK enc k w g 0 m d os).ownsRow B t k (.slice (some ⟨g, 0, none⟩) n cap) n (flatK enc d.toList) /\ w.grownBy (Go.Proofs.sortWorldK enc k w g 0 m d os) (some g) := by
 have hg := (h.lt g rfl).2
 obtain ⟨hx, hv⟩ := h
 rcases hv with ⟨e, _⟩ | ⟨g', cap', cur, e, hB, hh, h1, h2, h3, h4⟩
 ·cases e
 injection e with e e2 e3
 injection e with e
 injection e with e
 subst e; subst e3
 have hw : (Go.Proofs.sortWorldK enc k w g 0 m d os).heap = w.heap.modify g (Go.Sort.onCells (Go.Sort.putCells id 0 (Go.Sort.flatK enc k d))) ++ os := rfl
 refine ⟨⟨by rw [flatK_len hk]; simp [hd], .inr ⟨g, cap, Go.Sort.putCells id 0 (Go.Sort.flatK enc k d) cur, rfl, hB, ?_, h1, h2, by simp [Go.Sort.putCells, h3], ?_⟩⟩, rfl, rfl, rfl, ?_, ?_⟩
 ·rw [hw, Array.getElem?_append_left (by simpa using hg), Array.getElem?_modify, if_pos rfl, hh]; rfl
 ·apply List.ext_getElem?
  intro j
  by_cases hj : j < n * k
  ·rw [List.getElem?_take, if_pos hj, flat_get hk hk0 d j (by rw [hd]; exact hj)]
   have hc : j < cur.size := by rw [h3]; exact Nat.lt_of_lt_of_le hj (Nat.mul_le_mul_right k h1)
   unfold Go.Sort.putCells
   rw [Array.getElem?_toList, Array.getElem?_mapIdx, Array.getElem?_eq_getElem hc]
   have hj2 : j < d.size * k := by rw [hd]; exact hj
   have hj3 : j < (Go.Sort.flatK enc k d).size := by simpa using hj2
   rw [<- Go.Sort.get_flatK _ _ _ _ hj2, getElem!_pos _ j hj3]
   simp [hj2]
  ·rw [List.getElem?_take, if_neg hj, List.getElem?_eq_none (by rw [flatK_len hk]; simp [hd]; omega)]
 ·rw [hw]; simp
 ·intro i hi hne
  rw [hw, Array.getElem?_append_left (by simpa using hi), Array.getElem?_modify, if_neg (by rintro rfl; exact hne rfl)]
end
end Go.Proofs.YtknpkndiflodbaaGreatDoor.Mx
