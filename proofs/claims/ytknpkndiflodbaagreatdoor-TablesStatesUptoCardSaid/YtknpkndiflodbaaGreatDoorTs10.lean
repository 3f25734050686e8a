/- Walks and plain laws that the last text stands on: TbVast, TbChkC, TbAhead, TbSplitB. -/
import Derived.Test.YtknpkndiflodbaaGreatDoorTs7
import Derived.Test.YtknpkndiflodbaaGreatDoorTs9
import Derived.Test.YtknpkndiflodbaaGreatDoorTs2
import Derived.Test.YtknpkndiflodbaaGreatDoorTs4
import Derived.Test.YtknpkndiflodbaaGreatDoorTs3
import Derived.BigQuiet
import Derived.Deep.QuietTactic
import Derived.Deep.RegionLaw
import Derived.Deep.RegionHeld3
import Derived.Carry
import Derived.WalkMore
set_option linter.unusedVariables false
set_option linter.unusedSimpArgs false
set_option maxRecDepth 100000
set_option maxHeartbeats 16000000
namespace Go.Proofs.YtknpkndiflodbaaGreatDoor.Tb
open Go Go.RowKit Go.Proofs Go.Maps Mx
def vastB (g : Gr) : Bool :=
 decide (30 < g.sorts.length) || decide (30 < g.prods.length) || decide (200 < g.forbid.length) || decide (200 < g.follow.length) || g.prods.any (fun p => decide (200 < p.cons.length)) || decide (60 < (g.prods.map (·.right.length)).sum)
section
variable {w w' : World} {N : Nat} {g : Gr} {sv pv fv lv : Value}
theorem ProdOk.keep {x : Value × Pr} (h : ProdOk w N x) (hb : Below w.heap.size w w') : ProdOk w' N x := ⟨h.right.all hb, h.len, h.cons, h.sym, h.left, h.role, h.made⟩
theorem GramAt.keep (h : GramAt w N g sv pv fv lv) (hb : Below w.heap.size w w') : GramAt w' N g sv pv fv lv := by
 obtain ⟨l, h1, h2, h3⟩ := h.prods
 exact ⟨h.sorts.all hb, ⟨l, h1.all hb, fun x hx => (h2 x hx).keep hb, h3⟩, h.forbid.all hb, h.follow.all hb, h.nsorts, h.str, h.nprods, h.nforbid, h.nfollow, h.fb, h.fo, h.start⟩
theorem GramAt.prodsAt (h : GramAt w N g sv pv fv lv) : ProdsAt (fun _ => True) w pv g.prods := by
 obtain ⟨l, h1, h2, h3⟩ := h.prods
 exact ⟨l, ⟨h1, fun x hx => (h2 x hx).right⟩, h3⟩
theorem GramAt.ok (h : GramAt w N g sv pv fv lv) : ∀ p ∈ g.prods, p.right.length <= N /\ p.cons.length <= N /\ (∀ s ∈ p.right, SymOk s) /\ I64 p.left /\ I64 p.role /\ I64 p.made := by
 obtain ⟨l, h1, h2, h3⟩ := h.prods
 intro p hp
 rw [<- h3] at hp
 obtain ⟨x, hx, rfl⟩ := List.mem_map.1 hp
 have := h2 x hx
 exact ⟨this.len, this.cons, this.sym, this.left, this.role, this.made⟩
theorem slice_shape {α : Type} {D : Nat -> Prop} {en : α -> List Value} {k : Nat} {v : Value} {l : List α} (h : SliceK D en k w v l) : ∃ a c, v = .slice a l.length c := by
 obtain ⟨a, c, e, _⟩ := h
 exact ⟨a, c, e⟩
theorem prodsAt_shape {D : Nat -> Prop} {ps : List Pr} (h : ProdsAt D w pv ps) : ∃ a c, pv = .slice a ps.length c := by
 obtain ⟨l, hl, e⟩ := h
 obtain ⟨a, c, e1, _⟩ := hl.row
 exact ⟨a, c, by rw [e1, <- e, List.length_map]⟩
end
theorem vast_true {g : Gr} (h : 30 < g.sorts.length ∨ 30 < g.prods.length ∨ 200 < g.forbid.length ∨ 200 < g.follow.length ∨ (∃ p ∈ g.prods, 200 < p.cons.length)) : true = vastB g := by
 unfold vastB
 symm
 simp only [Bool.or_eq_true, decide_eq_true_eq, List.any_eq_true]
 rcases h with h | h | h | h | h
 ·exact .inl (.inl (.inl (.inl (.inl h))))
 ·exact .inl (.inl (.inl (.inl (.inr h))))
 ·exact .inl (.inl (.inl (.inr h)))
 ·exact .inl (.inl (.inr h))
 ·exact .inl (.inr h)
theorem vast_any (g : Gr) (N : Nat) (hN : N <= 2000000) (w : World) (sv pv fv lv : Value) (hG : GramAt w N g sv pv fv lv) :
  Calls Tryz.prog 13 #[.agg #[sv, pv, .int .i64 g.start, fv, lv]] w fun e w' => e = .returned (.bool (vastB g)) /\ Below w.heap.size w w' := by
 obtain ⟨sa, sc, rfl⟩ := slice_shape hG.sorts
 obtain ⟨pa, pc, rfl⟩ := prodsAt_shape hG.prodsAt
 obtain ⟨fa, fc, rfl⟩ := slice_shape hG.forbid
 obtain ⟨la, lc, rfl⟩ := slice_shape hG.follow
 have n1 := hG.nsorts
 have n2 := hG.nprods
 have n3 := hG.nforbid
 have n4 := hG.nfollow
 have H := Hd (An hG.prodsAt hG.ok)
 clear hG
 go_enter Tryz.func13, Tryz.ntmps13
 have hbl := (Below.refl w.heap.size w).alloc (Nat.le_refl _) (.cells #[.slice sa g.sorts.length sc, .slice pa g.prods.length pc, .int .i64 g.start, .slice fa g.forbid.length fc, .slice la g.follow.length lc] 39)
 have HB := Hd hbl
 by_cases c1 : 30 < g.sorts.length
 ·have d1 : (30 : Int) < (g.sorts.length : Int) := by omega
  have HV := Hd (vast_true (.inl c1))
  clear c1 hbl
  go_wp2_with fail
  go_ret
  exact ⟨ret_bool HV.out, HB.out⟩
 have d1 : ¬ (30 : Int) < (g.sorts.length : Int) := by omega
 by_cases c2 : 30 < g.prods.length
 ·have d2 : (30 : Int) < (g.prods.length : Int) := by omega
  have HV := Hd (vast_true (.inr (.inl c2)))
  clear c1 c2 hbl
  go_wp2_with fail
  go_ret
  exact ⟨ret_bool HV.out, HB.out⟩
 have d2 : ¬ (30 : Int) < (g.prods.length : Int) := by omega
 by_cases c3 : 200 < g.forbid.length
 ·have d3 : (200 : Int) < (g.forbid.length : Int) := by omega
  have HV := Hd (vast_true (.inr (.inr (.inl c3))))
  clear c1 c2 c3 hbl
  go_wp2_with fail
  go_ret
  exact ⟨ret_bool HV.out, HB.out⟩
 have d3 : ¬ (200 : Int) < (g.forbid.length : Int) := by omega
 by_cases c4 : 200 < g.follow.length
 ·have d4 : (200 : Int) < (g.follow.length : Int) := by omega
  have HV := Hd (vast_true (.inr (.inr (.inr (.inl c4)))))
  clear c1 c2 c3 c4 hbl
  go_wp2_with fail
  go_ret
  exact ⟨ret_bool HV.out, HB.out⟩
 have d4 : ¬ (200 : Int) < (g.follow.length : Int) := by omega
 have HC := Hd (An c1 (An c3 c4))
 clear c1 c3 c4
 go_wp2_with fail
 clear d1 d2 d3 d4 n1 n3 n4
 have hB1 : Blk (w.alloc (.cells #[.slice sa g.sorts.length sc, .slice pa g.prods.length pc, .int .i64 g.start, .slice fa g.forbid.length fc, .slice la g.follow.length lc] 39)) w.heap.size 39 #[.slice sa g.sorts.length sc, .slice pa g.prods.length pc, .int .i64 g.start, .slice fa g.forbid.length fc, .slice la g.follow.length lc] := Blk.new _ _ _
 generalize (w.alloc (.cells #[.slice sa g.sorts.length sc, .slice pa g.prods.length pc, .int .i64 g.start, .slice fa g.forbid.length fc, .slice la g.follow.length lc] 39)) = W1 at hB1 hbl HB ⊢
 clear hbl
 have q1 := hB1.cell 1
 simp at q1
 have hp30 : g.prods.length <= 30 := by omega
 clear c2
 go_loopg [3, 4] g.prods.length (fun m v3 v4 wr => ∃ i : Nat, i <= g.prods.length /\ m = g.prods.length - i /\ v4 = .int .i64 i /\ v3 = .int .i64 (((g.prods.take i).map (·.right.length)).sum : Nat) /\ ((g.prods.take i).map (·.right.length)).sum <= 2000000 * i /\ (∀ p ∈ g.prods.take i, p.cons.length <= 200) /\ wr = W1)
 case atStart => exact ⟨0, Nat.zero_le _, rfl, rfl, by simp, by simp, by simp, rfl⟩
 case round =>
  obtain ⟨i, hi, hm, rfl, rfl, hsum, hcons, rfl⟩ := hrel
  by_cases hlt : i < g.prods.length
  ·obtain ⟨p, hp⟩ : ∃ p, g.prods[i]? = some p := ⟨_, List.getElem?_eq_getElem hlt⟩
   obtain ⟨cap, b, o, vr, epv, hbl, hvr, hpc⟩ := H.out.1.at_ hp
   injection epv with e1 e2 e3
   subst e1
   subst e3
   obtain ⟨ra, rc, rfl, _, _, _⟩ := hvr
   have f1 := (World.cell?_of_block (HB.out.block b hbl)).trans (hpc 1 _ rfl)
   have f2 := (World.cell?_of_block (HB.out.block b hbl)).trans (hpc 2 _ rfl)
   have hok := H.out.2 p (List.mem_of_getElem? hp)
   have hr := hok.1
   have hcl := hok.2.1
   have hi0 : (0 : Int) <= (i : Int) := by omega
   have hi1 : (i : Int) < (g.prods.length : Int) := by omega
   have hS2 : ((g.prods.take (i + 1)).map (·.right.length)).sum = ((g.prods.take i).map (·.right.length)).sum + p.right.length := by
    rw [List.take_add_one, hp]; simp
   obtain ⟨S, hS⟩ : ∃ S, ((g.prods.take i).map (·.right.length)).sum = S := ⟨_, rfl⟩
   rw [hS] at hS2 hsum ⊢
   have HS := Hd (An hS2 (An hp (An hcons (An hm hS))))
   clear hS2 hS hp hok hpc hcons hm
   by_cases hc : 200 < p.cons.length
   ·have hd : (200 : Int) < (p.cons.length : Int) := by omega
    have HV := Hd (vast_true (.inr (.inr (.inr (.inr ⟨p, List.mem_of_getElem? HS.out.2.1, hc⟩)))))
    clear hc
    go_wp2_with fail
    go_ret
    exact ⟨ret_bool HV.out, HB.out⟩
   ·have hd : ¬ (200 : Int) < (p.cons.length : Int) := by omega
    have HD := Hd hc
    clear hc
    go_wp2_with fail
    go_roundg (g.prods.length - (i + 1))
    case measure => have := HS.out.2.2.2.1; omega
    case rel =>
     refine ⟨i + 1, by omega, rfl, rfl, by rw [HS.out.1]; simp, by rw [HS.out.1]; omega, ?_, rfl⟩
     intro x hx
     rw [List.take_add_one, HS.out.2.1] at hx
     rcases List.mem_append.1 hx with hx | hx
     ·exact HS.out.2.2.1 x hx
     ·simp at hx; subst hx; have := HD.out; omega
  ·obtain rfl : i = g.prods.length := by omega
   rw [List.take_length] at hcons hsum ⊢
   have hany : g.prods.any (fun p => decide (200 < p.cons.length)) = false := by
    rw [List.any_eq_false]; intro p hp; have := hcons p hp; simp; omega
   obtain ⟨S, hS⟩ : ∃ S, (g.prods.map (·.right.length)).sum = S := ⟨_, rfl⟩
   have hV : vastB g = decide (60 < S) := by
    unfold vastB
    rw [hany, hS]
    have := HC.out
    simp [this.1, this.2.1, this.2.2]
    omega
   rw [hS] at hsum ⊢
   have HV := Hd hV
   clear hV hS hany hcons hm
   by_cases hs : 60 < S
   ·have hd : (60 : Int) < (S : Int) := by omega
    have HD := Hd hs
    clear hs
    go_wp2_with fail
    go_ret
    exact ⟨ret_bool (by rw [HV.out]; simp [HD.out]), HB.out⟩
   ·have hd : ¬ (60 : Int) < (S : Int) := by omega
    have HD := Hd hs
    clear hs
    go_wp2_with fail
    go_ret
    exact ⟨ret_bool (by rw [HV.out]; simp; have := HD.out; omega), HB.out⟩
def checkB (g : Gr) : Bool := sortsB g && prodsB g && forbidsB g && followsB g
def chkN (g : Gr) : Int := if checkB g = true then 0 else 160
theorem chk_no1 {g : Gr} (h : sortsB g = false) : chkN g = 160 := by unfold chkN checkB; rw [h]; rfl
theorem chk_no2 {g : Gr} (h : prodsB g = false) : chkN g = 160 := by unfold chkN checkB; rw [h]; cases sortsB g <;> rfl
theorem chk_no3 {g : Gr} (h : forbidsB g = false) : chkN g = 160 := by unfold chkN checkB; rw [h]; cases sortsB g <;> cases prodsB g <;> rfl
theorem chk_no4 {g : Gr} (h : followsB g = false) : chkN g = 160 := by unfold chkN checkB; rw [h]; cases sortsB g <;> cases prodsB g <;> cases forbidsB g <;> rfl
theorem check_any (g : Gr) (N : Nat) (hN : N <= 2000000) (w : World) (sv pv fv lv : Value) (hG : GramAt w N g sv pv fv lv) :
  Calls Tryz.prog 14 #[.agg #[sv, pv, .int .i64 g.start, fv, lv]] w fun e w' => e = .returned (.int .i64 (chkN g)) /\ Below w.heap.size w w' := by
 obtain ⟨sa, sc, rfl⟩ := slice_shape hG.sorts
 obtain ⟨pa, pc, rfl⟩ := prodsAt_shape hG.prodsAt
 have i0 : ∀ w, (Instr.index 100 (.agg #[.func (.func 37) #[] #[], .func (.func 38) #[] #[], .func (.func 39) #[] #[], .func (.func 40) #[] #[]]) (.int .i64 0)).run Tryz.prog w = .ok (.func (.func 37) #[] #[]) w := fun _ => by kernel_rfl
 have i1 : ∀ w, (Instr.index 100 (.agg #[.func (.func 37) #[] #[], .func (.func 38) #[] #[], .func (.func 39) #[] #[], .func (.func 40) #[] #[]]) (.int .i64 1)).run Tryz.prog w = .ok (.func (.func 38) #[] #[]) w := fun _ => by kernel_rfl
 have i2 : ∀ w, (Instr.index 100 (.agg #[.func (.func 37) #[] #[], .func (.func 38) #[] #[], .func (.func 39) #[] #[], .func (.func 40) #[] #[]]) (.int .i64 2)).run Tryz.prog w = .ok (.func (.func 39) #[] #[]) w := fun _ => by kernel_rfl
 have i3 : ∀ w, (Instr.index 100 (.agg #[.func (.func 37) #[] #[], .func (.func 38) #[] #[], .func (.func 39) #[] #[], .func (.func 40) #[] #[]]) (.int .i64 3)).run Tryz.prog w = .ok (.func (.func 40) #[] #[]) w := fun _ => by kernel_rfl
 have H := Hd (An hG (An hG.ok hN))
 clear hG hN
 go_enter Tryz.func14, Tryz.ntmps14
 go_wp2_with fail
 have hB1 : Blk (w.alloc (.cells #[.slice sa g.sorts.length sc, .slice pa g.prods.length pc, .int .i64 g.start, fv, lv] 39)) w.heap.size 39 #[.slice sa g.sorts.length sc, .slice pa g.prods.length pc, .int .i64 g.start, fv, lv] := Blk.new _ _ _
 have hb1 : Below w.heap.size w (w.alloc (.cells #[.slice sa g.sorts.length sc, .slice pa g.prods.length pc, .int .i64 g.start, fv, lv] 39)) := (Below.refl _ w).alloc (Nat.le_refl _) _
 generalize (w.alloc (.cells #[.slice sa g.sorts.length sc, .slice pa g.prods.length pc, .int .i64 g.start, fv, lv] 39)) = W1 at hB1 hb1 ⊢
 have H1 := Hd (An hB1 hb1)
 clear hB1 hb1
 go_loopg [6] 4 (fun m v wr => ∃ i : Nat, i <= 4 /\ m = 4 - i /\ v = .int .i64 i /\ Blk wr w.heap.size 39 #[.slice sa g.sorts.length sc, .slice pa g.prods.length pc, .int .i64 g.start, fv, lv] /\ Below w.heap.size w wr /\ (1 <= i -> sortsB g = true) /\ (2 <= i -> prodsB g = true) /\ (3 <= i -> forbidsB g = true) /\ (4 <= i -> followsB g = true))
 case atStart => exact ⟨0, by omega, rfl, rfl, H1.out.1, H1.out.2, by omega, by omega, by omega, by omega⟩
 case round =>
  obtain ⟨i, hi, hm, rfl, hB, hb, hv1, hv2, hv3, hv4⟩ := hrel
  have f0 := hB.cell 0
  have f1 := hB.cell 1
  have f2 := hB.cell 2
  have f3 := hB.cell 3
  have f4 := hB.cell 4
  simp at f0 f1 f2 f3 f4
  have A := Hd (An hm (An hB (An hb (An hv1 (An hv2 (An hv3 hv4))))))
  clear hm hB hb hv1 hv2 hv3 hv4
  have HW := Hd (H.out.1.keep A.out.2.2.1)
  rcases (show i = 0 ∨ i = 1 ∨ i = 2 ∨ i = 3 ∨ i = 4 by omega) with rfl | rfl | rfl | rfl | rfl
  ·clear i1 i2 i3
   go_wp2_with fail
   refine (sorts_any _ g (by have := H.out.1.nsorts; have := H.out.2.2; omega) (fun s hs => by have := H.out.1.str s hs; have := H.out.2.2; omega) wr _ _ _ _ HW.out.sorts).mono ?_
   rintro e w2 ⟨rfl, hb2⟩
   have A2 := Hd (An (A.out.2.1.below hb2 A.out.2.1.lt) (A.out.2.2.1.trans (hb2.mono A.out.2.2.1.size)))
   clear hb2
   cases hv : sortsB g with
   | false =>
    have HV := Hd (chk_no1 hv)
    clear hv
    go_wp2_with fail
    go_ret
    exact ⟨by rw [HV.out]; rfl, A2.out.2⟩
   | true =>
    have HV := Hd hv
    clear hv
    go_wp2_with fail
    have hv := HV.out
    go_roundg 3
    case measure => have := A.out.1; omega
    case rel => exact ⟨1, by omega, rfl, rfl, A2.out.1, A2.out.2, fun _ => hv, by omega, by omega, by omega⟩
  ·clear i0 i2 i3
   go_wp2_with fail
   refine (prods_any _ g (by have := H.out.1.nprods; have := H.out.2.2; omega) (fun p hp => by have := H.out.2.1 p hp; have := H.out.2.2; exact ⟨by omega, by omega, fun s hs => ((H.out.2.1 p hp).2.2.1 s hs).1⟩) wr _ _ _ rfl (by have := H.out.1.nsorts; have := H.out.2.2; omega) _ _ _ HW.out.prodsAt ⟨_, _, rfl⟩).mono ?_
   rintro e w2 ⟨rfl, hb2⟩
   have A2 := Hd (An (A.out.2.1.below hb2 A.out.2.1.lt) (A.out.2.2.1.trans (hb2.mono A.out.2.2.1.size)))
   clear hb2
   cases hv : prodsB g with
   | false =>
    have HV := Hd (chk_no2 hv)
    clear hv
    go_wp2_with fail
    go_ret
    exact ⟨by rw [HV.out]; rfl, A2.out.2⟩
   | true =>
    have HV := Hd hv
    clear hv
    go_wp2_with fail
    have hv := HV.out
    go_roundg 2
    case measure => have := A.out.1; omega
    case rel => exact ⟨2, by omega, rfl, rfl, A2.out.1, A2.out.2, fun _ => A.out.2.2.2.1 (by omega), fun _ => hv, by omega, by omega⟩
  ·clear i0 i1 i3
   go_wp2_with fail
   refine (forbids_any _ g (by have := H.out.1.nforbid; have := H.out.2.2; omega) (by have := H.out.1.nprods; have := H.out.2.2; omega) (fun p hp => by have := H.out.2.1 p hp; have := H.out.2.2; omega) H.out.1.fb wr _ _ _ _ ⟨_, _, rfl⟩ HW.out.prodsAt HW.out.forbid).mono ?_
   rintro e w2 ⟨rfl, hb2⟩
   have A2 := Hd (An (A.out.2.1.below hb2 A.out.2.1.lt) (A.out.2.2.1.trans (hb2.mono A.out.2.2.1.size)))
   clear hb2
   cases hv : forbidsB g with
   | false =>
    have HV := Hd (chk_no3 hv)
    clear hv
    go_wp2_with fail
    go_ret
    exact ⟨by rw [HV.out]; rfl, A2.out.2⟩
   | true =>
    have HV := Hd hv
    clear hv
    go_wp2_with fail
    have hv := HV.out
    go_roundg 1
    case measure => have := A.out.1; omega
    case rel => exact ⟨3, by omega, rfl, rfl, A2.out.1, A2.out.2, fun _ => A.out.2.2.2.1 (by omega), fun _ => A.out.2.2.2.2.1 (by omega), fun _ => hv, by omega⟩
  ·clear i0 i1 i2
   go_wp2_with fail
   refine (follows_any _ g (by have := H.out.1.nfollow; have := H.out.2.2; omega) (by have := H.out.1.nsorts; have := H.out.2.2; omega) H.out.1.fo wr _ _ _ rfl _ _ _ HW.out.follow).mono ?_
   rintro e w2 ⟨rfl, hb2⟩
   have A2 := Hd (An (A.out.2.1.below hb2 A.out.2.1.lt) (A.out.2.2.1.trans (hb2.mono A.out.2.2.1.size)))
   clear hb2
   cases hv : followsB g with
   | false =>
    have HV := Hd (chk_no4 hv)
    clear hv
    go_wp2_with fail
    go_ret
    exact ⟨by rw [HV.out]; rfl, A2.out.2⟩
   | true =>
    have HV := Hd hv
    clear hv
    go_wp2_with fail
    have hv := HV.out
    go_roundg 0
    case measure => have := A.out.1; omega
    case rel => exact ⟨4, by omega, rfl, rfl, A2.out.1, A2.out.2, fun _ => A.out.2.2.2.1 (by omega), fun _ => A.out.2.2.2.2.1 (by omega), fun _ => A.out.2.2.2.2.2.1 (by omega), fun _ => hv⟩
  ·clear i0 i1 i2 i3
   have hv : chkN g = 0 := by
    unfold chkN checkB
    rw [A.out.2.2.2.1 (by omega), A.out.2.2.2.2.1 (by omega), A.out.2.2.2.2.2.1 (by omega), A.out.2.2.2.2.2.2 (by omega)]
    rfl
   have HV := Hd hv
   clear hv
   go_wp2_with fail
   go_ret
   exact ⟨by rw [HV.out]; rfl, A.out.2.2.1⟩
end Go.Proofs.YtknpkndiflodbaaGreatDoor.Tb
namespace Go.Proofs.YtknpkndiflodbaaGreatDoor.Tb
open Go Go.RowKit Go.Proofs Mx Go.Shelf
attribute [local go_sem] Oper.semAt_some
structure KeepD (D : Nat -> Prop) (A B : World) : Prop where
 size : A.heap.size <= B.heap.size
 block : ∀ g, D g -> g < A.heap.size -> B.heap[g]? = A.heap[g]?
section
variable {D : Nat → Prop} {A B C : World}
theorem KeepD.refl (D : Nat -> Prop) (A : World) : KeepD D A A := ⟨Nat.le_refl _, fun _ _ _ => rfl⟩
theorem KeepD.trans (h : KeepD D A B) (k : KeepD D B C) : KeepD D A C := ⟨Nat.le_trans h.size k.size, fun g hg hl => (k.block g hg (Nat.lt_of_lt_of_le hl h.size)).trans (h.block g hg hl)⟩
theorem KeepD.below (h : Below A.heap.size A B) : KeepD D A B := ⟨h.size, fun g _ hl => h.block g hl⟩
theorem KeepD.putObj {w W : World} (hD : ∀ g, D g -> g < w.heap.size) (l : Nat) (o o' : Obj) (hl : w.heap.size <= l) (ho : W.heap[l]? = some o) (h1 : o.isCells = false) (h2 : o.isWalk = false) : KeepD D W (W.putObj l o') :=
 ⟨by simp [World.putObj], fun g hg _ => World.putObj_heap_other (by have := hD g hg; omega)⟩
theorem KeepD.cell (h : KeepD D A B) {g i : Nat} (hg : D g) (hl : g < A.heap.size) : B.cell? ⟨g, i, none⟩ = A.cell? ⟨g, i, none⟩ := World.cell?_of_block (h.block g hg hl)
end
def aheadL (g : Gr) (l : List It) : List (It × Sy) := l.filterMap fun x => (aheadF g x).map fun s => ((x.1, x.2 + 1), s)
def aK (L : List (It × Sy)) (k : Nat) : It × Sy := L.getD k ((0, 0), ⟨0, 0, 0⟩)
def encA (q : It × Sy) : Array Value := #[.agg #[.int .i64 (q.1.1 : Int), .int .i64 (q.1.2 : Int)], .agg #[.int .i64 q.2.kind, .int .u64 (wd q.2.set 0), .int .u64 (wd q.2.set 1), .int .u64 (wd q.2.set 2), .int .u64 (wd q.2.set 3), .int .i64 q.2.sort]]
theorem aheadL_snoc (g : Gr) (l : List It) (x : It) : aheadL g (l ++ [x]) = aheadL g l ++ (match aheadF g x with | some s => [((x.1, x.2 + 1), s)] | none => []) := by
 unfold aheadL
 rw [List.filterMap_append]
 cases h : aheadF g x <;> simp [h]
theorem aheadL_take (g : Gr) (l : List It) (i : Nat) (x : It) (h : l[i]? = some x) : aheadL g (l.take (i + 1)) = aheadL g (l.take i) ++ (match aheadF g x with | some s => [((x.1, x.2 + 1), s)] | none => []) := by
 rw [List.take_add_one, h]
 exact aheadL_snoc g _ x
theorem aheadL_split (g : Gr) (l : List It) (i : Nat) : aheadL g l = aheadL g (l.take i) ++ aheadL g (l.drop i) := by
 unfold aheadL
 rw [<- List.filterMap_append, List.take_append_drop]
theorem aheadL_at (g : Gr) (l : List It) (i : Nat) (x : It) (s : Sy) (h : l[i]? = some x) (hs : aheadF g x = some s) : (aheadL g l)[(aheadL g (l.take i)).length]? = some ((x.1, x.2 + 1), s) := by
 rw [aheadL_split g l (i + 1), aheadL_take g l i x h, hs]
 simp
theorem ahead_any (mb : Nat) (va : Option Addr) (vn vc : Nat) (w : World) :
  Calls Tryz.prog 67 #[.pointer (some ⟨mb, 0, none⟩), .slice va vn vc] w fun e w' => e = .returned (.func (.func 86) #[] #[.pointer (some ⟨w.heap.size + 1, 0, none⟩), .pointer (some ⟨w.heap.size, 0, none⟩)]) /\
   w' = (w.alloc (.cells #[.pointer (some ⟨mb, 0, none⟩)] 90)).alloc (.cells #[.slice va vn vc] 50) := by
 have hmf : ∀ (fn : Fn) (first cap : Array Value) (w : World), (Instr.makeFunc fn first cap).run Tryz.prog w = .ok (.func fn first cap) w := fun _ _ _ _ => rfl
 go_enter Tryz.func67, Tryz.ntmps67
 go_wp2
 go_ret
 exact ⟨rfl, rfl⟩
theorem ahead_iter (D D2 : Nat -> Prop) (g : Gr) (mb : Nat) (l : List It) (hl : ∀ x ∈ l, itemOk g x = true) (hn30 : ∀ p ∈ g.prods, p.right.length <= 1000) (v : Value) (n : Nat) (hn : 1 <= n) (w : World) (hm : MkR D w mb g) (hmb : D mb) (hv : SliceK D encIt 2 w v l) (b1 b2 : Nat)
  (hb1 : Blk w b1 50 #[v]) (hb2 : Blk w b2 90 #[.pointer (some ⟨mb, 0, none⟩)]) (hD1 : D b1) (hD2 : D b2) :
  SeqO Fence.wide n Tryz.prog 86 #[.pointer (some ⟨b1, 0, none⟩), .pointer (some ⟨b2, 0, none⟩)] (fun k => encA (aK (aheadL g l) k)) (KeepD D) (aheadL g l).length w := by
 intro lp J Jx W hW' hJ hJx hY h0
 obtain ⟨va, vc, rfl, hc1, hc2, hk⟩ := hv
 have hmx : l.length <= 9223372036854775807 := by unfold maxLen at hc2; omega
 have hK0 : KeepD D w W := KeepD.below hW'
 have hB1 := hb1.below hW' hb1.lt
 have x1 := hB1.cell 0
 have hro : Fence.wide.round = none := rfl
 have HC := Hd (An hm (An hk (An hb2 (An hl hK0))))
 clear hm hk hb2 hl hK0 hW' hB1
 refine callsIn_of_wp Tryz.func86 rfl trivial ?_ hro
 simp only [Tryz.ntmps86, List.size_toArray, List.length_cons, List.length_nil, Nat.reduceAdd, Nat.reduceSub, Array.replicate_succ, Array.replicate_zero, List.push_toArray, List.append_toArray, List.nil_append, List.cons_append]
 simp at x1
 gi_wp2
 gi_loopw [9] (fun i wr => ∃ k : Nat, k <= l.length /\ i = .int .i64 k /\ J (aheadL g (l.take k)).length wr /\ KeepD D w wr) (fun i _ => l.length - (intOf i).toNat)
 case atStart => exact ⟨0, Nat.zero_le _, rfl, h0, HC.out.2.2.2.2⟩
 case round =>
  obtain ⟨i, hi, rfl, hJi, hKi⟩ := hrel
  clear h0 x1
  by_cases hlt : i < l.length
  ·obtain ⟨⟨nn, d⟩, hx⟩ : ∃ x, l[i]? = some x := ⟨_, List.getElem?_eq_getElem hlt⟩
   obtain ⟨kg, ko, rfl, hkD, hkr⟩ := HC.out.2.1 (by rintro rfl; simp at hlt)
   have k0 := hkr.cells i _ hx 0 _ rfl
   have k1 := hkr.cells i _ hx 1 _ rfl
   simp only [Nat.add_zero] at k0
   have k0 := (hKi.cell hkD hkr.lt).trans k0
   have k1 := (hKi.cell hkD hkr.lt).trans k1
   have hok := (itemOk_iff g (nn, d)).1 (HC.out.2.2.2.1 _ (List.mem_of_getElem? hx))
   obtain ⟨p, hp⟩ : ∃ p, g.prods[nn]? = some p := ⟨_, List.getElem?_eq_getElem hok.1⟩
   have hrt : rightOf g nn = p.right := by unfold rightOf; rw [hp]; rfl
   obtain ⟨hnP, hdl⟩ := hok
   have hpm := List.mem_of_getElem? hp
   have hp30 := hn30 p hpm
   simp only [hrt] at hdl
   have hMr : MkR D wr mb g := HC.out.1.keep (fun g' hg' hl' => ⟨hg', hKi.block g' hg' hl'⟩) hKi.size (hKi.cell hmb HC.out.1.lt) (hKi.cell hmb HC.out.1.lt)
   obtain ⟨_, cp, b, o, vr, m1, rfl, hvr, hpc⟩ := hMr.prod hp
   obtain ⟨ra, rc, rfl, hrc1, hrc2, hrk⟩ := hvr
   have f0 := hpc 0 _ rfl
   have f1 := hpc 1 _ rfl
   have f2 := hpc 2 _ rfl
   have f3 := hpc 3 _ rfl
   have f4 := hpc 4 _ rfl
   have f5 := hpc 5 _ rfl
   have f6 := hpc 6 _ rfl
   simp only [Nat.add_zero] at f0
   have hb2c := (hKi.cell (i := 0) hD2 HC.out.2.2.1.lt).trans (HC.out.2.2.1.cell 0)
   simp at hb2c
   have hlt1 : (i : Int) < (l.length : Int) := by omega
   have hi0 : (0 : Int) <= (i : Int) := by omega
   have hn0 : (0 : Int) <= (nn : Int) := by omega
   have hnP1 : (nn : Int) < (g.prods.length : Int) := by omega
   have HX := Hd (An hx (An hp (An hrt (An hJi hKi))))
   clear hx hp hrt hpc hpm hJi hKi hkr hMr
   gi_wp2
   have hbW : Below wr.heap.size wr (wr.alloc (.cells #[.int .i64 (nn : Int), .int .i64 (d : Int)] 53)) := (Below.refl _ wr).alloc (Nat.le_refl _) _
   have hIB : Blk (wr.alloc (.cells #[.int .i64 (nn : Int), .int .i64 (d : Int)] 53)) wr.heap.size 53 #[.int .i64 (nn : Int), .int .i64 (d : Int)] := Blk.new _ _ _
   have up : ∀ {bb i : Nat} {u : Value}, wr.cell? ⟨bb, i, none⟩ = some u -> (wr.alloc (.cells #[.int .i64 (nn : Int), .int .i64 (d : Int)] 53)).cell? ⟨bb, i, none⟩ = some u := fun h => cell_alloc_ h _
   have m1 := up m1
   have hb2c := up hb2c
   have f0 := up f0
   have f1 := up f1
   have f2 := up f2
   have f3 := up f3
   have f4 := up f4
   have f5 := up f5
   have f6 := up f6
   obtain ⟨w0, hw0⟩ : ∃ w0, (wr.alloc (.cells #[.int .i64 (nn : Int), .int .i64 (d : Int)] 53)) = w0 := ⟨_, rfl⟩
   rw [hw0] at hbW hIB m1 hb2c f0 f1 f2 f3 f4 f5 f6 ⊢
   clear up hw0
   obtain ⟨ib, hib⟩ : ∃ ib, wr.heap.size = ib := ⟨_, rfl⟩
   rw [hib] at hIB ⊢
   obtain ⟨x0, x1, _⟩ := hIB.facts2
   have m1a := fun o => cell_alloc_ m1 o
   have b2a := fun o => cell_alloc_ hb2c o
   have x0a := fun o => cell_alloc_ x0 o
   have f0a := fun o => cell_alloc_ f0 o
   have f1a := fun o => cell_alloc_ f1 o
   have f2a := fun o => cell_alloc_ f2 o
   have f3a := fun o => cell_alloc_ f3 o
   have f4a := fun o => cell_alloc_ f4 o
   have f5a := fun o => cell_alloc_ f5 o
   have f6a := fun o => cell_alloc_ f6 o
   have HW := Hd (An hbW (An hIB hib))
   clear hbW hIB hib k0 k1
   refine wpIn_wide.2 ?_
   go_region
   all_goals (try go_simp)
   have hPB : Blk (w0.alloc (.cells #[.int .i64 p.left, .slice ra p.right.length rc, .string ⟨p.cons.toArray⟩, .int .i64 p.role, .bool p.prefer, .bool p.avoid, .int .i64 p.made] 34)).drew w0.heap.size 34 #[.int .i64 p.left, .slice ra p.right.length rc, .string ⟨p.cons.toArray⟩, .int .i64 p.role, .bool p.prefer, .bool p.avoid, .int .i64 p.made] := Blk.new _ _ _
   have hb02 : Below w0.heap.size w0 (w0.alloc (.cells #[.int .i64 p.left, .slice ra p.right.length rc, .string ⟨p.cons.toArray⟩, .int .i64 p.role, .bool p.prefer, .bool p.avoid, .int .i64 p.made] 34)).drew := ((Below.refl _ w0).alloc (Nat.le_refl _) _).drew
   obtain ⟨w2, hw2⟩ : ∃ w2, (w0.alloc (.cells #[.int .i64 p.left, .slice ra p.right.length rc, .string ⟨p.cons.toArray⟩, .int .i64 p.role, .bool p.prefer, .bool p.avoid, .int .i64 p.made] 34)).drew = w2 := ⟨_, rfl⟩
   rw [hw2] at hPB hb02 ⊢
   have hIB2 := HW.out.2.1.below hb02 HW.out.2.1.lt
   have hbr2 : Below wr.heap.size wr w2 := HW.out.1.trans (hb02.mono HW.out.1.size)
   obtain ⟨pb, hpb⟩ : ∃ pb, w0.heap.size = pb := ⟨_, rfl⟩
   rw [hpb] at hPB ⊢
   obtain ⟨y0, y1, _⟩ := hIB2.facts2
   have z1 := hPB.cell 1
   simp at z1
   have HV := Hd hbr2
   clear hw2 hPB hb02 hIB2 hbr2 hpb m1 hb2c f0 f1 f2 f3 f4 f5 f6 m1a b2a x0a f0a f1a f2a f3a f4a f5a f6a x0 x1
   gi_wp2
   by_cases hd : d < p.right.length
   ·obtain ⟨sy, hs⟩ : ∃ s, p.right[d]? = some s := ⟨_, List.getElem?_eq_getElem hd⟩
    obtain ⟨rg, ro, rfl, _, hrr⟩ := hrk (by rintro e; rw [e] at hd; simp at hd)
    have q0 := hrr.cells d sy hs 0 _ rfl
    have q1 := hrr.cells d sy hs 1 _ rfl
    have q2 := hrr.cells d sy hs 2 _ rfl
    have q3 := hrr.cells d sy hs 3 _ rfl
    have q4 := hrr.cells d sy hs 4 _ rfl
    have q5 := hrr.cells d sy hs 5 _ rfl
    simp only [Nat.add_zero] at q0
    have q0 := (HV.out.cell (p := ⟨rg, ro + d * 6, none⟩) (World.block_lt_of_cell? _ _ q0)).trans q0
    have q1 := (HV.out.cell (p := ⟨rg, ro + d * 6 + 1, none⟩) (World.block_lt_of_cell? _ _ q1)).trans q1
    have q2 := (HV.out.cell (p := ⟨rg, ro + d * 6 + 2, none⟩) (World.block_lt_of_cell? _ _ q2)).trans q2
    have q3 := (HV.out.cell (p := ⟨rg, ro + d * 6 + 3, none⟩) (World.block_lt_of_cell? _ _ q3)).trans q3
    have q4 := (HV.out.cell (p := ⟨rg, ro + d * 6 + 4, none⟩) (World.block_lt_of_cell? _ _ q4)).trans q4
    have q5 := (HV.out.cell (p := ⟨rg, ro + d * 6 + 5, none⟩) (World.block_lt_of_cell? _ _ q5)).trans q5
    have hah : aheadF g (nn, d) = some sy := by unfold aheadF; rw [HX.out.2.2.1]; exact hs
    have hget := aheadL_at g l i (nn, d) sy HX.out.1 hah
    have hkl : (aheadL g (l.take i)).length < (aheadL g l).length := (List.getElem?_eq_some_iff.1 hget).1
    have hak : aK (aheadL g l) (aheadL g (l.take i)).length = ((nn, d + 1), sy) := by unfold aK; simp [List.getD, hget]
    have hnext : (aheadL g (l.take (i + 1))).length = (aheadL g (l.take i)).length + 1 := by rw [aheadL_take g l i _ HX.out.1, hah]; simp
    have hd0 : (0 : Int) <= (d : Int) := by omega
    have hd1 : (d : Int) < ((p.right.length : Nat) : Int) := by omega
    have hJ2 : J (aheadL g (l.take i)).length w2.drew := abides_below hJ HX.out.2.2.2.1 HV.out.drew
    have hyk := hY _ _ hJ2 hkl
    rw [hak] at hyk
    unfold encA at hyk
    simp only at hyk
    have hdc : ((d + 1 : Nat) : Int) = (d : Int) + 1 := by omega
    rw [hdc] at hyk
    obtain ⟨fn, tmps, assign, body, hyr, hR⟩ := hyk
    have HI := Hd (An hkl hnext)
    clear hJ2 hs hrr hah hget hak hkl hnext hd
    refine wpIn_region_still_tail wideF_wide 20 (by kernel_rfl) (by kernel_rfl) (by kernel_rfl) ?_
    simp only [List.take_succ_cons, List.take_zero, List.drop_succ_cons, List.drop_zero]
    repeat still_step
    try refine wpStill_nil ?_
    gi_wp2
    rw [hyr, Oper.uponIn_round]
    refine An (by intro h; cases h) (hR.mono ?_)
    rintro e W' h
    obtain ⟨b, rfl, hb⟩ := yield_bool h
    clear hR hyr
    cases b
    ·gi_wp2
     refine bodyPost_ret (results_none rfl _ _ _) rfl ?_
     exact ⟨⟨_, rfl⟩, .inr ⟨(aheadL g (l.take i)).length + 1, HI.out.1, hb.out.2 (by trivial)⟩⟩
    ·gi_wp2
     have hnn := hb.out.1 (by trivial)
     go_roundw
     case rel =>
      refine ⟨i + 1, by omega, rfl, ?_, ?_⟩
      ·rw [HI.out.2]; exact hnn.1
      ·exact (HX.out.2.2.2.2.trans (KeepD.below HV.out.drew)).trans hnn.2
     case measure => simp [intOf]; omega
   ·have hah : aheadF g (nn, d) = none := by unfold aheadF; rw [HX.out.2.2.1]; exact List.getElem?_eq_none (by omega)
    have hnext : aheadL g (l.take (i + 1)) = aheadL g (l.take i) := by rw [aheadL_take g l i _ HX.out.1, hah]; simp
    obtain rfl : d = p.right.length := by omega
    have HE := Hd hnext
    clear hd hah hnext
    refine wpIn_wide.2 ?_
    go_quiet (fail)
    gi_wp2
    go_roundw
    case rel =>
     refine ⟨i + 1, by omega, rfl, ?_, ?_⟩
     ·rw [HE.out]; exact abides_below hJ HX.out.2.2.2.1 (below_drewN HV.out _)
     ·exact HX.out.2.2.2.2.trans (KeepD.below (below_drewN HV.out _))
    case measure => simp [intOf]; omega
  ·obtain rfl : i = l.length := by omega
   rw [List.take_length] at hJi
   have HJ := Hd hJi
   clear hJi hKi
   gi_wp2
   refine bodyPost_end (results_none rfl _ _ _) rfl ?_
   exact ⟨⟨_, rfl⟩, .inl HJ.out⟩
end Go.Proofs.YtknpkndiflodbaaGreatDoor.Tb
namespace Go.Proofs.YtknpkndiflodbaaGreatDoor.Tb
open Go Go.RowKit Go.Proofs Go.Maps Mx
attribute [local go_sem] eqSet guardSet
theorem setCells_blk (w : World) (M : Nat) : ∀ j u, (encSet M)[j]? = some u -> (w.alloc (.cells #[.int .u64 (wd M 0), .int .u64 (wd M 1), .int .u64 (wd M 2), .int .u64 (wd M 3)] 26)).cell? ((⟨w.heap.size, 0, none⟩ : Addr).add j) = some u := by
 intro j u hj
 have hb : Blk (w.alloc (.cells #[.int .u64 (wd M 0), .int .u64 (wd M 1), .int .u64 (wd M 2), .int .u64 (wd M 3)] 26)) w.heap.size 26 #[.int .u64 (wd M 0), .int .u64 (wd M 1), .int .u64 (wd M 2), .int .u64 (wd M 3)] := Blk.new w _ _
 rw [addr_add_, Nat.zero_add, hb.cell j]
 simpa [encSet] using hj
theorem encSet_one' (M : Nat) : ∀ u ∈ encSet M, u.oneCell' = true := by
 intro u hu
 simp [encSet] at hu
 rcases hu with rfl | rfl | rfl | rfl <;> rfl
structure SpW (s : Nat) (wr wq : World) (next : List Nat) (c : Nat) (f : Lit -> Option Value) (v7 : Value) : Prop where
 own : wq.ownsRow (wr.heap.size + 2) 26 4 v7 next.length (flatK encSet next)
 map : MapV Tryz.prog 26 wq (wr.heap.size + 1) c f
 met : MetS f next c
 set : Blk wq wr.heap.size 26 #[.int .u64 (wd s 0), .int .u64 (wd s 1), .int .u64 (wd s 2), .int .u64 (wd s 3)]
 below : Below wr.heap.size wr wq
 size : wr.heap.size + 2 <= wq.heap.size
 len : next.length <= c
section
variable {s : Nat} {wr wq w' : World} {next : List Nat} {c : Nat} {f : Lit → Option Value} {v7 : Value}
theorem SpW.keep (h : SpW s wr wq next c f v7) (hb : Below wq.heap.size wq w') : SpW s wr w' next c f v7 :=
 ⟨row_below h.own hb, h.map.below hb h.map.lt, h.met, h.set.below hb h.set.lt, h.below.trans (hb.mono h.below.size), Nat.le_trans h.size hb.size, h.len⟩
theorem SpW.old (h : SpW s wr wq next c f v7) {x : Nat} (hx : x < 2 ^ 256) {n : Int} (h0 : 0 <= n) (hc : n <= c) (hn : x ≠ 0 -> (x ∈ next ↔ n ≠ 0)) (hin : x = 0 ∨ x ∈ next)
  (hm : MapV Tryz.prog 26 w' (wr.heap.size + 1) (c + 1) (putV f (keyS x) (.int .i64 (n + 1)))) (hg : wq.grownBy w' (some (wr.heap.size + 1))) : SpW s wr w' (addF next x) (c + 1) (putV f (keyS x) (.int .i64 (n + 1))) v7 := by
 have he : addF next x = next := by unfold addF; rw [if_pos hin]
 have hst := h.met.step x hx h0 hc hn
 rw [he] at hst ⊢
 refine ⟨h.own.kept hg ?_, hm, hst, h.set.grown hg (by simp), ?_, Nat.le_trans h.size hg.size, Nat.le_succ_of_le h.len⟩
 ·cases e : v7.ownBlock with
  | none => exact .inl rfl
  | some b => exact .inr (by have := (h.own.lt b e).1; intro e2; injection e2 with e2; omega)
 ·exact h.below.trans (below_of_grown hg (by have := h.size; omega) (by omega))
theorem SpW.mid (h : SpW s wr wq next c f v7) {f' : Lit -> Option Value} (hm : MapV Tryz.prog 26 w' (wr.heap.size + 1) (c + 1) f') (hg : wq.grownBy w' (some (wr.heap.size + 1))) :
  w'.ownsRow (wr.heap.size + 2) 26 4 v7 next.length (flatK encSet next) /\ Blk w' wr.heap.size 26 #[.int .u64 (wd s 0), .int .u64 (wd s 1), .int .u64 (wd s 2), .int .u64 (wd s 3)] /\ Below wr.heap.size wr w' := by
 refine ⟨h.own.kept hg ?_, h.set.grown hg (by simp), h.below.trans (below_of_grown hg (by have := h.size; omega) (by omega))⟩
 cases e : v7.ownBlock with
 | none => exact .inl rfl
 | some b => exact .inr (by have := (h.own.lt b e).1; intro e2; injection e2 with e2; omega)
end
theorem opt_of {α : Type} {D : Nat -> Prop} {enc : α -> List Value} {k n c : Nat} {w : World} {a : Option Addr} {l : List α} (h : SliceK D enc k w (.slice a n c) l) : OptK D enc k w a l := by
 obtain ⟨a', c', e, _, _, h⟩ := h
 injection e with e
 rw [e]
 exact h
theorem split_core (D : Nat -> Prop) (l : List Nat) (hlt : ∀ s ∈ l, s < 2 ^ 256) (v : Value) (w : World) (hv : SliceK D encSet 4 w v l)
    (hsort : ∀ (parts : List Nat) (v : Value) (W : World), Parts parts -> W.ownsRow w.heap.size 26 4 v parts.length (flatK encSet parts) -> Below w.heap.size w W ->
      Calls Tryz.prog 92 #[v, .func (.func 93) #[] #[]] W fun e W' => e = .returned (.tuple #[]) /\ W'.ownsRow w.heap.size 26 4 v parts.length (flatK encSet (parts.foldr insSet [])) /\ W.grownBy W' v.ownBlock) :
    Calls Tryz.prog 69 #[v] w fun e w' => ∃ v', e = .returned v' /\ w'.ownsRow w.heap.size 26 4 v' (splitF l).length (flatK encSet (splitF l)) /\ Below w.heap.size w w' := by
  obtain ⟨a, c, rfl, hc1, hc2, hk⟩ := hv
  have hmx : l.length <= 9223372036854775807 := by unfold maxLen at hc2; omega
  have hall := fun W => all_any W
  have HK := Hd (An hk (An hlt hsort))
  clear hk hlt hsort
  have hmm := @run_makeMap Tryz.prog
  unfold setV at hall
  go_enter Tryz.func69, Tryz.ntmps69
  go_wp2_with fail
  refine (hall _).mono ?_
  rintro e w1 ⟨rfl, hb1⟩
  clear hall
  go_wp2_with fail
  have hown0 : (w1.alloc (.cells #[.int .u64 (wd fullM 0), .int .u64 (wd fullM 1), .int .u64 (wd fullM 2), .int .u64 (wd fullM 3)] 26)).ownsRow w.heap.size 26 4 (.slice (some ⟨w1.heap.size, 0, none⟩) 1 1) 1 (flatK encSet [2 ^ 256 - 1]) :=
    own_fresh w1 26 4 1 _ hb1.size rfl (by decide)
  have hbl0 : Below w.heap.size w (w1.alloc (.cells #[.int .u64 (wd fullM 0), .int .u64 (wd fullM 1), .int .u64 (wd fullM 2), .int .u64 (wd fullM 3)] 26)) := hb1.alloc hb1.size _
  generalize (w1.alloc (.cells #[.int .u64 (wd fullM 0), .int .u64 (wd fullM 1), .int .u64 (wd fullM 2), .int .u64 (wd fullM 3)] 26)) = w2 at hown0 hbl0 ⊢
  go_loopg [3, 16] l.length (fun m v3 v16 wr => ∃ (i : Nat) (parts : List Nat), i <= l.length /\ m = l.length - i /\ v16 = .int .i64 i /\ parts = (l.take i).foldl splitStep [2 ^ 256 - 1] /\ wr.ownsRow w.heap.size 26 4 v3 parts.length (flatK encSet parts) /\ Below w.heap.size w wr)
  case atStart => exact ⟨0, _, by omega, rfl, rfl, rfl, hown0, hbl0⟩
  case round =>
    obtain ⟨i, parts, hi, hm, rfl, hparts, hown, hb⟩ := hrel
    have hPp : Parts parts := by rw [hparts]; exact parts_all _ _ (fun s hs => HK.out.2.1 s (List.mem_of_mem_take hs)) full_parts
    have hpl := parts_len hPp
    clear hown0 hbl0 hb1
    by_cases hlt : i < l.length
    · obtain ⟨s, hs⟩ : ∃ s, l[i]? = some s := ⟨_, List.getElem?_eq_getElem hlt⟩
      obtain ⟨kg, ko, rfl, _, hkr⟩ := HK.out.1 (by rintro rfl; simp at hlt)
      have k0 := hkr.cells i _ hs 0 _ rfl
      have k1 := hkr.cells i _ hs 1 _ rfl
      have k2 := hkr.cells i _ hs 2 _ rfl
      have k3 := hkr.cells i _ hs 3 _ rfl
      simp only [Nat.add_zero] at k0
      have k0 := (hb.cell (p := ⟨kg, ko + i * 4, none⟩) (World.block_lt_of_cell? _ _ k0)).trans k0
      have k1 := (hb.cell (p := ⟨kg, ko + i * 4 + 1, none⟩) (World.block_lt_of_cell? _ _ k1)).trans k1
      have k2 := (hb.cell (p := ⟨kg, ko + i * 4 + 2, none⟩) (World.block_lt_of_cell? _ _ k2)).trans k2
      have k3 := (hb.cell (p := ⟨kg, ko + i * 4 + 3, none⟩) (World.block_lt_of_cell? _ _ k3)).trans k3
      have hs256 := HK.out.2.1 s (List.mem_of_getElem? hs)
      have hnext : (l.take (i + 1)).foldl splitStep [2 ^ 256 - 1] = splitStep parts s := by
        rw [List.take_add_one, hs, hparts]; simp
      obtain ⟨pa, pc, rfl⟩ := own_shape hown
      have hi0 : (0 : Int) <= (i : Int) := by omega
      have hi1 : (i : Int) < (l.length : Int) := by omega
      have A := Hd (An hm (An hown (An hb (An hnext (An hs256 hPp)))))
      clear hm hown hb hnext hs hkr hPp hparts hs256
      obtain ⟨N, hN⟩ : ∃ N, parts.length = N := ⟨_, rfl⟩
      rw [hN] at hpl ⊢
      have HN := Hd hN
      clear hN
      go_wp2_with fail
      have gs : Blk ((wr.alloc (.cells #[.int .u64 (wd s 0), .int .u64 (wd s 1), .int .u64 (wd s 2), .int .u64 (wd s 3)] 26)).alloc (.map #[] 0)) wr.heap.size 26 #[.int .u64 (wd s 0), .int .u64 (wd s 1), .int .u64 (wd s 2), .int .u64 (wd s 3)] := (Blk.new _ _ _).alloc _
      have gm := MapV.made (wr.alloc (.cells #[.int .u64 (wd s 0), .int .u64 (wd s 1), .int .u64 (wd s 2), .int .u64 (wd s 3)] 26)) Tryz.prog 26
      rw [World.size_alloc] at gm
      have gb : Below wr.heap.size wr ((wr.alloc (.cells #[.int .u64 (wd s 0), .int .u64 (wd s 1), .int .u64 (wd s 2), .int .u64 (wd s 3)] 26)).alloc (.map #[] 0)) := ((Below.refl _ wr).alloc (Nat.le_refl _) _).alloc (by simp) _
      have gz : wr.heap.size + 2 <= ((wr.alloc (.cells #[.int .u64 (wd s 0), .int .u64 (wd s 1), .int .u64 (wd s 2), .int .u64 (wd s 3)] 26)).alloc (.map #[] 0)).heap.size := by simp
      generalize ((wr.alloc (.cells #[.int .u64 (wd s 0), .int .u64 (wd s 1), .int .u64 (wd s 2), .int .u64 (wd s 3)] 26)).alloc (.map #[] 0)) = w3 at gs gm gb gz ⊢
      have hPK := opt_of (own_sliceK encSet_len A.out.2.1)
      have G := Hd (An gs (An gm (An gb (An gz hPK))))
      clear gs gm gb gz hPK k0 k1 k2 k3
      obtain ⟨wo, rfl⟩ : ∃ wo : World, wo = wr := ⟨_, rfl⟩
      go_loopg [7, 23] N (fun m v7 v23 wq => ∃ (j : Nat) (next : List Nat) (f : Lit -> Option Value), j <= N /\ m = N - j /\ v23 = .int .i64 j /\ next = (parts.take j).foldl (fun nx p => cutF nx p s) [] /\ SpW s wo wq next (2 * j) f v7)
      case atStart => exact ⟨0, [], _, by omega, rfl, rfl, rfl, ⟨World.ownsRow_nil _ _ _ _, G.out.2.1, MetS.start, G.out.1, G.out.2.2.1, G.out.2.2.2.1, by simp⟩⟩
      case round =>
        obtain ⟨j, next, f, hj, hm, rfl, hnx, hS⟩ := hrel
        obtain ⟨na, nc, rfl⟩ := own_shape hS.own
        by_cases hjN : j < N
        · have hjl : j < parts.length := by rw [HN.out]; exact hjN
          obtain ⟨p, hp⟩ : ∃ p, parts[j]? = some p := ⟨_, List.getElem?_eq_getElem hjl⟩
          have hpe : parts[j] = p := by rw [List.getElem?_eq_getElem hjl] at hp; injection hp
          obtain ⟨pg, po, rfl, _, hpgl, hpc⟩ := G.out.2.2.2.2.at_ hjl
          rw [hpe] at hpc
          have k0 := hpc 0 _ rfl
          have k1 := hpc 1 _ rfl
          have k2 := hpc 2 _ rfl
          have k3 := hpc 3 _ rfl
          simp only [Nat.add_zero] at k0
          have k0 := (hS.below.cell (p := ⟨pg, po + j * 4, none⟩) hpgl).trans k0
          have k1 := (hS.below.cell (p := ⟨pg, po + j * 4 + 1, none⟩) hpgl).trans k1
          have k2 := (hS.below.cell (p := ⟨pg, po + j * 4 + 2, none⟩) hpgl).trans k2
          have k3 := (hS.below.cell (p := ⟨pg, po + j * 4 + 3, none⟩) hpgl).trans k3
          have hp256 := (A.out.2.2.2.2.2.1 p (List.mem_of_getElem? hp)).2
          have hnext2 : (parts.take (j + 1)).foldl (fun nx p => cutF nx p s) [] = cutF next p s := by
            rw [List.take_add_one, hp, hnx]; simp
          have hj0 : (0 : Int) <= (j : Int) := by omega
          have hj1 : (j : Int) < (N : Int) := by omega
          have Q := Hd (An hm (An hS (An hnext2 hp256)))
          clear hm hS hnext2 hnx hp hpe hpc hpgl hjl hp256
          go_wp2_with fail
          have gs : Blk (wr.alloc (.cells #[.int .u64 (wd p 0), .int .u64 (wd p 1), .int .u64 (wd p 2), .int .u64 (wd p 3)] 26)) wo.heap.size 26 #[.int .u64 (wd s 0), .int .u64 (wd s 1), .int .u64 (wd s 2), .int .u64 (wd s 3)] := Q.out.2.1.set.alloc _
          have gp : Blk (wr.alloc (.cells #[.int .u64 (wd p 0), .int .u64 (wd p 1), .int .u64 (wd p 2), .int .u64 (wd p 3)] 26)) wr.heap.size 26 #[.int .u64 (wd p 0), .int .u64 (wd p 1), .int .u64 (wd p 2), .int .u64 (wd p 3)] := Blk.new _ _ _
          have gS : SpW s wo (wr.alloc (.cells #[.int .u64 (wd p 0), .int .u64 (wd p 1), .int .u64 (wd p 2), .int .u64 (wd p 3)] 26)).drew next (2 * j) f (.slice na next.length nc) := Q.out.2.1.keep ((Below.refl _ wr).alloc (Nat.le_refl _) _).drew
          generalize (wr.alloc (.cells #[.int .u64 (wd p 0), .int .u64 (wd p 1), .int .u64 (wd p 2), .int .u64 (wd p 3)] 26)) = w4 at gs gp gS ⊢
          generalize wr.heap.size = bp at gp ⊢
          have cs : ∀ W, Below w4.heap.size w4.drew W -> ∀ i : Nat, W.cell? ⟨wo.heap.size, i, none⟩ = w4.cell? ⟨wo.heap.size, i, none⟩ := fun W h i => h.cell (p := ⟨wo.heap.size, i, none⟩) gs.lt
          have cp : ∀ W, Below w4.heap.size w4.drew W -> ∀ i : Nat, W.cell? ⟨bp, i, none⟩ = w4.cell? ⟨bp, i, none⟩ := fun W h i => h.cell (p := ⟨bp, i, none⟩) gp.lt
          have s0 : ∀ W, Below w4.heap.size w4.drew W -> W.cell? ⟨wo.heap.size, 0, none⟩ = some (.int .u64 (wd s 0)) := fun W h => (cs W h 0).trans (gs.cell 0)
          have s1 : ∀ W, Below w4.heap.size w4.drew W -> W.cell? ⟨wo.heap.size, 1, none⟩ = some (.int .u64 (wd s 1)) := fun W h => (cs W h 1).trans (gs.cell 1)
          have s2 : ∀ W, Below w4.heap.size w4.drew W -> W.cell? ⟨wo.heap.size, 2, none⟩ = some (.int .u64 (wd s 2)) := fun W h => (cs W h 2).trans (gs.cell 2)
          have s3 : ∀ W, Below w4.heap.size w4.drew W -> W.cell? ⟨wo.heap.size, 3, none⟩ = some (.int .u64 (wd s 3)) := fun W h => (cs W h 3).trans (gs.cell 3)
          have p0 : ∀ W, Below w4.heap.size w4.drew W -> W.cell? ⟨bp, 0, none⟩ = some (.int .u64 (wd p 0)) := fun W h => (cp W h 0).trans (gp.cell 0)
          have p1 : ∀ W, Below w4.heap.size w4.drew W -> W.cell? ⟨bp, 1, none⟩ = some (.int .u64 (wd p 1)) := fun W h => (cp W h 1).trans (gp.cell 1)
          have p2 : ∀ W, Below w4.heap.size w4.drew W -> W.cell? ⟨bp, 2, none⟩ = some (.int .u64 (wd p 2)) := fun W h => (cp W h 2).trans (gp.cell 2)
          have p3 : ∀ W, Below w4.heap.size w4.drew W -> W.cell? ⟨bp, 3, none⟩ = some (.int .u64 (wd p 3)) := fun W h => (cp W h 3).trans (gp.cell 3)
          have hwE : p &&& notM s = p &&& (2 ^ 256 - 1 - s) := by rw [notM_eq A.out.2.2.2.2.1]
          obtain ⟨X, hX⟩ : ∃ X, p &&& s = X := ⟨_, rfl⟩
          obtain ⟨Y, hY⟩ : ∃ Y, p &&& notM s = Y := ⟨_, rfl⟩
          have hmeet : ∀ W, Below w4.heap.size w4.drew W -> Calls Tryz.prog 90 #[.agg #[.int .u64 (wd p 0), .int .u64 (wd p 1), .int .u64 (wd p 2), .int .u64 (wd p 3)], .agg #[.int .u64 (wd s 0), .int .u64 (wd s 1), .int .u64 (wd s 2), .int .u64 (wd s 3)]] W fun e W' =>
              e = .returned (.agg #[.int .u64 (wd X 0), .int .u64 (wd X 1), .int .u64 (wd X 2), .int .u64 (wd X 3)]) /\ Below w4.heap.size w4.drew W' := fun W h => (meet_any p s W).mono fun e W' ⟨he, hb⟩ => ⟨by rw [he, hX]; rfl, h.trans (hb.mono h.size)⟩
          have hwo : ∀ W, Below w4.heap.size w4.drew W -> Calls Tryz.prog 91 #[.agg #[.int .u64 (wd p 0), .int .u64 (wd p 1), .int .u64 (wd p 2), .int .u64 (wd p 3)], .agg #[.int .u64 (wd s 0), .int .u64 (wd s 1), .int .u64 (wd s 2), .int .u64 (wd s 3)]] W fun e W' =>
              e = .returned (.agg #[.int .u64 (wd Y 0), .int .u64 (wd Y 1), .int .u64 (wd Y 2), .int .u64 (wd Y 3)]) /\ Below w4.heap.size w4.drew W' := fun W h => (without_any p s W).mono fun e W' ⟨he, hb⟩ => ⟨by rw [he, hY]; rfl, h.trans (hb.mono h.size)⟩
          have hcut : cutF next p s = addF (addF next X) Y := by rw [cutF_eq, <- hwE, hX, hY]
          have hX256 : X < 2 ^ 256 := by rw [<- hX]; exact Nat.lt_of_le_of_lt Nat.and_le_left Q.out.2.2.2
          have hY256 : Y < 2 ^ 256 := by rw [<- hY]; exact Nat.lt_of_le_of_lt Nat.and_le_left Q.out.2.2.2
          have hU : Below w4.heap.size w4.drew w4.drew := Below.refl _ _
          have R := Hd (An gS (An hcut (An hX256 hY256)))
          clear gs gp gS cs cp hwE hX hY hcut hX256 hY256
          clear k0 k1 k2 k3
          have mkS : ∀ W, Below w4.heap.size w4.drew W -> (W.cell? ⟨wo.heap.size, 0, none⟩ = some (.int .u64 (wd s 0)) /\ W.cell? ⟨wo.heap.size, 1, none⟩ = some (.int .u64 (wd s 1)) /\ W.cell? ⟨wo.heap.size, 2, none⟩ = some (.int .u64 (wd s 2)) /\ W.cell? ⟨wo.heap.size, 3, none⟩ = some (.int .u64 (wd s 3))) /\
              (W.cell? ⟨bp, 0, none⟩ = some (.int .u64 (wd p 0)) /\ W.cell? ⟨bp, 1, none⟩ = some (.int .u64 (wd p 1)) /\ W.cell? ⟨bp, 2, none⟩ = some (.int .u64 (wd p 2)) /\ W.cell? ⟨bp, 3, none⟩ = some (.int .u64 (wd p 3))) /\ Below w4.heap.size w4.drew W :=
            fun W h => ⟨⟨s0 W h, s1 W h, s2 W h, s3 W h⟩, ⟨p0 W h, p1 W h, p2 W h, p3 W h⟩, h⟩
          have MK := Hd mkS
          have AL := Hd (show ∀ W o, Below w4.heap.size w4.drew W -> Below w4.heap.size w4.drew (W.alloc o) from fun W o h => h.alloc h.size o)
          clear mkS
          clear s0 s1 s2 s3 p0 p1 p2 p3
          apply via
          · intro KV
            go_region_held3 (fun W => (W.cell? ⟨wo.heap.size, 0, none⟩ = some (.int .u64 (wd s 0)) /\ W.cell? ⟨wo.heap.size, 1, none⟩ = some (.int .u64 (wd s 1)) /\ W.cell? ⟨wo.heap.size, 2, none⟩ = some (.int .u64 (wd s 2)) /\ W.cell? ⟨wo.heap.size, 3, none⟩ = some (.int .u64 (wd s 3))) /\
              (W.cell? ⟨bp, 0, none⟩ = some (.int .u64 (wd p 0)) /\ W.cell? ⟨bp, 1, none⟩ = some (.int .u64 (wd p 1)) /\ W.cell? ⟨bp, 2, none⟩ = some (.int .u64 (wd p 2)) /\ W.cell? ⟨bp, 3, none⟩ = some (.int .u64 (wd p 3))) /\ Below w4.heap.size w4.drew W)
              (first
                | exact MK.out _ hU
                | exact MK.out _ (by assumption)
                | exact MK.out _ (AL.out _ _ (by assumption)))
              (first
                | (go_at_call 90; refine (hmeet _ (by assumption)).mono ?_; rintro e w5 ⟨rfl, hb5⟩)
                | (go_at_call 91; refine (hwo _ (by assumption)).mono ?_; rintro e w5 ⟨rfl, hb5⟩))
            all_goals (try go_simp)
            all_goals revert w5
            all_goals exact KV.out
          · intro w5 hb5
            intros
            clear hmeet hwo hU MK AL
            have gB : Blk (w5.alloc (.cells #[.int .u64 (wd X 0), .int .u64 (wd X 1), .int .u64 (wd X 2), .int .u64 (wd X 3), .int .u64 (wd Y 0), .int .u64 (wd Y 1), .int .u64 (wd Y 2), .int .u64 (wd Y 3)] 26)) w5.heap.size 26 #[.int .u64 (wd X 0), .int .u64 (wd X 1), .int .u64 (wd X 2), .int .u64 (wd X 3), .int .u64 (wd Y 0), .int .u64 (wd Y 1), .int .u64 (wd Y 2), .int .u64 (wd Y 3)] := Blk.new _ _ _
            have gS6 := R.out.1.keep (hb5.alloc hb5.size (.cells #[.int .u64 (wd X 0), .int .u64 (wd X 1), .int .u64 (wd X 2), .int .u64 (wd X 3), .int .u64 (wd Y 0), .int .u64 (wd Y 1), .int .u64 (wd Y 2), .int .u64 (wd Y 3)] 26))
            have gx : ∀ b, (Value.slice na next.length nc).ownBlock = some b -> b ≠ w5.heap.size := fun b hb => by
              have h1 := (R.out.1.own.lt b hb).2
              have h2 := hb5.size
              omega
            generalize (w5.alloc (.cells #[.int .u64 (wd X 0), .int .u64 (wd X 1), .int .u64 (wd X 2), .int .u64 (wd X 3), .int .u64 (wd Y 0), .int .u64 (wd Y 1), .int .u64 (wd Y 2), .int .u64 (wd Y 3)] 26)) = w6 at *
            have hxbo : wo.heap.size + 2 <= w5.heap.size := by have h1 := R.out.1.size; have h2 := hb5.size; omega
            generalize w5.heap.size = xb at *
            have G6 := Hd (An gB (An gS6 gx))
            clear gB gS6 gx hb5
            rename_i hjunk
            clear hjunk
            go_wp2_with fail
            go_loopg [7, 35] 2 (fun m v7 v35 wt => ∃ (k : Nat) (nx : List Nat) (f' : Lit -> Option Value), k <= 2 /\ m = 2 - k /\ v35 = .int .i64 k /\ nx = ([X, Y].take k).foldl addF next /\ SpW s wo wt nx (2 * j + k) f' v7 /\
              Blk wt xb 26 #[.int .u64 (wd X 0), .int .u64 (wd X 1), .int .u64 (wd X 2), .int .u64 (wd X 3), .int .u64 (wd Y 0), .int .u64 (wd Y 1), .int .u64 (wd Y 2), .int .u64 (wd Y 3)] /\ ∀ b, v7.ownBlock = some b -> b ≠ xb)
            case atStart => exact ⟨0, next, f, by omega, rfl, rfl, rfl, G6.out.2.1, G6.out.1, G6.out.2.2⟩
            case round =>
              obtain ⟨k, nx, f', hk, hm, rfl, hnx, hS, hB, hne⟩ := hrel
              obtain ⟨ma, mc, rfl⟩ := own_shape hS.own
              by_cases hk2 : k < 2
              · obtain ⟨x, hx256, hfold, c0, c1, c2, c3⟩ : ∃ x, x < 2 ^ 256 /\ ([X, Y].take (k + 1)).foldl addF next = addF nx x /\ wr.cell? ⟨xb, k * 4, none⟩ = some (.int .u64 (wd x 0)) /\ wr.cell? ⟨xb, k * 4 + 1, none⟩ = some (.int .u64 (wd x 1)) /\
                    wr.cell? ⟨xb, k * 4 + 2, none⟩ = some (.int .u64 (wd x 2)) /\ wr.cell? ⟨xb, k * 4 + 3, none⟩ = some (.int .u64 (wd x 3)) := by
                  rcases (show k = 0 ∨ k = 1 by omega) with rfl | rfl
                  · exact ⟨X, R.out.2.2.1, by rw [hnx]; rfl, hB.cell 0, hB.cell 1, hB.cell 2, hB.cell 3⟩
                  · exact ⟨Y, R.out.2.2.2, by rw [hnx]; rfl, hB.cell 4, hB.cell 5, hB.cell 6, hB.cell 7⟩
                obtain ⟨n, hn0, hnc, hval, hin⟩ := hS.met.val x hx256
                have hz := wd_zero_iff x hx256
                have hk0 : (0 : Int) <= (k : Int) := by omega
                have hk1 : (k : Int) < 2 := by omega
                have hlen := hS.len
                have T := Hd (An hm (An hS (An hB (An hne (An hnx (An hfold (An hin (An hx256 hz))))))))
                clear hm hS hB hne hnx hfold hin hx256 hz
                obtain ⟨wt, rfl⟩ : ∃ wt : World, wt = wr := ⟨_, rfl⟩
                go_wp2_with fail
                have hbW : Below wt.heap.size wt (wt.alloc (.cells #[.int .u64 (wd x 0), .int .u64 (wd x 1), .int .u64 (wd x 2), .int .u64 (wd x 3)] 26)).drew := ((Below.refl _ wt).alloc (Nat.le_refl _) _).drew
                have hXW : Blk (wt.alloc (.cells #[.int .u64 (wd x 0), .int .u64 (wd x 1), .int .u64 (wd x 2), .int .u64 (wd x 3)] 26)).drew wt.heap.size 26 #[.int .u64 (wd x 0), .int .u64 (wd x 1), .int .u64 (wd x 2), .int .u64 (wd x 3)] := Blk.new _ _ _
                have hSW := T.out.2.1.keep hbW
                have hBW := T.out.2.2.1.below hbW T.out.2.2.1.lt
                have hxw : xb < wt.heap.size := T.out.2.2.1.lt
                obtain ⟨w7, hw7⟩ : ∃ w7, (wt.alloc (.cells #[.int .u64 (wd x 0), .int .u64 (wd x 1), .int .u64 (wd x 2), .int .u64 (wd x 3)] 26)) = w7 := ⟨_, rfl⟩
                rw [hw7] at hbW hXW hSW hBW ⊢
                clear hw7
                have htb : wo.heap.size + 2 <= wt.heap.size := T.out.2.1.size
                have htm : wt.heap.size ≠ wo.heap.size + 1 := by omega
                obtain ⟨tb, htbe⟩ : ∃ tb, wt.heap.size = tb := ⟨_, rfl⟩
                rw [htbe] at hXW htm hxw ⊢
                obtain ⟨v0, st, W1, he1, hcell, hst⟩ := hSW.map.entry setLaw Tryz.underlying169 (z := .int .i64 0) (fun u => Tryz.zeroValue3 u) (by unfold maxLen; omega) (keyOf_set x)
                have hl1 := hSW.map.entry_look setLaw Tryz.underlying169 (z := .int .i64 0) (fun u => Tryz.zeroValue3 u) (by unfold maxLen; omega) (keyOf_set x) he1
                have hl0 := hSW.map.lookup (Keyed.of_law setLaw) Tryz.underlying169 (Tryz.zeroValue3 w7.drew) (keyOf_set x)
                rw [hval] at hl0 hl1
                obtain ⟨W2, he2, hm2, hg2⟩ := hst (.int .i64 (n + 1))
                obtain ⟨x0, x1, x2, x3, _⟩ := hXW.facts4
                have y0 := (hcell ⟨tb, 0, none⟩ htm).trans x0
                have y1 := (hcell ⟨tb, 1, none⟩ htm).trans x1
                have y2 := (hcell ⟨tb, 2, none⟩ htm).trans x2
                have y3 := (hcell ⟨tb, 3, none⟩ htm).trans x3
                have hX2 := hXW.grown hg2 (by intro e; injection e with e; exact htm e)
                have hB2 := hBW.grown hg2 (by intro e; injection e with e; omega)
                obtain ⟨z0, z1, z2, z3, _⟩ := hX2.facts4
                have T2 := Hd (An hSW (An hm2 (An hg2 hB2)))
                clear hbW hXW hSW hBW hst hcell hm2 hg2 hX2 hB2 htbe
                apply via
                · intro KV
                  go_region
                  all_goals (try go_simp)
                  all_goals exact KV.out
                intros
                clear hl0 hl1 he1 he2 x0 x1 x2 x3 y0 y1 y2 y3
                by_cases hx0 : x = 0
                · have hd : decide (wd x 0 = 0 /\ wd x 1 = 0 /\ wd x 2 = 0 /\ wd x 3 = 0) = true := decide_eq_true (T.out.2.2.2.2.2.2.2.2.2 hx0)
                  have HX := Hd hx0
                  clear hx0
                  go_wp2_with fail
                  go_roundg (2 - (k + 1))
                  case measure => have := T.out.1; omega
                  case rel => exact ⟨k + 1, addF nx x, _, by omega, rfl, rfl, T.out.2.2.2.2.2.1.symm, T2.out.1.old T.out.2.2.2.2.2.2.2.1 hn0 hnc T.out.2.2.2.2.2.2.1 (.inl HX.out) T2.out.2.1 T2.out.2.2.1, T2.out.2.2.2, T.out.2.2.2.1⟩
                · have hd : decide (wd x 0 = 0 /\ wd x 1 = 0 /\ wd x 2 = 0 /\ wd x 3 = 0) = false := by rw [decide_eq_false_iff_not]; exact fun h => hx0 (T.out.2.2.2.2.2.2.2.2.1 h)
                  have hput : putV f' (keyS x) (.int .i64 (n + 1)) (keyS x) = some (.int .i64 (n + 1)) := putV_same f' _ ((Keyed.of_law setLaw).key (keyOf_set x))
                  have hmap2 : MapV Tryz.prog 26 W2 (wo.heap.size + 1) (2 * j + k + 1) (putV f' (keyS x) (.int .i64 (n + 1))) := T2.out.2.1
                  have hlk := hmap2.lookup (Keyed.of_law setLaw) Tryz.underlying169 (Tryz.zeroValue3 W2) (keyOf_set x)
                  rw [hput] at hlk
                  have hlk : (Instr.lookup 169 (.map (some (wo.heap.size + 1))) (.agg #[.int .u64 (wd x 0), .int .u64 (wd x 1), .int .u64 (wd x 2), .int .u64 (wd x 3)]) false).run Tryz.prog W2 = .ok (.int .i64 (n + 1)) W2 := hlk
                  have HM2 := Hd hmap2
                  clear hmap2 hput
                  have HX := Hd hx0
                  clear hx0
                  by_cases hn : n = 0
                  · have hni : x ∉ nx := fun h => (T.out.2.2.2.2.2.2.1 HX.out).1 h hn
                    have hn1 : ((n + 1 : Int) == 1) = true := by simp; omega
                    obtain ⟨m1, m2, m3⟩ := T2.out.1.mid T2.out.2.1 T2.out.2.2.1
                    have hsz2 : wo.heap.size + 2 <= W2.heap.size := Nat.le_trans T2.out.1.size T2.out.2.2.1.size
                    have hxl : xb < W2.heap.size := T2.out.2.2.2.lt
                    have hadd : addF nx x = nx ++ [x] := by unfold addF; rw [if_neg (fun h => h.elim HX.out hni)]
                    have M := Hd (An m1 (An m2 (An m3 (An hni (An hn hadd)))))
                    clear m1 m2 m3 hni hn hadd
                    obtain ⟨i0, hi, hz0, hz1, hz2⟩ := info_parts infoSet
                    go_wp2_with (first
                      | (at_builtin; go_loud (refine wpList_append_ownF _ rfl _ _ 137 rfl (wo.heap.size + 2) 26 i0 (.agg #[.int .u64 0, .int .u64 0, .int .u64 0, .int .u64 0]) 4 32 Tryz.underlying137 hi hz0 hz1 hz2 rfl (by decide) _ nx.length _ rfl (M.out.1.alloc _) ⟨W2.heap.size, 0, none⟩ 1 1 (encSet x) rfl rfl ?c1 ?c2 ?c3 ?c4 ?c5 ?_)))
                    case c1 => exact setCells_blk W2 x
                    case c2 => exact encSet_one' x
                    case c3 => unfold maxLen; omega
                    case c4 => omega
                    case c5 => simp; omega
                    intro v' w8 hown8 hg8 hfr8
                    have hg28 : W2.grownBy w8 (Value.slice ma nx.length mc).ownBlock := World.grownBy.trans (World.grownBy_alloc _ _ _) hg8
                    have hm8 := HM2.out.grown hg28 (by intro e; have := M.out.1.lt _ e.symm; omega)
                    have hs8 := M.out.2.1.grown hg28 (by intro e; have := M.out.1.lt _ e.symm; omega)
                    have hb8 := T2.out.2.2.2.grown hg28 (by intro e; exact T.out.2.2.2.1 _ e.symm rfl)
                    have hbl8 : Below wo.heap.size W2 w8 := ⟨hg28.os, hg28.tape, hg28.output, hg28.size, fun q hq => hg28.block q (by omega) (by intro e; have := (M.out.1.lt _ e.symm).1; omega)⟩
                    have hne8 : ∀ b, v'.ownBlock = some b -> b ≠ xb := fun b hb => by
                      rcases hfr8 b hb with h | h
                      · exact T.out.2.2.2.1 b h
                      · first | omega | (simp at h; omega)
                    have hsp : SpW s wo w8 (addF nx x) (2 * j + k + 1) (putV f' (keyS x) (.int .i64 (n + 1))) v' := by
                      refine ⟨?_, hm8, T2.out.1.met.step x T.out.2.2.2.2.2.2.2.1 hn0 hnc T.out.2.2.2.2.2.2.1, hs8, M.out.2.2.1.trans hbl8, Nat.le_trans hsz2 hg28.size, ?_⟩
                      · rw [M.out.2.2.2.2.2, <- flatK_snoc, List.length_append]; exact hown8
                      · rw [M.out.2.2.2.2.2, List.length_append]; simp; omega
                    have F8 := Hd (An hsp (An hb8 hne8))
                    clear hown8 hg8 hfr8 hg28 hm8 hs8 hb8 hbl8 hne8 hsp
                    go_wp2_with fail
                    go_roundg (2 - (k + 1))
                    case measure => have := T.out.1; omega
                    case rel => exact ⟨k + 1, addF nx x, _, by omega, rfl, rfl, T.out.2.2.2.2.2.1.symm, F8.out.1, F8.out.2.1, F8.out.2.2⟩
                  · have hi : x ∈ nx := (T.out.2.2.2.2.2.2.1 HX.out).2 hn
                    have hn1 : ((n + 1 : Int) == 1) = false := by simp; omega
                    have HI := Hd hi
                    clear hi
                    go_wp2_with fail
                    go_roundg (2 - (k + 1))
                    case measure => have := T.out.1; omega
                    case rel => exact ⟨k + 1, addF nx x, _, by omega, rfl, rfl, T.out.2.2.2.2.2.1.symm, T2.out.1.old T.out.2.2.2.2.2.2.2.1 hn0 hnc T.out.2.2.2.2.2.2.1 (.inr HI.out) T2.out.2.1 T2.out.2.2.1, T2.out.2.2.2, T.out.2.2.2.1⟩
              · obtain rfl : k = 2 := by omega
                have T := Hd (An hnx hS)
                clear hnx hS hB hne hm
                go_wp2_with fail
                go_roundg (N - (j + 1))
                case measure => have := Q.out.1; omega
                case rel =>
                  refine ⟨j + 1, nx, f', by omega, rfl, rfl, ?_, ?_⟩
                  · rw [Q.out.2.2.1, R.out.2.1, T.out.1]; rfl
                  · rw [show 2 * (j + 1) = 2 * j + 2 by omega]; exact T.out.2
        · obtain rfl : j = N := by omega
          have Q := Hd (An hnx hS)
          clear hnx hS hm
          go_wp2_with fail
          go_roundg (l.length - (i + 1))
          case measure => have := A.out.1; omega
          case rel =>
            refine ⟨i + 1, next, by omega, rfl, rfl, ?_, own_low Q.out.2.own (by have := A.out.2.2.1.size; omega), A.out.2.2.1.trans (Q.out.2.below.mono A.out.2.2.1.size)⟩
            rw [A.out.2.2.2.1, splitStep_eq, Q.out.1, <- HN.out, List.take_length]
    · obtain rfl : i = l.length := by omega
      rw [List.take_length] at hparts
      obtain ⟨pa, pc, rfl⟩ := own_shape hown
      have A := Hd (An hparts (An hown (An hb hPp)))
      clear hm hown hb hPp hparts
      obtain ⟨N, hN⟩ : ∃ N, parts.length = N := ⟨_, rfl⟩
      rw [hN] at hpl ⊢
      have HN := Hd hN
      clear hN
      go_wp2_with fail
      have hcall := HK.out.2.2 parts _ _ A.out.2.2.2 A.out.2.1 A.out.2.2.1
      rw [HN.out] at hcall
      refine hcall.mono ?_
      rintro e w3 ⟨rfl, ho3, hg3⟩
      clear hcall
      have H3 := Hd (An ho3 hg3)
      clear ho3 hg3
      go_wp2_with fail
      go_ret
      have hsp : splitF l = parts.foldr insSet [] := by unfold splitF; rw [<- A.out.1]
      have hspl : (parts.foldr insSet []).length = N := by rw [(sortSet_perm parts).length_eq, HN.out]
      refine ⟨_, rfl, ?_, ?_⟩
      · rw [hsp, hspl]; exact H3.out.1
      · exact A.out.2.2.1.trans ⟨H3.out.2.os, H3.out.2.tape, H3.out.2.output, H3.out.2.size, fun k hk => H3.out.2.block k (by have := A.out.2.2.1.size; omega) (by intro e; have := A.out.2.1.lt k (by rw [HN.out]; exact e.symm); omega)⟩
end Go.Proofs.YtknpkndiflodbaaGreatDoor.Tb
namespace Go.Proofs.YtknpkndiflodbaaGreatDoor.Tb
open Go Go.RowKit Go.Proofs Mx
theorem split_any (D : Nat -> Prop) (l : List Nat) (hlt : ∀ s ∈ l, s < 2 ^ 256) (v : Value) (w : World) (hv : SliceK D encSet 4 w v l) (hT : Bru w) (h6 : LB <= w.heap.size) :
  Calls Tryz.prog 69 #[v] w fun e w' => ∃ v', e = .returned v' /\ w'.ownsRow w.heap.size 26 4 v' (splitF l).length (flatK encSet (splitF l)) /\ Below w.heap.size w w' :=
 split_core D l hlt v w hv (fun parts v W hp ho hb => sortSets_any parts hp w.heap.size v W ho (hT.below hb h6) h6)
theorem splitF_parts {l : List Nat} (h : ∀ s ∈ l, s < 2 ^ 256) : Parts (l.foldl splitStep [2 ^ 256 - 1]) := parts_all l _ h full_parts
theorem splitF_len {l : List Nat} (h : ∀ s ∈ l, s < 2 ^ 256) : (splitF l).length <= 256 := by
 unfold splitF
 rw [(sortSet_perm _).length_eq]
 exact parts_len (splitF_parts h)
theorem splitF_lt {l : List Nat} (h : ∀ s ∈ l, s < 2 ^ 256) : ∀ c ∈ splitF l, c < 2 ^ 256 /\ c ≠ 0 := fun c hc => by
 have h1 := (sortSet_perm (l.foldl splitStep [2 ^ 256 - 1])).mem_iff.1 hc
 have h2 := (splitF_parts h).1 c h1
 exact ⟨h2.2, h2.1⟩
end Go.Proofs.YtknpkndiflodbaaGreatDoor.Tb
