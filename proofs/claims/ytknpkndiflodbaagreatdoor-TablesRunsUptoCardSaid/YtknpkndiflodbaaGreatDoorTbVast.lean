/-
  WALKS: vast of the law.
-/
import Derived.Test.YtknpkndiflodbaaGreatDoorTbOpen
import Derived.Test.YtknpkndiflodbaaGreatDoorTbRefA
set_option linter.unusedVariables false
set_option linter.unusedSimpArgs false
namespace Go.Proofs.YtknpkndiflodbaaGreatDoor.Tb
open Go Go.RowKit Go.Proofs Go.Maps Mx
def vastB (g : Gr) : Bool :=
  decide (30 < g.sorts.length) || decide (30 < g.prods.length) || decide (200 < g.forbid.length) || decide (200 < g.follow.length) || g.prods.any (fun p => decide (200 < p.cons.length)) || decide (60 < (g.prods.map (·.right.length)).sum)
section
variable {w w' : World} {N : Nat} {g : Gr} {sv pv fv lv : Value}
theorem ProdOk.keep {x : Value × Pr} (h : ProdOk w N x) (hb : Below w.heap.size w w') : ProdOk w' N x := ⟨h.right.all hb, h.len, h.cons, h.sym, h.left, h.role, h.made⟩
theorem GramAt.keep (h : GramAt w N g sv pv fv lv) (hb : Below w.heap.size w w') : GramAt w' N g sv pv fv lv := by
  obtain ⟨l, h1, h2, h3⟩ := h.prods
  exact ⟨h.sorts.all hb, ⟨l, h1.all hb, fun x hx => (h2 x hx).keep hb, h3⟩, h.forbid.all hb, h.follow.all hb, h.nsorts, h.str, h.nprods, h.nforbid, h.nfollow, h.fb, h.fo, h.start⟩
theorem GramAt.prodsAt (h : GramAt w N g sv pv fv lv) : ProdsAt (fun _ => True) w pv g.prods := by
  obtain ⟨l, h1, h2, h3⟩ := h.prods
  exact ⟨l, ⟨h1, fun x hx => (h2 x hx).right⟩, h3⟩
theorem GramAt.ok (h : GramAt w N g sv pv fv lv) : ∀ p ∈ g.prods, p.right.length ≤ N ∧ p.cons.length ≤ N ∧ (∀ s ∈ p.right, SymOk s) ∧ I64 p.left ∧ I64 p.role ∧ I64 p.made := by
  obtain ⟨l, h1, h2, h3⟩ := h.prods
  intro p hp
  rw [← h3] at hp
  obtain ⟨x, hx, rfl⟩ := List.mem_map.1 hp
  have := h2 x hx
  exact ⟨this.len, this.cons, this.sym, this.left, this.role, this.made⟩
theorem slice_shape {α : Type} {D : Nat → Prop} {en : α → List Value} {k : Nat} {v : Value} {l : List α} (h : SliceK D en k w v l) : ∃ a c, v = .slice a l.length c := by
  obtain ⟨a, c, e, _⟩ := h
  exact ⟨a, c, e⟩
theorem prodsAt_shape {D : Nat → Prop} {ps : List Pr} (h : ProdsAt D w pv ps) : ∃ a c, pv = .slice a ps.length c := by
  obtain ⟨l, hl, e⟩ := h
  obtain ⟨a, c, e1, _⟩ := hl.row
  exact ⟨a, c, by rw [e1, ← e, List.length_map]⟩
end
theorem vast_true {g : Gr} (h : 30 < g.sorts.length ∨ 30 < g.prods.length ∨ 200 < g.forbid.length ∨ 200 < g.follow.length ∨ (∃ p ∈ g.prods, 200 < p.cons.length)) : true = vastB g := by
  unfold vastB
  symm
  simp only [Bool.or_eq_true, decide_eq_true_eq, List.any_eq_true]
  rcases h with h | h | h | h | h
  · exact .inl (.inl (.inl (.inl (.inl h))))
  · exact .inl (.inl (.inl (.inl (.inr h))))
  · exact .inl (.inl (.inl (.inr h)))
  · exact .inl (.inl (.inr h))
  · exact .inl (.inr h)
set_option maxRecDepth 100000 in
set_option maxHeartbeats 8000000 in
theorem vast_any (g : Gr) (N : Nat) (hN : N ≤ 2000000) (w : World) (sv pv fv lv : Value) (hG : GramAt w N g sv pv fv lv) :
    Calls Tryz.prog 13 #[.agg #[sv, pv, .int .i64 g.start, fv, lv]] w fun e w' => e = .returned (.bool (vastB g)) ∧ Below w.heap.size w w' := by
  obtain ⟨sa, sc, rfl⟩ := slice_shape hG.sorts
  obtain ⟨pa, pc, rfl⟩ := prodsAt_shape hG.prodsAt
  obtain ⟨fa, fc, rfl⟩ := slice_shape hG.forbid
  obtain ⟨la, lc, rfl⟩ := slice_shape hG.follow
  have n1 := hG.nsorts
  have n2 := hG.nprods
  have n3 := hG.nforbid
  have n4 := hG.nfollow
  have H := Lib.hid (And.intro hG.prodsAt hG.ok)
  clear hG
  go_enter Tryz.func13, Tryz.ntmps13
  have hbl := (Below.refl w.heap.size w).alloc (Nat.le_refl _) (.cells #[.slice sa g.sorts.length sc, .slice pa g.prods.length pc, .int .i64 g.start, .slice fa g.forbid.length fc, .slice la g.follow.length lc] 39)
  have HB := Lib.hid hbl
  by_cases c1 : 30 < g.sorts.length
  · have d1 : (30 : Int) < (g.sorts.length : Int) := by omega
    have HV := Lib.hid (vast_true (.inl c1))
    clear c1 hbl
    go_wp2_with fail
    go_ret
    exact ⟨ret_bool HV.out, HB.out⟩
  have d1 : ¬ (30 : Int) < (g.sorts.length : Int) := by omega
  by_cases c2 : 30 < g.prods.length
  · have d2 : (30 : Int) < (g.prods.length : Int) := by omega
    have HV := Lib.hid (vast_true (.inr (.inl c2)))
    clear c1 c2 hbl
    go_wp2_with fail
    go_ret
    exact ⟨ret_bool HV.out, HB.out⟩
  have d2 : ¬ (30 : Int) < (g.prods.length : Int) := by omega
  by_cases c3 : 200 < g.forbid.length
  · have d3 : (200 : Int) < (g.forbid.length : Int) := by omega
    have HV := Lib.hid (vast_true (.inr (.inr (.inl c3))))
    clear c1 c2 c3 hbl
    go_wp2_with fail
    go_ret
    exact ⟨ret_bool HV.out, HB.out⟩
  have d3 : ¬ (200 : Int) < (g.forbid.length : Int) := by omega
  by_cases c4 : 200 < g.follow.length
  · have d4 : (200 : Int) < (g.follow.length : Int) := by omega
    have HV := Lib.hid (vast_true (.inr (.inr (.inr (.inl c4)))))
    clear c1 c2 c3 c4 hbl
    go_wp2_with fail
    go_ret
    exact ⟨ret_bool HV.out, HB.out⟩
  have d4 : ¬ (200 : Int) < (g.follow.length : Int) := by omega
  have HC := Lib.hid (And.intro c1 (And.intro c3 c4))
  clear c1 c3 c4
  go_wp2_with fail
  clear d1 d2 d3 d4 n1 n3 n4
  have hB1 : Blk (w.alloc (.cells #[.slice sa g.sorts.length sc, .slice pa g.prods.length pc, .int .i64 g.start, .slice fa g.forbid.length fc, .slice la g.follow.length lc] 39)) w.heap.size 39 #[.slice sa g.sorts.length sc, .slice pa g.prods.length pc, .int .i64 g.start, .slice fa g.forbid.length fc, .slice la g.follow.length lc] := Blk.new _ _ _
  generalize (w.alloc (.cells #[.slice sa g.sorts.length sc, .slice pa g.prods.length pc, .int .i64 g.start, .slice fa g.forbid.length fc, .slice la g.follow.length lc] 39)) = W1 at hB1 hbl HB ⊢
  clear hbl
  have q1 := hB1.cell 1
  simp at q1
  have hp30 : g.prods.length ≤ 30 := by omega
  clear c2
  go_loopg [3, 4] g.prods.length (fun m v3 v4 wr => ∃ i : Nat, i ≤ g.prods.length ∧ m = g.prods.length - i ∧ v4 = .int .i64 i ∧ v3 = .int .i64 (((g.prods.take i).map (·.right.length)).sum : Nat) ∧ ((g.prods.take i).map (·.right.length)).sum ≤ 2000000 * i ∧ (∀ p ∈ g.prods.take i, p.cons.length ≤ 200) ∧ wr = W1)
  case atStart => exact ⟨0, Nat.zero_le _, rfl, rfl, by simp, by simp, by simp, rfl⟩
  case round =>
    obtain ⟨i, hi, hm, rfl, rfl, hsum, hcons, rfl⟩ := hrel
    by_cases hlt : i < g.prods.length
    · obtain ⟨p, hp⟩ : ∃ p, g.prods[i]? = some p := ⟨_, List.getElem?_eq_getElem hlt⟩
      obtain ⟨cap, b, o, vr, epv, hbl, hvr, hpc⟩ := H.out.1.at_ hp
      injection epv with e1 e2 e3
      subst e1
      subst e3
      obtain ⟨ra, rc, rfl, _, _, _⟩ := hvr
      have f1 := (World.cell?_of_block (HB.out.block b hbl)).trans (hpc 1 _ rfl)
      have f2 := (World.cell?_of_block (HB.out.block b hbl)).trans (hpc 2 _ rfl)
      have hok := H.out.2 p (List.mem_of_getElem? hp)
      have hr := hok.1
      have hcl := hok.2.1
      have hi0 : (0 : Int) ≤ (i : Int) := by omega
      have hi1 : (i : Int) < (g.prods.length : Int) := by omega
      have hS2 : ((g.prods.take (i + 1)).map (·.right.length)).sum = ((g.prods.take i).map (·.right.length)).sum + p.right.length := by
        rw [List.take_add_one, hp]; simp
      obtain ⟨S, hS⟩ : ∃ S, ((g.prods.take i).map (·.right.length)).sum = S := ⟨_, rfl⟩
      rw [hS] at hS2 hsum ⊢
      have HS := Lib.hid (And.intro hS2 (And.intro hp (And.intro hcons (And.intro hm hS))))
      clear hS2 hS hp hok hpc hcons hm
      by_cases hc : 200 < p.cons.length
      · have hd : (200 : Int) < (p.cons.length : Int) := by omega
        have HV := Lib.hid (vast_true (.inr (.inr (.inr (.inr ⟨p, List.mem_of_getElem? HS.out.2.1, hc⟩)))))
        clear hc
        go_wp2_with fail
        go_ret
        exact ⟨ret_bool HV.out, HB.out⟩
      · have hd : ¬ (200 : Int) < (p.cons.length : Int) := by omega
        have HD := Lib.hid hc
        clear hc
        go_wp2_with fail
        go_roundg (g.prods.length - (i + 1))
        case measure => have := HS.out.2.2.2.1; omega
        case rel =>
          refine ⟨i + 1, by omega, rfl, rfl, by rw [HS.out.1]; simp, by rw [HS.out.1]; omega, ?_, rfl⟩
          intro x hx
          rw [List.take_add_one, HS.out.2.1] at hx
          rcases List.mem_append.1 hx with hx | hx
          · exact HS.out.2.2.1 x hx
          · simp at hx; subst hx; have := HD.out; omega
    · obtain rfl : i = g.prods.length := by omega
      rw [List.take_length] at hcons hsum ⊢
      have hany : g.prods.any (fun p => decide (200 < p.cons.length)) = false := by
        rw [List.any_eq_false]; intro p hp; have := hcons p hp; simp; omega
      obtain ⟨S, hS⟩ : ∃ S, (g.prods.map (·.right.length)).sum = S := ⟨_, rfl⟩
      have hV : vastB g = decide (60 < S) := by
        unfold vastB
        rw [hany, hS]
        have := HC.out
        simp [this.1, this.2.1, this.2.2]
        omega
      rw [hS] at hsum ⊢
      have HV := Lib.hid hV
      clear hV hS hany hcons hm
      by_cases hs : 60 < S
      · have hd : (60 : Int) < (S : Int) := by omega
        have HD := Lib.hid hs
        clear hs
        go_wp2_with fail
        go_ret
        exact ⟨ret_bool (by rw [HV.out]; simp [HD.out]), HB.out⟩
      · have hd : ¬ (60 : Int) < (S : Int) := by omega
        have HD := Lib.hid hs
        clear hs
        go_wp2_with fail
        go_ret
        exact ⟨ret_bool (by rw [HV.out]; simp; have := HD.out; omega), HB.out⟩
end Go.Proofs.YtknpkndiflodbaaGreatDoor.Tb
