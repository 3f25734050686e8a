/-
  WHAT A GRAMMAR MAY BE; WALKS of package kernel: sorts, of any grammar.
-/
import Derived.Test.YtknpkndiflodbaaGreatDoorTbCheckA
import Derived.Test.YtknpkndiflodbaaGreatDoorTbRefA
set_option linter.unusedVariables false
set_option linter.unusedSimpArgs false
namespace Go.Proofs.YtknpkndiflodbaaGreatDoor.Tb
open Go Go.RowKit Go.Proofs Go.Maps Mx
def sortsB (g : Gr) : Bool := g.sorts.all (fun s => !s.isEmpty && decide (s.length ≤ 1000)) && decide g.sorts.Nodup && decide (1 ≤ g.sorts.length) && decide (g.sorts.length ≤ 1000) && decide (0 ≤ g.start) && decide (g.start < g.sorts.length)
theorem sortsB_iff (g : Gr) : sortsB g = true ↔ SortsOk g := by
  unfold sortsB
  simp only [Bool.and_eq_true, decide_eq_true_eq, List.all_eq_true, Bool.not_eq_true', List.isEmpty_eq_false_iff]
  constructor
  · rintro ⟨⟨⟨⟨⟨h1, h2⟩, h3⟩, h4⟩, h5⟩, h6⟩
    exact ⟨h2, h1, h3, h4, h5, h6⟩
  · rintro ⟨h1, h2, h3, h4, h5, h6⟩
    exact ⟨⟨⟨⟨⟨h2, h1⟩, h3⟩, h4⟩, h5⟩, h6⟩
theorem sortsB_no {g : Gr} {b : Bool} (h : ¬ SortsOk g) (hb : b = false) : b = sortsB g := by
  rw [hb]
  cases h2 : sortsB g with
  | false => rfl
  | true => exact absurd ((sortsB_iff g).1 h2) h
set_option maxRecDepth 100000 in
set_option maxHeartbeats 8000000 in
theorem sorts_any (D : Nat → Prop) (g : Gr) (hN : g.sorts.length ≤ 2000000) (hS : ∀ s ∈ g.sorts, s.length ≤ 2000000) (w : World) (sv pv fv lv : Value) (hs : SliceK D encS 1 w sv g.sorts) :
    Calls Tryz.prog 37 #[.agg #[sv, pv, .int .i64 g.start, fv, lv]] w fun e w' => e = .returned (.bool (sortsB g)) ∧ Below w.heap.size w w' := by
  obtain ⟨a, c, rfl, hc1, hc2, hk⟩ := hs
  have hmm := @run_makeMap Tryz.prog
  have HK := Lib.hid (And.intro hk hS)
  clear hk hS
  go_enter Tryz.func37, Tryz.ntmps37
  go_wp2_with fail
  have hB1 : Blk ((w.alloc (.cells #[.slice a g.sorts.length c, pv, .int .i64 g.start, fv, lv] 39)).alloc (.map #[] 0)) w.heap.size 39 #[.slice a g.sorts.length c, pv, .int .i64 g.start, fv, lv] := (Blk.new _ _ _).alloc _
  have hM1 : MapV Tryz.prog 9 ((w.alloc (.cells #[.slice a g.sorts.length c, pv, .int .i64 g.start, fv, lv] 39)).alloc (.map #[] 0)) (w.heap.size + 1) 0 (fun _ => none) := by
    have := MapV.made (w.alloc (.cells #[.slice a g.sorts.length c, pv, .int .i64 g.start, fv, lv] 39)) Tryz.prog 9
    simpa using this
  have hb1 : Below w.heap.size w ((w.alloc (.cells #[.slice a g.sorts.length c, pv, .int .i64 g.start, fv, lv] 39)).alloc (.map #[] 0)) := ((Below.refl _ w).alloc (Nat.le_refl _) _).alloc (by simp) _
  have hz1 : w.heap.size + 2 ≤ ((w.alloc (.cells #[.slice a g.sorts.length c, pv, .int .i64 g.start, fv, lv] 39)).alloc (.map #[] 0)).heap.size := by simp
  generalize (w.alloc (.cells #[.slice a g.sorts.length c, pv, .int .i64 g.start, fv, lv] 39)).alloc (.map #[] 0) = W1 at hB1 hM1 hb1 hz1 ⊢
  have H1 := Lib.hid (And.intro hB1 (And.intro hM1 (And.intro hb1 hz1)))
  clear hB1 hM1 hb1 hz1
  go_loopg [10] g.sorts.length (fun m v10 wr => ∃ (i : Nat) (f : Lit → Option Value), i ≤ g.sorts.length ∧ m = g.sorts.length - i ∧ v10 = .int .i64 i ∧ MapV Tryz.prog 9 wr (w.heap.size + 1) i f ∧
    (∀ s, f (.string s) = if s ∈ g.sorts.take i then some (.int .i64 1) else none) ∧ Below w.heap.size w wr ∧ Blk wr w.heap.size 39 #[.slice a g.sorts.length c, pv, .int .i64 g.start, fv, lv] ∧ (g.sorts.take i).Nodup ∧ ∀ s ∈ g.sorts.take i, s ≠ [] ∧ s.length ≤ 1000)
  case atStart => exact ⟨0, _, by omega, rfl, rfl, H1.out.2.1, (fun s => by simp), H1.out.2.2.1, H1.out.1, by simp, by simp⟩
  case round =>
    obtain ⟨i, f, hi, hm, rfl, hM, hf, hb, hB, hnd, heach⟩ := hrel
    have q0 := hB.cell 0
    have q2 := hB.cell 2
    simp at q0 q2
    by_cases hlt : i < g.sorts.length
    · obtain ⟨s, hsi⟩ : ∃ s, g.sorts[i]? = some s := ⟨_, List.getElem?_eq_getElem hlt⟩
      obtain ⟨kg, ko, rfl, hkD, hkr⟩ := HK.out.1 (by rintro h; rw [h] at hlt; simp at hlt)
      have k0 := hkr.cells i _ hsi 0 _ rfl
      simp only [Nat.add_zero, Nat.mul_one] at k0
      have k0 := (World.cell?_of_block (hb.block kg hkr.lt)).trans k0
      have hsm := HK.out.2 s (List.mem_of_getElem? hsi)
      have hkey : keyOf Tryz.prog 9 (.string ⟨s.toArray⟩) = some (.string s) := by
        have h1 := WideMaps.keyOf_string_mk (P := Tryz.prog) (k := 9) Tryz.underlying9 (s := ⟨s.toArray⟩) (by unfold maxLen; show s.toArray.size ≤ _; simp; omega)
        simpa using h1
      obtain ⟨cn, hcn⟩ : ∃ cn : Nat, (if s ∈ g.sorts.take i then some (Value.int .i64 1) else none).getD (.int .i64 0) = .int .i64 (cn : Int) ∧ (cn = 0 ∨ cn = 1) ∧ (cn = 0 ↔ s ∉ g.sorts.take i) := by
        by_cases h : s ∈ g.sorts.take i
        · exact ⟨1, by rw [if_pos h]; rfl, .inr rfl, by simp [h]⟩
        · exact ⟨0, by rw [if_neg h]; rfl, .inl rfl, by simp [h]⟩
      obtain ⟨hcv, hc01, hcm⟩ := hcn
      have hlk : (Instr.lookup 92 (.map (some (w.heap.size + 1))) (.string ⟨s.toArray⟩) false).run Tryz.prog wr = .ok (.int .i64 (cn : Int)) wr := by
        have h1 := hM.lookup (string_keyed Tryz.underlying9) Tryz.underlying92 (Tryz.zeroValue3 wr) hkey
        rw [hf, hcv] at h1
        exact h1
      have hi0 : (0 : Int) ≤ (i : Int) := by omega
      have hi1 : (i : Int) < (g.sorts.length : Int) := by omega
      have hmx : i < maxLen := by unfold maxLen; omega
      have hcn0 : (0 : Int) ≤ (cn : Int) := by omega
      have hcn1 : (cn : Int) ≤ 1 := by omega
      have HMv := Lib.hid hM
      have HR := Lib.hid (And.intro hm (And.intro hf (And.intro hb (And.intro hB (And.intro hsi (And.intro hcm (And.intro hnd heach)))))))
      clear hm hf hb hB hsi hcv hc01 hcm hM hkr q0 q2 hnd heach
      go_wp2_with (at_mapUpdate; refine wpList_mapUpdateV _ rfl _ _ _ 92 rfl 9 3 (string_keyed Tryz.underlying9) Tryz.underlying92 (w.heap.size + 1) i f rfl ?_ hmx _ _ _ rfl rfl hkey ?_; exact HMv.out)
      intro w5 hm5 hg5
      have hlk5 : (Instr.lookup 92 (.map (some (w.heap.size + 1))) (.string ⟨s.toArray⟩) false).run Tryz.prog w5 = .ok (.int .i64 ((cn : Int) + 1)) w5 := by
        have h1 := hm5.lookup (string_keyed Tryz.underlying9) Tryz.underlying92 (Tryz.zeroValue3 w5) hkey
        rw [putV_string, if_pos rfl] at h1
        exact h1
      have hb5 : Below w.heap.size w w5 := HR.out.2.2.1.trans (below_of_grown hg5 HR.out.2.2.1.size (Nat.le_succ _))
      have hB5 := HR.out.2.2.2.1.grown hg5 (by simp)
      have HS := Lib.hid (And.intro hm5 (And.intro hb5 hB5))
      clear hm5 hb5 hB5 hg5 hlk
      cases hse : s.isEmpty with
      | true =>
        have HV := Lib.hid (sortsB_no (g := g) (fun h => (h.each s (List.mem_of_getElem? HR.out.2.2.2.2.1)).1 (List.isEmpty_iff.1 hse)) rfl)
        go_wp2_with fail
        go_ret
        exact ⟨ret_bool HV.out, HS.out.2.1⟩
      | false =>
        by_cases hl : 1000 < s.length
        · have hd : (1000 : Int) < (s.length : Int) := by omega
          have HV := Lib.hid (sortsB_no (g := g) (fun h => by have := (h.each s (List.mem_of_getElem? HR.out.2.2.2.2.1)).2; omega) rfl)
          clear hl
          go_wp2_with fail
          go_ret
          exact ⟨ret_bool HV.out, HS.out.2.1⟩
        · have hd : ¬ (1000 : Int) < (s.length : Int) := by omega
          by_cases hcz : cn = 0
          · subst hcz
            have HD := Lib.hid (And.intro hl (And.intro hse (HR.out.2.2.2.2.2.1.1 rfl)))
            clear hl
            go_wp2_with fail
            go_roundg (g.sorts.length - (i + 1))
            case measure => have := HR.out.1; omega
            case rel =>
              have htk : g.sorts.take (i + 1) = g.sorts.take i ++ [s] := by rw [List.take_add_one, HR.out.2.2.2.2.1]; rfl
              refine ⟨i + 1, _, by omega, rfl, rfl, HS.out.1, fun t => ?_, HS.out.2.1, HS.out.2.2, ?_, fun t ht => ?_⟩
              · rw [putV_string, htk]
                by_cases e : t = s
                · rw [if_pos e, if_pos (by simp [e])]; rfl
                · rw [if_neg e, HR.out.2.1]
                  by_cases e2 : t ∈ g.sorts.take i
                  · rw [if_pos e2, if_pos (by simp [e2])]
                  · rw [if_neg e2, if_neg (by simp [e2, e])]
              · rw [htk, List.nodup_append]
                exact ⟨HR.out.2.2.2.2.2.2.1, by simp, fun a ha b hb => by simp at hb; subst hb; exact fun e => HD.out.2.2 (e ▸ ha)⟩
              · rw [htk] at ht
                rcases List.mem_append.1 ht with ht | ht
                · exact HR.out.2.2.2.2.2.2.2 t ht
                · simp at ht; subst ht
                  exact ⟨List.isEmpty_eq_false_iff.1 HD.out.2.1, by have := HD.out.1; omega⟩
          · have hmem : s ∈ g.sorts.take i := Classical.byContradiction fun h => hcz (HR.out.2.2.2.2.2.1.2 h)
            have HV := Lib.hid (sortsB_no (g := g) (fun h => by
              obtain ⟨j, hj, e⟩ := List.getElem_of_mem hmem
              have hji : j < i := by rw [List.length_take] at hj; omega
              rw [List.getElem_take] at e
              have h1 := List.pairwise_iff_getElem.1 h.nodup j i (by omega) hlt hji
              rw [e, (List.getElem?_eq_some_iff.1 HR.out.2.2.2.2.1).2] at h1
              exact h1 rfl) rfl)
            have hc1 : cn = 1 := by omega
            subst hc1
            clear hmem hl
            go_wp2_with fail
            go_ret
            exact ⟨ret_bool HV.out, HS.out.2.1⟩
    · obtain rfl : i = g.sorts.length := by omega
      rw [List.take_length] at hnd heach
      have HR := Lib.hid (And.intro hb (And.intro hnd heach))
      clear hb hB hM hf hm hnd heach
      by_cases c1 : 1 ≤ g.sorts.length
      · by_cases c2 : g.sorts.length ≤ 1000
        · by_cases c3 : 0 ≤ g.start
          · by_cases c4 : g.start < (g.sorts.length : Int)
            · have HV := Lib.hid ((sortsB_iff g).2 ⟨HR.out.2.1, HR.out.2.2, c1, c2, c3, c4⟩)
              go_wp2_with fail
              go_ret
              exact ⟨ret_bool (by rw [HV.out]), HR.out.1⟩
            · have HV := Lib.hid (sortsB_no (g := g) (fun h => c4 h.start.2) rfl)
              have hd : decide (g.start < (g.sorts.length : Int)) = false := decide_eq_false c4
              clear c4
              go_wp2_with fail
              go_ret
              exact ⟨ret_bool (by rw [← HV.out]), HR.out.1⟩
          · have HV := Lib.hid (sortsB_no (g := g) (fun h => c3 h.start.1) rfl)
            have hd : decide (0 ≤ g.start) = false := decide_eq_false c3
            clear c3
            go_wp2_with fail
            go_ret
            exact ⟨ret_bool (by rw [← HV.out]), HR.out.1⟩
        · have HV := Lib.hid (sortsB_no (g := g) (fun h => c2 h.many) rfl)
          have hd : decide ((g.sorts.length : Int) ≤ 1000) = false := decide_eq_false (by omega)
          clear c2
          go_wp2_with fail
          go_ret
          exact ⟨ret_bool (by rw [← HV.out]), HR.out.1⟩
      · have HV := Lib.hid (sortsB_no (g := g) (fun h => c1 h.some_) rfl)
        have hd : decide ((1 : Int) ≤ (g.sorts.length : Int)) = false := decide_eq_false (by omega)
        clear c1
        go_wp2_with fail
        go_ret
        exact ⟨ret_bool (by rw [← HV.out]), HR.out.1⟩
end Go.Proofs.YtknpkndiflodbaaGreatDoor.Tb
