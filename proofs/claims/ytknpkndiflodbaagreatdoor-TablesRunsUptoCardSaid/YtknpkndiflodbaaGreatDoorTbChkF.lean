/-
  WHAT A GRAMMAR MAY BE; WALKS of package kernel: follows, of any grammar.
-/
import Derived.Test.YtknpkndiflodbaaGreatDoorTbChkP
set_option linter.unusedVariables false
set_option linter.unusedSimpArgs false
namespace Go.Proofs.YtknpkndiflodbaaGreatDoor.Tb
open Go Go.RowKit Go.Proofs Go.Maps Mx
attribute [local go_sem] eqSet
def followsB (g : Gr) : Bool := decide (g.follow.map (·.1)).Nodup && g.follow.all (fun f => inB g f.1 && !decide (f.2 = 0))
theorem followsB_no {g : Gr} {f : Int × Nat} (hm : f ∈ g.follow) (h : inB g f.1 = false ∨ f.2 = 0) : followsB g = false := by
  unfold followsB
  cases h2 : g.follow.all (fun f => inB g f.1 && !decide (f.2 = 0)) with
  | false => simp
  | true =>
    have h1 := List.all_eq_true.1 h2 f hm
    rcases h with h | h
    · rw [h] at h1; exact absurd h1 (by simp)
    · rw [h] at h1; exact absurd h1 (by simp)
theorem nodup_again {α : Type} [DecidableEq α] {l : List α} {i : Nat} {x : α} (hx : l[i]? = some x) (h : x ∈ l.take i) : ¬ l.Nodup := fun hn => by
  obtain ⟨hi, e2⟩ := List.getElem?_eq_some_iff.1 hx
  obtain ⟨j, hj, e⟩ := List.getElem_of_mem h
  have hji : j < i := by rw [List.length_take] at hj; omega
  rw [List.getElem_take] at e
  have h1 := List.pairwise_iff_getElem.1 hn j i (by omega) hi hji
  rw [e, e2] at h1
  exact h1 rfl
theorem i64_lit {s : Int} (h : I64 s) : (Lit.int .i64 s).wf = true := by
  unfold I64 at h
  simp [Lit.wf, IntKind.min, IntKind.max, IntKind.bits, IntKind.signed]
  omega
set_option maxRecDepth 100000 in
set_option maxHeartbeats 8000000 in
theorem follows_any (D : Nat → Prop) (g : Gr) (hN : g.follow.length ≤ 2000000) (hsl : g.sorts.length ≤ 2000000) (hF : ∀ f ∈ g.follow, FoOk f) (w : World) (sa : Option Addr) (sn sc : Nat) (hsn : sn = g.sorts.length) (pv fv lv : Value) (hs : SliceK D encFo 5 w lv g.follow) :
    Calls Tryz.prog 40 #[.agg #[.slice sa sn sc, pv, .int .i64 g.start, fv, lv]] w fun e w' => e = .returned (.bool (followsB g)) ∧ Below w.heap.size w w' := by
  obtain ⟨a, c, rfl, hc1, hc2, hk⟩ := hs
  have hmm := @run_makeMap Tryz.prog
  have HK := Lib.hid (And.intro hk (And.intro hF hsn))
  clear hk hF hsn
  go_enter Tryz.func40, Tryz.ntmps40
  go_wp2_with fail
  have hB1 : Blk ((w.alloc (.cells #[.slice sa sn sc, pv, .int .i64 g.start, fv, .slice a g.follow.length c] 39)).alloc (.map #[] 0)) w.heap.size 39 #[.slice sa sn sc, pv, .int .i64 g.start, fv, .slice a g.follow.length c] := (Blk.new _ _ _).alloc _
  have hM1 : MapV Tryz.prog 3 ((w.alloc (.cells #[.slice sa sn sc, pv, .int .i64 g.start, fv, .slice a g.follow.length c] 39)).alloc (.map #[] 0)) (w.heap.size + 1) 0 (fun _ => none) := by
    have := MapV.made (w.alloc (.cells #[.slice sa sn sc, pv, .int .i64 g.start, fv, .slice a g.follow.length c] 39)) Tryz.prog 3
    simpa using this
  have hb1 : Below w.heap.size w ((w.alloc (.cells #[.slice sa sn sc, pv, .int .i64 g.start, fv, .slice a g.follow.length c] 39)).alloc (.map #[] 0)) := ((Below.refl _ w).alloc (Nat.le_refl _) _).alloc (by simp) _
  have hz1 : w.heap.size + 2 ≤ ((w.alloc (.cells #[.slice sa sn sc, pv, .int .i64 g.start, fv, .slice a g.follow.length c] 39)).alloc (.map #[] 0)).heap.size := by simp
  generalize (w.alloc (.cells #[.slice sa sn sc, pv, .int .i64 g.start, fv, .slice a g.follow.length c] 39)).alloc (.map #[] 0) = W1 at hB1 hM1 hb1 hz1 ⊢
  have H1 := Lib.hid (And.intro hB1 (And.intro hM1 (And.intro hb1 hz1)))
  clear hB1 hM1 hb1 hz1
  go_loopg [10] g.follow.length (fun m v10 wr => ∃ (i : Nat) (f : Lit → Option Value), i ≤ g.follow.length ∧ m = g.follow.length - i ∧ v10 = .int .i64 i ∧ MapV Tryz.prog 3 wr (w.heap.size + 1) i f ∧
    (∀ s, f (.int .i64 s) = if s ∈ (g.follow.map (·.1)).take i then some (.int .i64 1) else none) ∧ Below w.heap.size w wr ∧ w.heap.size + 2 ≤ wr.heap.size ∧ Blk wr w.heap.size 39 #[.slice sa sn sc, pv, .int .i64 g.start, fv, .slice a g.follow.length c] ∧ ((g.follow.map (·.1)).take i).Nodup ∧ ∀ s ∈ g.follow.take i, (inB g s.1 && !decide (s.2 = 0)) = true)
  case atStart => exact ⟨0, _, by omega, rfl, rfl, H1.out.2.1, (fun s => by simp), H1.out.2.2.1, H1.out.2.2.2, H1.out.1, by simp, by simp⟩
  case round =>
    obtain ⟨i, f, hi, hm, rfl, hM, hf, hb, hz, hB, hnd, heach⟩ := hrel
    have q0 := hB.cell 0
    have q4 := hB.cell 4
    simp at q0 q4
    by_cases hlt : i < g.follow.length
    · obtain ⟨⟨s, M⟩, hsi⟩ : ∃ s, g.follow[i]? = some s := ⟨_, List.getElem?_eq_getElem hlt⟩
      obtain ⟨kg, ko, rfl, hkD, hkr⟩ := HK.out.1 (by rintro h; rw [h] at hlt; simp at hlt)
      have up : ∀ {i : Nat} {u : Value}, w.cell? ⟨kg, i, none⟩ = some u → wr.cell? ⟨kg, i, none⟩ = some u := fun h => (World.cell?_of_block (hb.block kg hkr.lt)).trans h
      have k0 := up (hkr.cells i _ hsi 0 _ rfl)
      have k1 := up (hkr.cells i _ hsi 1 _ rfl)
      have k2 := up (hkr.cells i _ hsi 2 _ rfl)
      have k3 := up (hkr.cells i _ hsi 3 _ rfl)
      have k4 := up (hkr.cells i _ hsi 4 _ rfl)
      simp only [Nat.add_zero] at k0
      have hmem := List.mem_of_getElem? hsi
      obtain ⟨hs64, hM256⟩ := HK.out.2.1 _ hmem
      have hsi1 : (g.follow.map (·.1))[i]? = some s := by rw [List.getElem?_map, hsi]; rfl
      have hkey : keyOf Tryz.prog 3 (.int .i64 s) = some (.int .i64 s) := keyOf_int_mk Tryz.underlying3 (i64_lit hs64)
      obtain ⟨cn, hcn⟩ : ∃ cn : Nat, (if s ∈ (g.follow.map (·.1)).take i then some (Value.int .i64 1) else none).getD (.int .i64 0) = .int .i64 (cn : Int) ∧ (cn = 0 ∨ cn = 1) ∧ (cn = 0 ↔ s ∉ (g.follow.map (·.1)).take i) := by
        by_cases h : s ∈ (g.follow.map (·.1)).take i
        · exact ⟨1, by rw [if_pos h]; rfl, .inr rfl, by simp [h]⟩
        · exact ⟨0, by rw [if_neg h]; rfl, .inl rfl, by simp [h]⟩
      obtain ⟨hcv, hc01, hcm⟩ := hcn
      have hlk : (Instr.lookup 148 (.map (some (w.heap.size + 1))) (.int .i64 s) false).run Tryz.prog (wr.alloc (.cells #[.int .i64 s, .int .u64 (wd M 0), .int .u64 (wd M 1), .int .u64 (wd M 2), .int .u64 (wd M 3)] 150)) = .ok (.int .i64 (cn : Int)) (wr.alloc (.cells #[.int .i64 s, .int .u64 (wd M 0), .int .u64 (wd M 1), .int .u64 (wd M 2), .int .u64 (wd M 3)] 150)) := by
        have h1 := (hM.alloc (.cells #[.int .i64 s, .int .u64 (wd M 0), .int .u64 (wd M 1), .int .u64 (wd M 2), .int .u64 (wd M 3)] 150)).lookup (int_keyed Tryz.underlying3) Tryz.underlying148 (Tryz.zeroValue3 _) hkey
        rw [hf, hcv] at h1
        exact h1
      have hi0 : (0 : Int) ≤ (i : Int) := by omega
      have hi1 : (i : Int) < (g.follow.length : Int) := by omega
      have hmx : i < maxLen := by unfold maxLen; omega
      have hcn0 : (0 : Int) ≤ (cn : Int) := by omega
      have hcn1 : (cn : Int) ≤ 1 := by omega
      have hwz : wr.heap.size ≠ w.heap.size + 1 := by omega
      have hwz0 : w.heap.size < wr.heap.size := by omega
      have HMv := Lib.hid (hM.alloc (.cells #[.int .i64 s, .int .u64 (wd M 0), .int .u64 (wd M 1), .int .u64 (wd M 2), .int .u64 (wd M 3)] 150))
      have hXn : Blk (wr.alloc (.cells #[.int .i64 s, .int .u64 (wd M 0), .int .u64 (wd M 1), .int .u64 (wd M 2), .int .u64 (wd M 3)] 150)) wr.heap.size 150 #[.int .i64 s, .int .u64 (wd M 0), .int .u64 (wd M 1), .int .u64 (wd M 2), .int .u64 (wd M 3)] := Blk.new _ _ _
      have hsz1 := hb.size
      have hbW := hb.trans (((Below.refl wr.heap.size wr).alloc (Nat.le_refl _) (.cells #[.int .i64 s, .int .u64 (wd M 0), .int .u64 (wd M 1), .int .u64 (wd M 2), .int .u64 (wd M 3)] 150)).mono hb.size)
      have hBW := hB.alloc (.cells #[.int .i64 s, .int .u64 (wd M 0), .int .u64 (wd M 1), .int .u64 (wd M 2), .int .u64 (wd M 3)] 150)
      have hzW : w.heap.size + 2 ≤ (wr.alloc (.cells #[.int .i64 s, .int .u64 (wd M 0), .int .u64 (wd M 1), .int .u64 (wd M 2), .int .u64 (wd M 3)] 150)).heap.size := by simp; omega
      have hno : inB g s = false ∨ M = 0 → followsB g = false := fun h => followsB_no hmem h
      have hno2 : s ∈ (g.follow.map (·.1)).take i → followsB g = false := fun h => by
        unfold followsB
        rw [decide_eq_false (nodup_again hsi1 h)]
        rfl
      have HR := Lib.hid (And.intro hm (And.intro hf (And.intro hbW (And.intro hBW (And.intro hsi (And.intro hcm (And.intro hnd (And.intro heach (And.intro hno (And.intro hno2 (And.intro hsi1 (And.intro hXn hzW))))))))))))
      clear hm hf hb hB hsi hcv hcm hM hkr q0 hnd heach hno hno2 hsi1 hXn hmem hs64 hbW hBW hzW up
      go_wp2_with (at_mapUpdate; refine wpList_mapUpdateV _ rfl _ _ _ 148 rfl 3 3 (int_keyed Tryz.underlying3) Tryz.underlying148 (w.heap.size + 1) i f rfl ?_ hmx _ _ _ rfl rfl hkey ?_; exact HMv.out)
      intro w5 hm5 hg5
      have hlk5 : (Instr.lookup 148 (.map (some (w.heap.size + 1))) (.int .i64 s) false).run Tryz.prog w5 = .ok (.int .i64 ((cn : Int) + 1)) w5 := by
        have h1 := hm5.lookup (int_keyed Tryz.underlying3) Tryz.underlying148 (Tryz.zeroValue3 w5) hkey
        rw [putV_int, if_pos rfl] at h1
        exact h1
      have hb5 : Below w.heap.size w w5 := HR.out.2.2.1.trans (below_of_grown hg5 HR.out.2.2.1.size (Nat.le_succ _))
      have hB5 := HR.out.2.2.2.1.grown hg5 (by simp)
      have hX5 := HR.out.2.2.2.2.2.2.2.2.2.2.2.1.grown hg5 (by intro e; injection e with e; exact hwz e)
      have g0 := hB5.cell 0
      have x0 := hX5.cell 0
      have x1 := hX5.cell 1
      have x2 := hX5.cell 2
      have x3 := hX5.cell 3
      have x4 := hX5.cell 4
      simp at g0 x0 x1 x2 x3 x4
      have hz5 : w.heap.size + 2 ≤ w5.heap.size := by have h1 := HR.out.2.2.2.2.2.2.2.2.2.2.2.2; have h2 := hg5.size; omega
      have HS := Lib.hid (And.intro hm5 (And.intro hb5 (And.intro hB5 hz5)))
      clear hm5 hb5 hB5 hg5 hlk hX5 hz5
      by_cases hcz : cn = 0
      · subst hcz
        have hnm := HR.out.2.2.2.2.2.1.1 rfl
        by_cases c1 : s < 0
        · have HV := Lib.hid (HR.out.2.2.2.2.2.2.2.2.1 (.inl (decide_eq_false (by omega))))
          clear hnm
          go_wp2_with fail
          go_ret
          exact ⟨by rw [HV.out]; rfl, HS.out.2.1⟩
        · by_cases c2 : (sn : Int) ≤ s
          · have HV := Lib.hid (HR.out.2.2.2.2.2.2.2.2.1 (.inl (decide_eq_false (by rw [← HK.out.2.2]; omega))))
            have d1 : decide (s < 0) = false := decide_eq_false c1
            clear hnm c1
            go_wp2_with fail
            go_ret
            exact ⟨by rw [HV.out]; rfl, HS.out.2.1⟩
          · have d1 : decide (s < 0) = false := decide_eq_false c1
            have d2 : decide ((sn : Int) ≤ s) = false := decide_eq_false c2
            by_cases c3 : M = 0
            · have HV := Lib.hid (HR.out.2.2.2.2.2.2.2.2.1 (.inr c3))
              subst c3
              have hw0 : wd 0 0 = 0 ∧ wd 0 1 = 0 ∧ wd 0 2 = 0 ∧ wd 0 3 = 0 := by simp [wd]
              rw [hw0.1] at x1
              rw [hw0.2.1] at x2
              rw [hw0.2.2.1] at x3
              rw [hw0.2.2.2] at x4
              clear hnm c1 c2
              go_wp2_with fail
              go_ret
              exact ⟨by rw [HV.out]; rfl, HS.out.2.1⟩
            · have hz : ¬ (wd M 0 = 0 ∧ wd M 1 = 0 ∧ wd M 2 = 0 ∧ wd M 3 = 0) := fun h => c3 ((wd_zero_iff _ hM256).1 h)
              have hin : inB g s = true := decide_eq_true (by rw [← HK.out.2.2]; omega)
              have HD := Lib.hid (And.intro hnm (And.intro hin c3))
              clear hnm hin c1 c2 c3
              go_wp2_with fail
              go_roundg (g.follow.length - (i + 1))
              case measure => have := HR.out.1; omega
              case rel =>
                have htk : (g.follow.map (·.1)).take (i + 1) = (g.follow.map (·.1)).take i ++ [s] := by rw [List.take_add_one, HR.out.2.2.2.2.2.2.2.2.2.2.1]; rfl
                refine ⟨i + 1, _, by omega, rfl, rfl, HS.out.1, fun t => ?_, HS.out.2.1, HS.out.2.2.2, HS.out.2.2.1, ?_, fun t ht => ?_⟩
                · rw [putV_int, htk]
                  by_cases e : t = s
                  · rw [if_pos e, if_pos (by simp [e])]; rfl
                  · rw [if_neg e, HR.out.2.1]
                    by_cases e2 : t ∈ (g.follow.map (·.1)).take i
                    · rw [if_pos e2, if_pos (List.mem_append_left _ e2)]
                    · rw [if_neg e2, if_neg (fun h => (List.mem_append.1 h).elim e2 (fun h => e (by simpa using h)))]
                · rw [htk, List.nodup_append]
                  exact ⟨HR.out.2.2.2.2.2.2.1, by simp, fun a ha b hb => by simp at hb; subst hb; exact fun e => HD.out.1 (e ▸ ha)⟩
                · rw [List.take_add_one, HR.out.2.2.2.2.1] at ht
                  rcases List.mem_append.1 ht with ht | ht
                  · exact HR.out.2.2.2.2.2.2.2.1 t ht
                  · simp at ht; subst ht
                    simp [HD.out.2.1, HD.out.2.2]
      · have hmem : s ∈ (g.follow.map (·.1)).take i := Classical.byContradiction fun h => hcz (HR.out.2.2.2.2.2.1.2 h)
        have HV := Lib.hid (HR.out.2.2.2.2.2.2.2.2.2.1 hmem)
        have hc1 : cn = 1 := by omega
        subst hc1
        clear hmem
        go_wp2_with fail
        go_ret
        exact ⟨by rw [HV.out]; rfl, HS.out.2.1⟩
    · obtain rfl : i = g.follow.length := by omega
      rw [show (g.follow.map (·.1)).take g.follow.length = g.follow.map (·.1) from by rw [List.take_of_length_le]; simp] at hnd
      rw [List.take_length] at heach
      have hv : followsB g = true := by
        unfold followsB
        rw [decide_eq_true hnd, List.all_eq_true.2 heach]
        rfl
      have HR := Lib.hid (And.intro hb hv)
      clear hb hB hM hf hm hnd heach hv
      go_wp2_with fail
      go_ret
      exact ⟨by rw [HR.out.2]; rfl, HR.out.1⟩
end Go.Proofs.YtknpkndiflodbaaGreatDoor.Tb
