/-
  WALKS: the law's goes.
-/
import Derived.Test.YtacgnbelcpmjfaaGreatDoorAllIter
import Derived.Sort.QuietIn
import Derived.RangeFuncBox
import Derived.Test.YtacgnbelcpmjfaaGreatDoorRanges
import Derived.Test.YtacgnbelcpmjfaaGreatDoorRange2A
set_option linter.unusedVariables false
set_option linter.unusedSimpArgs false
namespace Go.Proofs.YtacgnbelcpmjfaaGreatDoor.Dx
open Go.RowKit Go.Proofs Mx Bx Go.Shelf
attribute [local go_sem] Oper.semAt_some
/-- Between two rounds: the variables. -/
def GoesI (w : World) (V : Value) (leave : Int) (k : Nat) (W : World) : Prop :=
  (Blk W w.heap.size 23 #[V] ∧ Blk W (w.heap.size + 1) 3 #[.int .i64 leave] ∧ Blk W (w.heap.size + 1 + 1) 4 #[.bool false] ∧ Blk W (w.heap.size + 1 + 1 + 1) 3 #[.int .i64 (k : Int)]) ∧ Below w.heap.size w W
def GoesX (w : World) (c : Code) (k : Nat) (W : World) : Prop := (c = .ret ∧ Blk W (w.heap.size + 1 + 1) 4 #[.bool true]) ∧ Below w.heap.size w W
/-- In a round: the round's variables are laid. -/
def GoesA (w : World) (V : Value) (leave : Int) (bs : Nat) (ws : List (Nat × Wd)) (k : Nat) (a : Act) (W : World) : Prop :=
  (∃ b : Nat, (a = { tmps := #[.func (.func 21) #[] #[.pointer (some ⟨bs, 0, none⟩)], V, .int .i64 leave, undef, .pointer (some ⟨w.heap.size, 0, none⟩), .pointer (some ⟨w.heap.size + 1, 0, none⟩), .pointer (some ⟨w.heap.size + 1 + 1, 0, none⟩), .pointer (some ⟨w.heap.size + 1 + 1 + 1, 0, none⟩), .int .i64 (k : Int), .pointer (some ⟨b, 0, none⟩), .func (.func 21) #[] #[.pointer (some ⟨bs, 0, none⟩)], .bool false, .func (.func 21) #[] #[.pointer (some ⟨bs, 0, none⟩)], .int .i64 (k : Int), wdV ((wordK ws k).1 : Int) (wordK ws k).2, undef, undef, undef, undef, undef, undef, undef, undef, undef, undef, undef, undef, undef, undef, undef, undef, undef, undef, undef, undef, undef, undef, undef, undef, undef, undef], defers := [] }) ∧ w.heap.size + 4 ≤ b ∧ Blk W b 35 (wdC ((wordK ws k).1 : Int) (wordK ws k).2)) ∧ GoesI w V leave k W
theorem keeps_drewN (W : World) (n : Nat) : KeepsOthers W (W.drewN n) := ⟨Nat.le_refl _, fun _ _ h _ => h⟩
set_option maxRecDepth 100000 in
set_option maxHeartbeats 2000000 in
theorem goes_any (s : ByteArray) (V : Value) (leave : Int) (bs : Nat) (w : World) (E : Env w) (hbs : Blk w bs 9 #[.string s]) (ws : List (Nat × Wd)) (hws : (readR s.data.toList).1 = ws) (hV : SliceW w V (wI ws)) :
    Calls Tryz.prog 11 #[.func (.func 21) #[] #[.pointer (some ⟨bs, 0, none⟩)], V, .int .i64 leave] w fun e w' => e = .returned (.bool true) ∧ Below w.heap.size w w' := by
  obtain ⟨a0, c0, rfl, ho⟩ := hV.opt
  rw [wI_len]
  refine (callsIn_wide (n := 5)).1 ?_
  have hro : Fence.wide.round = none := rfl
  refine callsIn_of_wp_marks Tryz.func11 rfl trivial ?_ hro
  simp only [Tryz.ntmps11, List.size_toArray, List.length_cons, List.length_nil, Nat.reduceAdd, Nat.reduceSub, Array.replicate_succ, Array.replicate_zero, List.push_toArray, List.append_toArray, List.nil_append, List.cons_append]
  have hfe := fun w => func_eql bs w
  gi_wp2
  clear hfe
  have hI0 : GoesI w (.slice a0 ws.length c0) leave 0 ((((w.alloc (.cells #[.slice a0 ws.length c0] 23)).alloc (.cells #[.int .i64 leave] 3)).alloc (.cells #[.bool false] 4)).alloc (.cells #[.int .i64 0] 3)) :=
    ⟨⟨(((Blk.new_ rfl _ _).alloc _).alloc _).alloc _, ((Blk.new_ (by simp) _ _).alloc _).alloc _, (Blk.new_ (by simp) _ _).alloc _, Blk.new_ (by simp) _ _⟩,
      ((((Below.refl _ w).alloc (Nat.le_refl _) _).alloc (by simp) _).alloc (by simp; omega) _).alloc (by simp; omega) _⟩
  have hsz : (((((w.alloc (.cells #[.slice a0 ws.length c0] 23)).alloc (.cells #[.int .i64 leave] 3)).alloc (.cells #[.bool false] 4)).alloc (.cells #[.int .i64 0] 3))).heap.size = w.heap.size + 4 := by simp
  obtain ⟨w2, hw2⟩ : ∃ w2, ((((w.alloc (.cells #[.slice a0 ws.length c0] 23)).alloc (.cells #[.int .i64 leave] 3)).alloc (.cells #[.bool false] 4)).alloc (.cells #[.int .i64 0] 3)) = w2 := ⟨_, rfl⟩
  rw [hw2] at hI0 hsz ⊢
  clear hw2
  have hs2' : w.heap.size ≤ w2.heap.size := by omega
  have HV := Lib.hid (And.intro hV (And.intro ho (And.intro hsz hws)))
  clear hV ho hsz
  have hit := all_iter s 4 w.heap.size (w.heap.size + 4) bs (by decide) w2 (E.below hI0.2 E.big) hs2' (by have := HV.out.2.2.1; omega) (hbs.below hI0.2 hbs.lt)
  rw [hws] at hit
  have hOwn : ∀ B0 : Nat, w.heap.size ≤ B0 → OwnFrom B0 (GoesI w (.slice a0 ws.length c0) leave) := fun B0 hB0 =>
    OwnFrom.and (Own.from (fun s A B row ⟨h1, h2, h3, h4⟩ hg hr => ⟨blk_kept h1 hg hr, blk_kept h2 hg hr, blk_kept h3 hg hr, blk_kept h4 hg hr⟩) _) (ownFrom_below (Nat.le_refl _) hB0)
  refine wpIn_rangeFunc_ownM hro (by decide) (gf := 21) (lb := #[.pointer (some ⟨bs, 0, none⟩)]) rfl trivial (enters_of Tryz.func21 (by kernel_rfl) rfl)
    hit Kw.trans (fun W => Kw.put hs2') (Below.refl _ _) (fun _ _ => rfl)
    (GoesI w (.slice a0 ws.length c0) leave) (GoesX w)
    (hOwn _ hs2')
    (fun c => OwnFrom.and (Own.from (fun s A B row hs hg hr => ⟨hs.1, blk_kept hs.2 hg hr⟩) _) (ownFrom_below (Nat.le_refl _) hs2'))
    hI0
    (GoesA w (.slice a0 ws.length c0) leave bs ws)
    (fun a' => OwnFrom.and (Own.from (fun s A B row ⟨b, e, hb, h1⟩ hg hr => ⟨b, e, hb, blk_kept h1 hg hr⟩) _) (hOwn _ hs2'))
    ?assign ?body ?done ?stop
  case assign =>
    intro l k W K hk hI hK
    have hsW : w.heap.size + 4 ≤ W.heap.size := by have := hI.1.2.2.2.lt; omega
    obtain ⟨q, hq⟩ : ∃ q, wordK ws k = q := ⟨_, rfl⟩
    obtain ⟨p, v⟩ := q
    simp only [encW, hq, wdV, wdC]
    have hI' : GoesI w (.slice a0 ws.length c0) leave k (W.alloc (.cells #[.int .i64 v.kind, .int .i64 (p : Int), .string ⟨v.text.toArray⟩, .int .u64 (wd v.set 0), .int .u64 (wd v.set 1), .int .u64 (wd v.set 2), .int .u64 (wd v.set 3), .int .i64 v.num] 35)) :=
      ⟨⟨hI.1.1.alloc _, hI.1.2.1.alloc _, hI.1.2.2.1.alloc _, hI.1.2.2.2.alloc _⟩, hI.2.alloc hI.2.size _⟩
    gi_wp2
    refine hK _ _ (KeepsOthers.alloc _ _) ((Kw.refl _ _ _).alloc hI.2.size _) ⟨⟨W.heap.size, ?_, hsW, ?_⟩, hI'⟩
    · rw [hq]; rfl
    · rw [hq]; exact Blk.new W _ _
  case body =>
    rintro l k a' W ⟨⟨b, rfl, hb, hbk⟩, ⟨h1, h2, h3, h4⟩, hB⟩ hk
    obtain ⟨q, hq⟩ : ∃ q, wordK ws k = q := ⟨_, rfl⟩
    obtain ⟨p, v⟩ := q
    have hget := wordK_get ws k hk
    rw [hq] at hget hbk
    obtain ⟨g, o, rfl, hr⟩ := HV.out.2.1.some (by rw [wI_len]; omega)
    obtain ⟨x0, x1, x2, x3, x4, x5, x6, x7⟩ := (hr.cells k p v (by rw [wI, List.getElem?_map, hget]; rfl)).below hB hr.lt
    have hvs : v.set < 2 ^ 256 := by
      have hm : v ∈ ws.map (·.2) := List.mem_map_of_mem (f := (·.2)) (List.mem_of_getElem? hget)
      have hall := (lexF_may 0 s.data.toList).1
      have h5 := HV.out.2.2.2
      unfold readR at h5
      split at h5
      · rw [← h5] at hm; cases hm
      · rw [← h5] at hm; exact (hall _ hm).2
    have hnq := neq_word
    have hqq := eqW_bool p v v hvs hvs true (by simp)
    have c1 := h1.cell 0
    have c2 := h2.cell 0
    have c3 := h3.cell 0
    have c4 := h4.cell 0
    have f3 := h3.frozen 0
    have f4 := h4.frozen 0
    obtain ⟨y0, y1, y2, y3, y4, y5, y6, y7, _⟩ := Blk.facts8 (v0 := .int .i64 v.kind) (v1 := .int .i64 (p : Int)) (v2 := .string ⟨v.text.toArray⟩) (v3 := .int .u64 (wd v.set 0)) (v4 := .int .u64 (wd v.set 1)) (v5 := .int .u64 (wd v.set 2)) (v6 := .int .u64 (wd v.set 3)) (v7 := .int .i64 v.num) hbk
    simp at c1 c2 c3 c4
    rw [hq]
    unfold wdV wdC
    have hki : (k : Int) < (ws.length : Int) := by omega
    have hk0 : (0 : Int) ≤ (k : Int) := by omega
    have hkn : decide (ws.length ≤ k) = false := decide_eq_false (by omega)
    have HB := Lib.hid (And.intro h1 (And.intro h2 (And.intro h3 (And.intro h4 hB))))
    have hlen := readR_len s.data.toList
    rw [hws] at hlen
    clear hr hget hI0 h1 h2 h3 h4 hB hit hq hbk hOwn
    by_cases hl : (k : Int) + 1 = leave
    · have hl' : ((k : Int) + 1 == leave) = true := by simp [hl]
      clear hl
      gi_wp2
      refine wpIn_region_quiet_round (by kernel_rfl) (by kernel_rfl) (by kernel_rfl) ?_
      repeat (gi_big_quiet_step (fail))
      refine wpQuietIn_nil ?_
      intro _ hw'
      obtain ⟨nq, hw''⟩ := hw'
      subst hw''
      gi_wp2
      refine ⟨(keeps_drewN W nq).trans ((KeepsOthers.setCell _ _ _).trans (KeepsOthers.setCell _ _ _)), ⟨rfl, ?_⟩, ?_⟩
      · exact ((HB.out.2.2.1.drewN nq).far (p := ⟨w.heap.size + 1 + 1 + 1, 0, none⟩) (by simp) _).set_ 0 (.bool true)
      · exact ((below_drewN HB.out.2.2.2.2 nq).setCell (p := ⟨w.heap.size + 1 + 1 + 1, 0, none⟩) (by first | (simp; done) | (simp; omega)) _).setCell (p := ⟨w.heap.size + 1 + 1, 0, none⟩) (by first | (simp; done) | (simp; omega)) _
    · have hl' : ((k : Int) + 1 == leave) = false := by simp [hl]
      clear hl
      gi_wp2
      refine wpIn_region_quiet_round (by kernel_rfl) (by kernel_rfl) (by kernel_rfl) ?_
      repeat (gi_big_quiet_step (fail))
      refine wpQuietIn_nil ?_
      intro _ hw'
      obtain ⟨nq, hw''⟩ := hw'
      subst hw''
      gi_wp2
      refine ⟨(keeps_drewN W nq).trans (KeepsOthers.setCell _ _ _), ((Kw.refl _ _ W).drewN nq).set (p := ⟨w.heap.size + 1 + 1 + 1, 0, none⟩) (by first | (simp; done) | (simp; omega)) (by first | (simp; done) | (simp; omega)) _, ⟨?_, ?_, ?_, ?_⟩, ?_⟩
      · exact (HB.out.1.drewN nq).far (p := ⟨w.heap.size + 1 + 1 + 1, 0, none⟩) (by first | (simp; done) | (simp; omega)) _
      · exact (HB.out.2.1.drewN nq).far (p := ⟨w.heap.size + 1 + 1 + 1, 0, none⟩) (by first | (simp; done) | (simp; omega)) _
      · exact (HB.out.2.2.1.drewN nq).far (p := ⟨w.heap.size + 1 + 1 + 1, 0, none⟩) (by simp) _
      · exact (HB.out.2.2.2.1.drewN nq).set_ 0 (.int .i64 ((k + 1 : Nat) : Int))
      · exact (below_drewN HB.out.2.2.2.2 nq).setCell (p := ⟨w.heap.size + 1 + 1 + 1, 0, none⟩) (by first | (simp; done) | (simp; omega)) _
  case done =>
    rintro D W hD ⟨⟨h1, h2, h3, h4⟩, hB⟩ hK
    have c1 := h1.cell 0
    have c4 := h4.cell 0
    have f3 := h3.frozen 0
    have c3 := h3.cell 0
    simp at c1 c3 c4
    have hDs : w.heap.size + 1 + 1 ≠ D := by have := HV.out.2.2.1; omega
    have HB := Lib.hid (And.intro h3 hB)
    clear h1 h2 h3 h4 hB hit hI0 hOwn
    gi_wp2
    have hK' := (KeepsOthers.setCell W ⟨w.heap.size + 1 + 1, 0, none⟩ (.bool true)).same D _ hK rfl
    have h2' := (HB.out.1.set_ 0 (.bool true)).cell 0
    have hc5 := cell_kept h2' (grownBy_putObj' _ D (.deferred none)) (fun r e => by cases e; exact ⟨_, hK', rfl⟩)
    refine ⟨by simp, .inl ⟨_, _, rfl, run_takeDeferred hK', ?_⟩⟩
    refine ⟨.bool true, ?_, rfl, (HB.out.2.setCell (p := ⟨w.heap.size + 1 + 1, 0, none⟩) (by first | (simp; done) | (simp; omega)) _).trans (belowK_b (w := w) (Nat.le_refl _) _ D _ _ (by omega) hK' rfl rfl)⟩
    simp at hc5
    simp [results, Tryz.f11, go_sem, hc5]
  case stop =>
    rintro D c k W hD _ ⟨⟨rfl, hc⟩, hB⟩ hK
    have hc0 := hc.cell 0
    clear hit hI0 hOwn
    gi_wp2
    have hc5 := cell_kept hc0 (grownBy_putObj' _ D (.deferred none)) (fun r e => by cases e; exact ⟨_, hK, rfl⟩)
    refine ⟨by simp, .inl ⟨_, _, rfl, run_takeDeferred hK, ?_⟩⟩
    refine ⟨.bool true, ?_, rfl, hB.trans (belowK_b (w := w) (Nat.le_refl _) W D _ _ (by omega) hK rfl rfl)⟩
    simp at hc5
    simp [results, Tryz.f11, go_sem, hc5]
end Go.Proofs.YtacgnbelcpmjfaaGreatDoor.Dx
