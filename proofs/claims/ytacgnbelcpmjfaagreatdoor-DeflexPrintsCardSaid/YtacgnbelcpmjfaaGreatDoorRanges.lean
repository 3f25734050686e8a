/-
  WALKS: sets.Ranges.
-/
import Derived.Test.YtacgnbelcpmjfaaGreatDoorIter
import Derived.RangeFuncBox
import Derived.Laws.OwnMore
set_option linter.unusedVariables false
set_option linter.unusedSimpArgs false
namespace Go.Proofs.YtacgnbelcpmjfaaGreatDoor.Dx
open Go.RowKit Go.Proofs Mx Go.Shelf
attribute [local go_sem] Oper.semAt_some

theorem blk_kept {W W' : World} {row : Option Nat} {g : Nat} {t : TypeId} {cs : Array Value} (h : Blk W g t cs) (hg : W.grownBy W' row) (hrow : ∀ r, row = some r → ∃ o : Obj, W.heap[r]? = some o ∧ o.isCells = false) : Blk W' g t cs :=
  (grownBy_keeps_cells hg hrow h rfl).trans h
theorem row_kept {W W' : World} {row : Option Nat} {B : Nat} {e : TypeId} {z : Nat} {v : Value} {n : Nat} {xs : List Value} (h : W.ownsRow B e z v n xs) (hg : W.grownBy W' row) (hrow : ∀ r, row = some r → ∃ o : Obj, W.heap[r]? = some o ∧ o.isCells = false) : W'.ownsRow B e z v n xs := by
  rcases h with ⟨h1, h2 | ⟨g, cap, cur, hv, hB, hh, r⟩⟩
  · exact ⟨h1, .inl h2⟩
  · exact ⟨h1, .inr ⟨g, cap, cur, hv, hB, (grownBy_keeps_cells hg hrow hh rfl).trans hh, r⟩⟩
theorem own_set {w : World} {B : Nat} {e : TypeId} {size g n cap : Nat} {xs : List Value} (h : w.ownsRow B e size (.slice (some ⟨g, 0, none⟩) n cap) n xs) (i : Nat) (hi : i < n * size) (u : Value) :
    (w.setCell ⟨g, i, none⟩ u).ownsRow B e size (.slice (some ⟨g, 0, none⟩) n cap) n (xs.set i u) := by
  obtain ⟨h1, h2⟩ := h
  refine ⟨by simpa using h1, ?_⟩
  rcases h2 with ⟨h2, _⟩ | ⟨g', cap', cur, hv, hg, hh, hn, hc, hs, ht⟩
  · cases h2
  · injection hv with e1 e2 e3
    injection e1 with e1
    injection e1 with e1 _ _
    subst e1; subst e3
    refine .inr ⟨g, cap, cur.setIfInBounds i u, rfl, hg, ?_, hn, hc, by simpa using hs, ?_⟩
    · simp [World.setCell, Array.getElem?_modify, hh]
    · rw [Array.toList_setIfInBounds, List.take_set, ht]
theorem own_last {w : World} {B : Nat} {e : TypeId} {size : Nat} {v : Value} {n : Nat} {xs : List Value} (h : w.ownsRow B e size v (n + 1) xs) : ∃ g cap, v = .slice (some ⟨g, 0, none⟩) (n + 1) cap ∧ B ≤ g := by
  rcases h.2 with ⟨_, h2⟩ | ⟨g, cap, cur, rfl, hg, _⟩
  · omega
  · exact ⟨g, cap, rfl, hg⟩
theorem rcells_last (m : List (UInt8 × UInt8)) (a c b : UInt8) : (rcells (m ++ [(a, c)])).set (m.length * 2 + 1) (.int .u8 (b.toNat : Int)) = rcells (m ++ [(a, b)]) := by
  induction m with
  | nil => rfl
  | cons p t ih =>
    obtain ⟨x, y⟩ := p
    rw [show ((x, y) :: t).length * 2 + 1 = t.length * 2 + 1 + 1 + 1 by simp; omega]
    simp only [List.cons_append, rcells, List.set_cons_succ, ih]
theorem own_shape {w : World} {B : Nat} {e : TypeId} {size : Nat} {v : Value} {n : Nat} {xs : List Value} (h : w.ownsRow B e size v n xs) : ∃ a c, v = .slice a n c := by
  rcases h.2 with ⟨rfl, rfl⟩ | ⟨g, cap, cur, rfl, _⟩
  · exact ⟨_, _, rfl⟩
  · exact ⟨_, _, rfl⟩
/-- The ranges of the first k bytes. -/
def rgK (M k : Nat) : List (UInt8 × UInt8) := rgL ((bytesOf M).take k)
theorem rgK_next (M k : Nat) (h : k < (bytesOf M).length) : rgK M (k + 1) = pushR (rgK M k) (byteK M k) := by
  unfold rgK
  rw [List.take_succ_eq_append_getElem h, rgL_snoc]
  congr 1
  unfold byteK
  simp [List.getD, List.getElem?_eq_getElem h]
theorem pushR_len (l : List (UInt8 × UInt8)) (b : UInt8) : (pushR l b).length ≤ l.length + 1 := by
  rcases snoc_cases l with rfl | ⟨m, ⟨a, c⟩, rfl⟩
  · rw [pushR_nil]; simp
  · rw [pushR_snoc]; split <;> simp
theorem rgL_len_le (l : List UInt8) : (rgL l).length ≤ l.length := by
  obtain ⟨n, hn⟩ : ∃ n, l.length = n := ⟨_, rfl⟩
  induction n generalizing l with
  | zero => have : l = [] := List.eq_nil_of_length_eq_zero hn
            subst this; simp [rgL]
  | succ n ih =>
    rcases snoc_cases l with rfl | ⟨m, b, rfl⟩
    · simp at hn
    · rw [rgL_snoc]
      have := pushR_len (rgL m) b
      have := ih m (by simp at hn; omega)
      simp; omega
theorem bytesOf_len (M : Nat) : (bytesOf M).length ≤ 256 := by
  unfold bytesOf bytesTo
  rw [List.length_map]
  exact Nat.le_trans (List.length_filter_le _ _) (by simp)
theorem rgK_len (M k : Nat) : (rgK M k).length ≤ 256 := Nat.le_trans (rgL_len_le _) (Nat.le_trans (by simp; exact Nat.min_le_right _ _) (bytesOf_len M))
/-- Between two rounds: the variable of l, the row that it owns. -/
def RangesI (M : Nat) (w : World) (k : Nat) (W : World) : Prop :=
  (∃ v, Blk W (w.heap.size + 1) 91 #[v] ∧ W.ownsRow w.heap.size 94 2 v (rgK M k).length (rcells (rgK M k))) ∧ Below w.heap.size w W

set_option maxRecDepth 100000 in
set_option maxHeartbeats 2000000 in
theorem ranges_any (M : Nat) (w : World) (hT : Bru w) (h6 : LB ≤ w.heap.size) :
    Calls Tryz.prog 53 #[setV M] w fun e w' => ∃ v, e = .returned v ∧ w'.ownsRow w.heap.size 94 2 v (rgL (bytesOf M)).length (rcells (rgL (bytesOf M))) ∧ Below w.heap.size w w' := by
  refine (callsIn_wide (n := 5)).1 ?_
  have hro : Fence.wide.round = none := rfl
  have hby := bytes_any M
  unfold setV at hby ⊢
  refine callsIn_of_wp_marks Tryz.func53 rfl trivial ?_ hro
  simp only [Tryz.ntmps53, List.size_toArray, List.length_cons, List.length_nil, Nat.reduceAdd, Nat.reduceSub, Array.replicate_succ, Array.replicate_zero, List.push_toArray, List.append_toArray, List.nil_append, List.cons_append]
  gi_wp2_with (refine ⟨trivial, ?_⟩; gi_at_call 67; refine (callsIn_mk (hby _)).mono ?_; rintro e w1 ⟨rfl, rfl⟩)
  obtain ⟨w1, hw1⟩ : ∃ w1, (((w.alloc (.cells #[.int .u64 (wd M 0), .int .u64 (wd M 1), .int .u64 (wd M 2), .int .u64 (wd M 3)] 33)).alloc (.cells #[.slice none 0 0] 91)).alloc (.cells (setC M) 33)) = w1 := ⟨_, rfl⟩
  have hl : Blk w1 (w.heap.size + 1) 91 #[.slice none 0 0] := by rw [← hw1]; exact (Blk.new_ (by simp) _ _).alloc _
  have hbs : Blk w1 (w.heap.size + 1 + 1) 33 (setC M) := by rw [← hw1]; exact Blk.new_ (by simp) _ _
  have hB1 : Below w.heap.size w w1 := by rw [← hw1]; exact (((Below.refl _ w).alloc (Nat.le_refl _) _).alloc (by simp) _).alloc (by simp; omega) _
  have hI0 : RangesI M w 0 w1 := ⟨⟨_, hl, World.ownsRow_nil _ _ _ _⟩, hB1⟩
  rw [hw1]
  clear hw1 hby
  refine wpIn_rangeFunc_ownO hro (by decide) (gf := 82) (lb := #[.pointer (some ⟨w.heap.size + 1 + 1, 0, none⟩)]) rfl trivial (enters_of Tryz.func82 (by kernel_rfl) rfl)
    (bytes_iter M 4 w.heap.size (w.heap.size + 1 + 1) (by decide) w1 (hT.below hB1 h6) h6 hB1.size hbs) belowK_t (belowK_b hB1.size) (Below.refl _ _) (fun _ _ => rfl)
    (RangesI M w) (fun _ _ _ => False)
    (OwnFrom.and (Own.from (fun s A B row ⟨v, h1, h2⟩ hg hr => ⟨v, blk_kept h1 hg hr, row_kept h2 hg hr⟩) _) (ownFrom_below (Nat.le_refl _) hB1.size))
    (fun _ _ _ _ _ hs _ _ => hs)
    hI0
    (fun k => { tmps := #[.agg #[.int .u64 (wd M 0), .int .u64 (wd M 1), .int .u64 (wd M 2), .int .u64 (wd M 3)], .pointer (some ⟨w.heap.size, 0, none⟩), .slice none 0 0, .pointer (some ⟨w.heap.size + 1, 0, none⟩), .int .u8 ((byteK M k).toNat : Int), undef, .agg #[.int .u64 (wd M 0), .int .u64 (wd M 1), .int .u64 (wd M 2), .int .u64 (wd M 3)], .func (.func 82) #[] #[.pointer (some ⟨w.heap.size + 1 + 1, 0, none⟩)], .int .u8 ((byteK M k).toNat : Int), undef, undef, undef, undef, undef, undef, undef, undef, undef, undef, undef, undef, undef, undef, undef, undef, undef, undef, undef, undef, undef, undef, undef, undef, undef, undef, undef, undef, undef, undef, undef, undef], defers := [] }) ?assign ?body ?done ?stop
  case assign =>
    intro l k W K hk hK
    gi_wp2
    exact hK
  case body =>
    rintro l k W ⟨⟨v, hb, hrow⟩, hB⟩ hk
    obtain ⟨i0, hi, hz0, hz1, hz2⟩ := info_parts infoRange
    have hv : Boxed W (w.heap.size + 1) 91 v := hb
    clear hb hI0 hl hbs
    have hc := hv.cell
    have hf := hv.frozen
    have hle := hB.size
    have hn := rgK_next M k hk
    have hlen := rgK_len M k
    obtain ⟨b, hbk⟩ : ∃ b, byteK M k = b := ⟨_, rfl⟩
    rw [hbk] at hn ⊢
    have hb256 := b.toNat_lt
    rcases snoc_cases (rgK M k) with hnil | ⟨m, ⟨a, c⟩, hsn⟩
    · rw [hnil] at hrow hn
      rw [pushR_nil] at hn
      obtain ⟨sa, sc, rfl⟩ := own_shape hrow
      have HN := Lib.hid (And.intro hn (And.intro hrow trivial))
      clear hn hrow hnil
      gi_wp2_with (gi_at_builtin; refine wpListIn_append_own _ rfl _ _ 91 rfl w.heap.size 94 i0 (.agg #[.int .u8 0, .int .u8 0]) 2 2 Tryz.underlying91 hi hz0 hz1 hz2 rfl (by decide) _ _ _ rfl (HN.out.2.1.alloc _) ⟨W.heap.size, 0, none⟩ 1 1 [.int .u8 (b.toNat : Int), .int .u8 (b.toNat : Int)] rfl rfl ?c1 ?c2 ?c3 ?c4 ?c5 ?_)
      case c1 =>
        intro j u hj
        match j, hj with
        | 0, hj => simp at hj; subst hj; exact (Blk.new _ _ _).cell 0
        | 1, hj => simp at hj; subst hj; exact (Blk.new _ _ _).cell 1
      case c2 => intro u hu; simp at hu; subst hu; rfl
      case c3 => unfold maxLen; simp
      case c4 => simp
      case c5 => simp; omega
      intro v' w3 hown' hgrow _
      obtain ⟨g', cap', rfl⟩ := ownsRow_succ hown'
      obtain ⟨hv1, hv2, hr2, hk2, hb2⟩ := hv.appended (by decide) HN.out.2.1 hle (Nat.le_succ _) hown' hgrow
      have hc1 := hv1.cell
      have hf1 := hv1.frozen
      have HF := Lib.hid (And.intro hk2 (And.intro hb2 (And.intro hv2 hr2)))
      clear hk2 hb2 hv2 hr2 hown' hgrow hv1
      gi_wp2
      refine ⟨HF.out.1, HF.out.2.1, ⟨_, HF.out.2.2.1, ?_⟩, hB.trans HF.out.2.1⟩
      rw [HN.out.1]
      have h := HF.out.2.2.2
      rw [rcells_append] at h
      simpa using h
    · rw [hsn] at hrow hn hlen
      have hml : (m ++ [(a, c)]).length = m.length + 1 := by simp
      rw [hml] at hrow hlen
      obtain ⟨g, cap, rfl, hg⟩ := own_last hrow
      have hcell : W.cell? ⟨g, m.length * 2 + 1, none⟩ = some (.int .u8 (c.toNat : Int)) := by
        rw [hrow.cellAt _ (by omega)]
        have : (m ++ [(a, c)])[m.length]? = some (a, c) := by simp
        exact (rcells_get _ _ _ _ this).2
      have hfz := hrow.frozenAt
      have hm0 : (0 : Int) < (m.length : Int) + 1 := by omega
      rw [pushR_snoc] at hn
      by_cases hcb : c.toNat + 1 = b.toNat
      · rw [if_pos hcb] at hn
        have hb1 : (0 : Int) < (b.toNat : Int) := by omega
        have hce : ((c.toNat : Int) == (b.toNat : Int) - 1) = true := by simp; omega
        have HN := Lib.hid (And.intro hn (And.intro hrow hcb))
        clear hn hrow hcb
        have hne := hv.not_row (by decide) HN.out.2.1
        have hrs := own_set HN.out.2.1 (m.length * 2 + 1) (by omega) (.int .u8 (b.toNat : Int))
        rw [rcells_last] at hrs
        have HS := Lib.hid (And.intro hne hrs)
        clear hne hrs
        gi_wp2
        refine ⟨KeepsOthers.setCell _ _ _, (Below.refl w.heap.size W).setCell (p := ⟨g, m.length * 2 + 1, none⟩) hg _, ⟨_, hv.kept (grown_set (grown_refl W (some g)) rfl _) HS.out.1, ?_⟩, hB.setCell (p := ⟨g, m.length * 2 + 1, none⟩) hg _⟩
        rw [HN.out.1]
        have h := HS.out.2
        simpa using h
      · rw [if_neg hcb] at hn
        have hce : b.toNat = 0 ∨ (0 < b.toNat ∧ c.toNat + 1 ≠ b.toNat) := by omega
        have HN := Lib.hid (And.intro hn (And.intro hrow hcb))
        clear hn hrow hcb
        rcases hce with hb0 | ⟨hb0, hcb⟩
        · have hb1 : decide ((0 : Int) < (b.toNat : Int)) = false := by simp; omega
          have hb2 : decide (0 < b.toNat) = false := by simp; omega
          cases hce : ((c.toNat : Int) == ((b.toNat : Int) - 1) % 256) with
          | true =>
            clear hb0
            gi_wp2_with (gi_at_builtin; refine wpListIn_append_own _ rfl _ _ 91 rfl w.heap.size 94 i0 (.agg #[.int .u8 0, .int .u8 0]) 2 2 Tryz.underlying91 hi hz0 hz1 hz2 rfl (by decide) _ _ _ rfl (HN.out.2.1.alloc _) ⟨W.heap.size, 0, none⟩ 1 1 [.int .u8 (b.toNat : Int), .int .u8 (b.toNat : Int)] rfl rfl ?c1 ?c2 ?c3 ?c4 ?c5 ?_)
            case c1 =>
              intro j u hj
              match j, hj with
              | 0, hj => simp at hj; subst hj; exact (Blk.new _ _ _).cell 0
              | 1, hj => simp at hj; subst hj; exact (Blk.new _ _ _).cell 1
            case c2 => intro u hu; simp at hu; subst hu; rfl
            case c3 => unfold maxLen; omega
            case c4 => omega
            case c5 => simp; omega
            intro v' w3 hown' hgrow _
            obtain ⟨g', cap', rfl⟩ := ownsRow_succ hown'
            obtain ⟨hv1, hv2, hr2, hk2, hb2⟩ := hv.appended (by decide) HN.out.2.1 hle (Nat.le_succ _) hown' hgrow
            have hc1 := hv1.cell
            have hf1 := hv1.frozen
            have HF := Lib.hid (And.intro hk2 (And.intro hb2 (And.intro hv2 hr2)))
            clear hk2 hb2 hv2 hr2 hown' hgrow hv1
            gi_wp2
            refine ⟨HF.out.1, HF.out.2.1, ⟨_, HF.out.2.2.1, ?_⟩, hB.trans HF.out.2.1⟩
            rw [HN.out.1]
            have h := HF.out.2.2.2
            rw [rcells_append] at h
            simpa using h
          | false =>
            clear hb0
            gi_wp2_with (gi_at_builtin; refine wpListIn_append_own _ rfl _ _ 91 rfl w.heap.size 94 i0 (.agg #[.int .u8 0, .int .u8 0]) 2 2 Tryz.underlying91 hi hz0 hz1 hz2 rfl (by decide) _ _ _ rfl (HN.out.2.1.alloc _) ⟨W.heap.size, 0, none⟩ 1 1 [.int .u8 (b.toNat : Int), .int .u8 (b.toNat : Int)] rfl rfl ?c1 ?c2 ?c3 ?c4 ?c5 ?_)
            case c1 =>
              intro j u hj
              match j, hj with
              | 0, hj => simp at hj; subst hj; exact (Blk.new _ _ _).cell 0
              | 1, hj => simp at hj; subst hj; exact (Blk.new _ _ _).cell 1
            case c2 => intro u hu; simp at hu; subst hu; rfl
            case c3 => unfold maxLen; omega
            case c4 => omega
            case c5 => simp; omega
            intro v' w3 hown' hgrow _
            obtain ⟨g', cap', rfl⟩ := ownsRow_succ hown'
            obtain ⟨hv1, hv2, hr2, hk2, hb2⟩ := hv.appended (by decide) HN.out.2.1 hle (Nat.le_succ _) hown' hgrow
            have hc1 := hv1.cell
            have hf1 := hv1.frozen
            have HF := Lib.hid (And.intro hk2 (And.intro hb2 (And.intro hv2 hr2)))
            clear hk2 hb2 hv2 hr2 hown' hgrow hv1
            gi_wp2
            refine ⟨HF.out.1, HF.out.2.1, ⟨_, HF.out.2.2.1, ?_⟩, hB.trans HF.out.2.1⟩
            rw [HN.out.1]
            have h := HF.out.2.2.2
            rw [rcells_append] at h
            simpa using h
        · have hce : ((c.toNat : Int) == (b.toNat : Int) - 1) = false := by simp; omega
          have hb1 : (0 : Int) < (b.toNat : Int) := by omega
          clear hcb hb0
          gi_wp2_with (gi_at_builtin; refine wpListIn_append_own _ rfl _ _ 91 rfl w.heap.size 94 i0 (.agg #[.int .u8 0, .int .u8 0]) 2 2 Tryz.underlying91 hi hz0 hz1 hz2 rfl (by decide) _ _ _ rfl (HN.out.2.1.alloc _) ⟨W.heap.size, 0, none⟩ 1 1 [.int .u8 (b.toNat : Int), .int .u8 (b.toNat : Int)] rfl rfl ?c1 ?c2 ?c3 ?c4 ?c5 ?_)
          case c1 =>
            intro j u hj
            match j, hj with
            | 0, hj => simp at hj; subst hj; exact (Blk.new _ _ _).cell 0
            | 1, hj => simp at hj; subst hj; exact (Blk.new _ _ _).cell 1
          case c2 => intro u hu; simp at hu; subst hu; rfl
          case c3 => unfold maxLen; omega
          case c4 => omega
          case c5 => simp; omega
          intro v' w3 hown' hgrow _
          obtain ⟨g', cap', rfl⟩ := ownsRow_succ hown'
          obtain ⟨hv1, hv2, hr2, hk2, hb2⟩ := hv.appended (by decide) HN.out.2.1 hle (Nat.le_succ _) hown' hgrow
          have hc1 := hv1.cell
          have hf1 := hv1.frozen
          have HF := Lib.hid (And.intro hk2 (And.intro hb2 (And.intro hv2 hr2)))
          clear hk2 hb2 hv2 hr2 hown' hgrow hv1
          gi_wp2
          refine ⟨HF.out.1, HF.out.2.1, ⟨_, HF.out.2.2.1, ?_⟩, hB.trans HF.out.2.1⟩
          rw [HN.out.1]
          have h := HF.out.2.2.2
          rw [rcells_append] at h
          simpa using h
  case done =>
    rintro D W hD ⟨⟨v, hb, hrow⟩, hB⟩ hK
    have hc := hb.cell 0
    simp at hc
    gi_wp2
    refine ⟨by simp, .inl ⟨_, _, rfl, run_takeDeferred hK, ?_⟩⟩
    have hfull : rgK M (bytesOf M).length = rgL (bytesOf M) := by unfold rgK; rw [List.take_length]
    rw [hfull] at hrow
    exact ⟨_, results_tmp rfl _ _ _, v, rfl, ownsRow_putObj hrow _ hK rfl, hB.trans (belowK_b (w := w) (Nat.le_refl _) W D _ _ (by have := hB1.size; omega) hK rfl rfl)⟩
  case stop =>
    rintro D c pre W _ _ h _
    exact h.elim
end Go.Proofs.YtacgnbelcpmjfaaGreatDoor.Dx
