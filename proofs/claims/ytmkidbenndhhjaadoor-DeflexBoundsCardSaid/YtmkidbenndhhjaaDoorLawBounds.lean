/-
  DeflexBounds.
-/
import Derived.Test.YtmkidbenndhhjaaDoorBoundsPure
import Derived.Test.YtmkidbenndhhjaaDoorAllIter
import Derived.Test.YtmkidbenndhhjaaDoorRanges
import Derived.Laws.MakeOwn
import Derived.Deep.OwnRows
set_option linter.unusedVariables false
set_option linter.unusedSimpArgs false
namespace Go.Proofs.YtmkidbenndhhjaaDoor.Dx
open Go.RowKit Go.Proofs Mx Bx Go.Shelf
open Go.Lib (byteCells)
attribute [local go_sem] Oper.semAt_some
/-- A row of n bytes, i of them filled. -/
def fillL (n i : Nat) : List Value := List.replicate i (.int .u8 59) ++ List.replicate (n - i) (.int .u8 0)
theorem fillL_len (n i : Nat) (h : i ≤ n) : (fillL n i).length = n := by simp [fillL]; omega
theorem fillL_set (n i : Nat) (h : i < n) : (fillL n i).set i (.int .u8 59) = fillL n (i + 1) := by
  unfold fillL
  obtain ⟨d, hd⟩ : ∃ d, n - i = d + 1 := ⟨n - i - 1, by omega⟩
  rw [hd, show n - (i + 1) = d by omega, List.set_append_right _ _ (by simp), List.length_replicate, Nat.sub_self, List.replicate_succ (n := d), List.set_cons_zero, List.replicate_succ' (n := i), List.append_assoc]
  rfl
theorem fillL_get (n i : Nat) (h : i < n) : (fillL n i)[i]? = some (.int .u8 0) := by
  unfold fillL
  rw [List.getElem?_append_right (by simp), List.length_replicate, Nat.sub_self, List.getElem?_replicate, if_pos (by omega)]
theorem fillL_full (n : Nat) : fillL n n = byteCells (List.replicate n 59) := by
  unfold fillL byteCells
  rw [Nat.sub_self, List.map_replicate]; simp
theorem made_fill (n : Nat) : madeCells #[.int .u8 0] n = (fillL n 0).toArray := by
  apply Array.toList_inj.1
  apply List.ext_getElem
  · rw [Array.length_toList, size_madeCells, fillL_len n 0 (Nat.zero_le _)]
  · intro j h1 h2
    simp [madeCells, fillL, Nat.mod_one]
theorem blk_set_list {w : World} {g : Nat} {t : TypeId} {l : List Value} (h : Blk w g t l.toArray) (i : Nat) (u : Value) : Blk (w.setCell ⟨g, i, none⟩ u) g t (l.set i u).toArray := by
  have := h.set_ i u
  rwa [List.setIfInBounds_toArray] at this
/-- The bytes of the row, up to a place. -/
theorem own_part {w : World} {g N K : Nat} (h : Blk w g 5 (fillL N N).toArray) (hK : K ≤ N) (hN : N ≤ 140737488355328) : w.ownsRow 0 5 1 (.slice (some ⟨g, 0, none⟩) K N) (List.replicate K (59 : UInt8)).length (byteCells (List.replicate K 59)) := by
  rw [List.length_replicate]
  refine ⟨by simp [byteCells], .inr ⟨g, N, _, rfl, Nat.zero_le _, h, hK, by unfold maxLen; omega, by simp [fillL_len], ?_⟩⟩
  rw [fillL_full]
  unfold byteCells
  rw [List.map_replicate, List.map_replicate, List.take_replicate]
  congr 1
  omega
set_option maxRecDepth 100000 in
theorem conv_part {w : World} {g N K : Nat} (h : Blk w g 5 (fillL N N).toArray) (hK : K ≤ N) (hN : N ≤ 140737488355328) :
    (convert 35 9 (.slice (some ⟨g, 0, none⟩) K N)).run Tryd.prog w = .ok (.string ⟨(List.replicate K (59 : UInt8)).toArray⟩) w :=
  conv_own (P := Tryd.prog) (src := 35) (dst := 9) (by rfl) (by rfl) (by rfl) (own_part h hK hN)
theorem slice_take {w : World} {a : Option Addr} {n c k : Nat} {l : List (Int × Wd)} (h : SliceW w (.slice a n c) l) (hk : k ≤ n) (h0 : 0 < n) : SliceW w (.slice a k c) (l.take k) := by
  cases h with
  | nil => omega
  | row hr hc =>
    have e : (l.take k).length = k := by rw [List.length_take]; omega
    have := SliceW.row (w := w) (l := l.take k) (cap := c) ⟨hr.lt, fun i p v hi => hr.cells i p v (by
      rw [List.getElem?_take] at hi
      split at hi
      · exact hi
      · cases hi)⟩ (by omega)
    rw [e] at this
    exact this
theorem slice_cap {w : World} {a : Option Addr} {n c : Nat} {l : List (Int × Wd)} (h : SliceW w (.slice a n c) l) : n ≤ c := by
  cases h with
  | nil => exact Nat.le_refl _
  | row hr hc => exact hc
theorem tell_semis' (m : Nat) (h : 0 < m) : (tellL (List.replicate m semi)).length = 2 * m - 1 := by
  obtain ⟨d, rfl⟩ : ∃ d, m = d + 1 := ⟨m - 1, by omega⟩
  rw [tell_semis]; omega
theorem printF_semis (m : Nat) (h : 0 < m) : printF (List.replicate m semi) = if 1048576 < 2 * m - 1 then ([], 3) else (tellL (List.replicate m semi), 0) := by
  rw [printF, if_pos (may_semis m), tell_semis' m h]
theorem semis_part (ws : List (Nat × Wd)) (n k : Nat) (h : ws.map (·.2) = List.replicate n semi) (hk : k ≤ n) : ((wI ws).take k).map (·.2) = List.replicate k semi := by
  rw [List.map_take, wI_snd, h, List.take_replicate, Nat.min_eq_left hk]
theorem semis_fit (l : List (Int × Wd)) (k : Nat) (h : l.map (·.2) = List.replicate k semi) : ∀ q ∈ l, fitW q.2 := by
  intro q hq
  have hm : q.2 ∈ List.replicate k semi := by rw [← h]; exact List.mem_map_of_mem hq
  rw [List.eq_of_mem_replicate hm]
  exact ⟨Nat.pos_of_ne_zero (by decide), by decide⟩
theorem nm_lex : lexR (List.replicate 64 97 ++ [32, 57, 57, 57, 57, 57, 57, 57, 57, 57]) = ([(0, ⟨1, List.replicate 64 97, 0, 0⟩), (65, ⟨4, [], 0, 999999999⟩)], 0, 0) := by decide +kernel
theorem nm_long : lexR ([59, 32] ++ List.replicate 64 97 ++ [97]) = ([], 2, 130) := by decide +kernel
theorem no_long : lexR [59, 32, 49, 48, 48, 48, 48, 48, 48, 48, 48, 48] = ([], 2, 130) := by decide +kernel
def strSz : Value → Nat
  | .string t => t.size
  | _ => 0
theorem readR_long (l : List UInt8) (h : 1048576 < l.length) : readR l = ([], 0, 3) := by rw [readR, if_pos h]
theorem lexR_long (l : List UInt8) (h : 1048576 < l.length) : lexR l = ([], 0, 3) := by rw [lexR, readR_long l h]; rfl
set_option maxRecDepth 100000 in
set_option maxHeartbeats 8000000 in
theorem bounds_law (w : World) (E : Env w) (R : Bru w) :
    Calls Tryd.prog 5 #[] w fun e w' => e = .returned (.bool true) ∧ Below w.heap.size w w' := by
  have h10 := E.big
  have HE := Lib.hid (And.intro E R)
  clear E R
  obtain ⟨N, hN⟩ : ∃ N : Nat, N = 1048577 := ⟨_, rfl⟩
  have hmk : ∀ u : World, (Instr.makeSlice 35 (.int .i64 1048577) (.int .i64 1048577)).run Tryd.prog u = .ok (.slice (some ⟨u.heap.size, 0, none⟩) N N) (u.alloc (.cells (fillL N 0).toArray 5)) := by
    intro u
    have h := run_make_row' (P := Tryd.prog) 35 5 (.int .u8 0) 1 Tryd.underlying35 infoByte rfl .i64 .i64 N (by omega) (by omega) u
    rw [made_fill] at h
    rw [show (1048577 : Int) = ((N : Nat) : Int) by omega]
    exact h
  have HN := Lib.hid hN
  have hN1 : (1048576 : Int) ≤ (N : Int) := by omega
  have hN2 : (N : Int) ≤ 1048577 := by omega
  clear hN
  refine (callsIn_wide (n := 6)).1 ?_
  have hro : Fence.wide.round = none := rfl
  refine callsIn_of_wp_marks Tryd.func5 rfl trivial ?_ hro
  simp only [Tryd.ntmps5, List.size_toArray, List.length_cons, List.length_nil, Nat.reduceAdd, Nat.reduceSub, Array.replicate_succ, Array.replicate_zero, List.push_toArray, List.append_toArray, List.nil_append, List.cons_append]
  gi_wp2
  obtain ⟨h0, hh0⟩ : ∃ h0 : Nat, w.heap.size = h0 := ⟨_, rfl⟩
  have hB0 : Blk ((w.alloc (.cells #[.bool false] 4)).alloc (.cells (fillL N 0).toArray 5)) h0 4 #[.bool false] := (Blk.new_ hh0 _ _).alloc _
  have hB1 : Blk ((w.alloc (.cells #[.bool false] 4)).alloc (.cells (fillL N 0).toArray 5)) (h0 + 1) 5 (fillL N 0).toArray := Blk.new_ (by simp [hh0]) _ _
  have hbl := ((Below.refl w.heap.size w).alloc (Nat.le_refl _) (.cells #[.bool false] 4)).alloc (by simp) (.cells (fillL N 0).toArray 5)
  rw [hh0] at hbl ⊢
  generalize ((w.alloc (.cells #[.bool false] 4)).alloc (.cells (fillL N 0).toArray 5)) = W1 at hB0 hB1 hbl ⊢
  clear hmk
  gi_loopw [2] (fun v wr => ∃ i : Nat, i ≤ N ∧ v = .int .i64 i ∧ Blk wr h0 4 #[.bool false] ∧ Blk wr (h0 + 1) 5 (fillL N i).toArray ∧ Below h0 w wr) (fun v _ => N - (intOf v).toNat)
  case atStart => exact ⟨0, Nat.zero_le _, rfl, hB0, hB1, hbl⟩
  case round =>
    obtain ⟨i, hi, rfl, h1, h2, h3⟩ := hrel
    clear hB0 hB1 hbl
    by_cases hlt : i < N
    · have hlt' : (i : Int) < (N : Int) := by omega
      have hi0 : (0 : Int) ≤ (i : Int) := by omega
      have c1 := h2.cell i
      rw [List.getElem?_toArray, fillL_get N i hlt] at c1
      have f1 := h2.frozen i
      have A := Lib.hid (And.intro h1 (And.intro h2 h3))
      clear h1 h2 h3
      gi_wp2
      go_roundw
      case rel =>
        have := blk_set_list A.out.2.1 i (.int .u8 59)
        rw [fillL_set N i hlt] at this
        exact ⟨i + 1, hlt, rfl, A.out.1.far (p := ⟨h0 + 1, i, none⟩) (by simp) _, this, A.out.2.2.setCell (p := ⟨h0 + 1, i, none⟩) (by simp) _⟩
      case measure => simp [intOf]; omega
    · obtain rfl : i = N := by omega
      have A := Lib.hid (And.intro h1 (And.intro h2 h3))
      have hc1 := conv_part (K := 1048576) h2 (by omega) (by omega)
      have hc2 := conv_part (K := i) h2 (Nat.le_refl _) (by omega)
      obtain ⟨l1, hl1⟩ : ∃ l1, List.replicate 1048576 (59 : UInt8) = l1 := ⟨_, rfl⟩
      obtain ⟨l2, hl2⟩ : ∃ l2, List.replicate i (59 : UInt8) = l2 := ⟨_, rfl⟩
      rw [hl1] at hc1
      rw [hl2] at hc2
      have hlen1 : l1.length = 1048576 := by rw [← hl1, List.length_replicate]
      have hlen2 : l2.length = i := by rw [← hl2, List.length_replicate]
      have hx1 : lexF 0 l1 = (semis 0 1048576, none) := by rw [← hl1]; exact lexF_semis 1048576 0
      obtain ⟨ws, hws⟩ : ∃ ws, semis 0 1048576 = ws := ⟨_, rfl⟩
      have hwl : ws.length = 1048576 := by rw [← hws]; exact semis_len 0 _
      have hwm : ws.map (·.2) = List.replicate 1048576 semi := by rw [← hws]; exact semis_snd 0 _
      rw [hws] at hx1
      have hlx1 := lex_any ⟨l1.toArray⟩ wr (HE.out.1.below A.out.2.2 (hh0 ▸ h10))
      rw [show (⟨l1.toArray⟩ : ByteArray).data.toList = l1 from rfl, lexR_ok l1 (by omega) (by rw [hx1]), hx1] at hlx1
      have HL := Lib.hid (And.intro hlen1 (And.intro hlen2 (And.intro hwl (And.intro hwm hl2))))
      clear h1 h2 h3 hl1 hl2 hws hx1 hlen1 hlen2 hwl hwm
      gi_wp2
      refine ⟨trivial, (callsIn_mk hlx1).mono ?_⟩
      rintro e w2 ⟨a2, n2, cp2, rfl, hown2, hb2⟩
      obtain ⟨hn2, hs2⟩ := own_sliceW hown2
      rw [HL.out.2.2.1] at hn2
      subst hn2
      have hcp : (1048576 : Int) ≤ (cp2 : Int) := by have := slice_cap hs2; omega
      have up : ∀ {W W' : World}, Below h0 w W → Below W.heap.size W W' → Below h0 w W' := fun h k => h.trans (k.mono (hh0 ▸ h.size))
      have hev : ∀ {W : World}, Below h0 w W → Env W := fun h => HE.out.1.below h (hh0 ▸ h10)
      have hbv : ∀ {W : World}, Below h0 w W → Bru W := fun h => HE.out.2.below h (hh0 ▸ h10)
      have C2 := Lib.hid (And.intro (A.out.1.below hb2 A.out.1.lt) (And.intro (A.out.2.1.below hb2 A.out.2.1.lt) (And.intro (up A.out.2.2 hb2) hs2)))
      clear hlx1 hown2 hc1 hb2 hs2 A hc2
      have hc2 := conv_part (K := i) C2.out.2.1 (Nat.le_refl _) (by omega)
      rw [HL.out.2.2.2.2] at hc2
      have hlx2 := lex_any ⟨l2.toArray⟩ w2 (hev C2.out.2.2.1)
      rw [show (⟨l2.toArray⟩ : ByteArray).data.toList = l2 from rfl, lexR_long l2 (by have := HL.out.2.1; have := HN.out; omega)] at hlx2
      gi_wp2
      refine ⟨trivial, (callsIn_mk hlx2).mono ?_⟩
      rintro e w3 ⟨a3, n3, cp3, rfl, hown3, hb3⟩
      obtain ⟨hn3, _⟩ := own_sliceW hown3
      simp only [List.length_nil] at hn3
      subst hn3
      have C3 := Lib.hid (And.intro (C2.out.1.below hb3 C2.out.1.lt) (And.intro (C2.out.2.1.below hb3 C2.out.2.1.lt) (And.intro (up C2.out.2.2.1 hb3) (C2.out.2.2.2.below hb3))))
      clear hlx2 hown3 hb3 hc2 C2
      have hs3 := slice_take (k := 524288) C3.out.2.2.2 (by decide) (by decide)
      have hm3 := semis_part ws 1048576 524288 HL.out.2.2.2.1 (by decide)
      have hpr3 := print_any (.slice a2 524288 cp2) ((wI ws).take 524288) (by rw [List.length_take]; exact Nat.le_trans (Nat.min_le_left _ _) (by decide)) (semis_fit _ _ hm3) (fun _ => by rw [hm3, tell_semis' _ (by decide)]; decide) w3 (hev C3.out.2.2.1) (hbv C3.out.2.2.1) hs3
      rw [hm3, printF_semis 524288 (by decide), if_neg (by decide)] at hpr3
      have hT1 : (tellL (List.replicate 524288 semi)).length = 1048575 := by rw [tell_semis' _ (by decide)]
      generalize tellL (List.replicate 524288 semi) = T1 at hpr3 hT1
      gi_wp2
      refine ⟨trivial, (callsIn_mk hpr3).mono ?_⟩
      rintro e w4 ⟨rfl, hb4⟩
      have C4 := Lib.hid (And.intro (C3.out.1.below hb4 C3.out.1.lt) (And.intro (C3.out.2.1.below hb4 C3.out.2.1.lt) (And.intro (up C3.out.2.2.1 hb4) (C3.out.2.2.2.below hb4))))
      clear hpr3 hb4 hs3 hm3 C3
      have hs4 := slice_take (k := 524289) C4.out.2.2.2 (by decide) (by decide)
      have hm4 := semis_part ws 1048576 524289 HL.out.2.2.2.1 (by decide)
      have hpr4 := print_any (.slice a2 524289 cp2) ((wI ws).take 524289) (by rw [List.length_take]; exact Nat.le_trans (Nat.min_le_left _ _) (by decide)) (semis_fit _ _ hm4) (fun _ => by rw [hm4, tell_semis' _ (by decide)]; decide) w4 (hev C4.out.2.2.1) (hbv C4.out.2.2.1) hs4
      rw [hm4, printF_semis 524289 (by decide), if_pos (by decide)] at hpr4
      gi_wp2
      refine ⟨trivial, (callsIn_mk hpr4).mono ?_⟩
      rintro e w5 ⟨rfl, hb5⟩
      have C5 := Lib.hid (And.intro (C4.out.1.below hb5 C4.out.1.lt) (And.intro (C4.out.2.1.below hb5 C4.out.2.1.lt) (And.intro (up C4.out.2.2.1 hb5) (C4.out.2.2.2.below hb5))))
      clear hpr4 hb5 hs4 hm4 C4
      have hc2 := conv_part (K := i) C5.out.2.1 (Nat.le_refl _) (by omega)
      rw [HL.out.2.2.2.2] at hc2
      gi_wp2
      refine ⟨trivial, (callsIn_mk (all_any ⟨l2.toArray⟩ _)).mono ?_⟩
      rintro e w6 ⟨rfl, rfl⟩
      have hfe := fun w => func_eql w5.heap.size w
      gi_wp2
      have hb6 := C5.out.2.2.1.alloc (hh0 ▸ C5.out.2.2.1.size) (.cells #[.string ⟨l2.toArray⟩] 9)
      have hblk6 := C5.out.1.alloc (.cells #[.string ⟨l2.toArray⟩] 9)
      have hbs := Blk.new w5 9 #[.string ⟨l2.toArray⟩]
      have hlen2 := HL.out.2.1
      clear hc2 hfe HL
      obtain ⟨bs, hbse⟩ : ∃ bs, w5.heap.size = bs := ⟨_, rfl⟩
      rw [hbse] at hbs ⊢
      generalize (w5.alloc (.cells #[.string ⟨l2.toArray⟩] 9)) = w6 at hb6 hblk6 hbs ⊢
      have hs6 : h0 ≤ w6.heap.size := hh0 ▸ hb6.size
      have hit := all_iter ⟨l2.toArray⟩ 5 h0 w6.heap.size bs (by decide) w6 (hev hb6) hs6 (Nat.le_refl _) hbs
      rw [show (⟨l2.toArray⟩ : ByteArray).data.toList = l2 from rfl, readR_long l2 (by have := HN.out; omega)] at hit
      refine wpIn_rangeFunc_ownO hro (by decide) (gf := 49) (lb := #[.pointer (some ⟨bs, 0, none⟩)]) rfl trivial (enters_of Tryd.func49 (by kernel_rfl) rfl)
        hit Kw.trans (fun W => Kw.put hs6) (Below.refl _ _) (fun k hk => absurd hk (Nat.not_lt_zero k))
        (fun (_ : Nat) W => Blk W h0 4 #[.bool false] ∧ Below h0 w W) (fun _ _ _ => False)
        (OwnFrom.and (Own.from (fun s A B row h1 hg hr => blk_kept h1 hg hr) _) (ownFrom_below (Nat.le_of_eq hh0.symm) hs6))
        (fun _ _ _ _ _ hs _ _ => hs)
        ⟨hblk6, hb6⟩
        (fun k => { tmps := #[], defers := [] }) ?assign ?body ?done ?stop
      case assign => intro l x W K hx; exact absurd hx (Nat.not_lt_zero x)
      case body => intro l k W _ hk; exact absurd hk (Nat.not_lt_zero k)
      case stop => rintro D c k W _ _ h _; exact h.elim
      case done =>
        rintro D W hD ⟨h1, hB⟩ hK
        have hDW := (Array.getElem?_eq_some_iff.1 hK).1
        have HW := Lib.hid (And.intro h1 (And.intro hB (And.intro hK hD)))
        clear hit hblk6 hb6 hbs h1 hB hK hD
        gi_wp2
        gi_loopw [14] (fun v wr => ∃ (t : ByteArray) (j : Nat), 1 ≤ j ∧ j ≤ 64 ∧ v = .string t ∧ t.data.toList = List.replicate j 97 ∧ t.size = j ∧ W = wr) (fun v _ => 64 - strSz v)
        case atStart => exact ⟨⟨#[97]⟩, 1, by decide, by decide, rfl, rfl, rfl, rfl⟩
        case round =>
          obtain ⟨t, j, hj1, hj2, rfl, ht, hts, rfl⟩ := hrel
          by_cases hlt : j < 64
          · have hlt' : (t.size : Int) < 64 := by omega
            have hlt'' : t.size < 64 := by omega
            have HT := Lib.hid (And.intro ht hts)
            clear ht hts
            gi_wp2
            go_roundw
            case rel =>
              refine ⟨t ++ ⟨#[97]⟩, j + 1, by omega, by omega, rfl, ?_, ?_, by first | rfl | trivial⟩
              · rw [show (t ++ ⟨#[97]⟩ : ByteArray).data.toList = t.data.toList ++ [97] by simp, HT.out.1, ← List.replicate_succ']
              · rw [ByteArray.size_append, HT.out.2]; rfl
            case measure =>
              show 64 - (t ++ ⟨#[97]⟩ : ByteArray).size < 64 - t.size
              rw [ByteArray.size_append]
              show 64 - (t.size + 1) < _
              omega
          · obtain rfl : j = 64 := by omega
            have hge : ¬ (t.size : Int) < 64 := by omega
            have hx1 := lex_any (t ++ ⟨#[32, 57, 57, 57, 57, 57, 57, 57, 57, 57]⟩) W (hev HW.out.2.1)
            rw [show (t ++ ⟨#[32, 57, 57, 57, 57, 57, 57, 57, 57, 57]⟩ : ByteArray).data.toList = List.replicate 64 97 ++ [32, 57, 57, 57, 57, 57, 57, 57, 57, 57] by rw [← ht]; simp, nm_lex] at hx1
            have ht3 : ((⟨#[59, 32]⟩ : ByteArray) ++ t ++ ⟨#[97]⟩).data.toList = [59, 32] ++ List.replicate 64 97 ++ [97] := by rw [← ht]; simp
            have HT := Lib.hid (And.intro ht (And.intro hts ht3))
            have hy1 : ¬ 9223372036854775807 < t.size + 10 := by omega
            have hy2 : ¬ 9223372036854775807 < 2 + t.size := by omega
            have hy3 : ¬ 9223372036854775807 < 2 + t.size + 1 := by omega
            clear ht hts ht3
            gi_wp2
            refine ⟨trivial, (callsIn_mk hx1).mono ?_⟩
            rintro e w7 ⟨a7, n7, c7, rfl, hown7, hb7⟩
            obtain ⟨g7, c7', hv7, _, _⟩ := hown7.form (by decide)
            cases hv7
            obtain ⟨_, _, _, _, hr7⟩ := own_row hown7
            have y7 := (hr7.cells 1 65 ⟨4, [], 0, 999999999⟩ rfl).2.2.2.2.2.2.2
            have H7 := Lib.hid (And.intro (up HW.out.2.1 hb7) (And.intro (HW.out.1.below hb7 HW.out.1.lt) (And.intro ((hb7.block D hDW).trans HW.out.2.2.1) (And.intro hr7.lt (And.intro y7 hDW)))))
            clear hx1 hown7 hr7 y7
            gi_wp2
            have hx2 := lex_any (⟨#[59, 32]⟩ ++ t ++ ⟨#[97]⟩) w7 (hev H7.out.1)
            rw [HT.out.2.2, nm_long] at hx2
            have hD7 : D < w7.heap.size := (Array.getElem?_eq_some_iff.1 H7.out.2.2.1).1
            refine ⟨trivial, (callsIn_mk hx2).mono ?_⟩
            rintro e w8 ⟨a8, n8, c8, rfl, hown8, hb8⟩
            have H8 := Lib.hid (And.intro (up H7.out.1 hb8) (And.intro (H7.out.2.1.below hb8 H7.out.2.1.lt) (And.intro ((hb8.block D hD7).trans H7.out.2.2.1) (And.intro (Nat.lt_of_lt_of_le H7.out.2.2.2.1 hb8.size) ((hb8.cell (p := ⟨g7, 0 + 1 * 8 + 7, none⟩) H7.out.2.2.2.1).trans H7.out.2.2.2.2.1)))))
            clear hx2 hown8 hb8 hD7 H7 hb7
            gi_wp2
            have hx3 := lex_any ⟨#[59, 32, 49, 48, 48, 48, 48, 48, 48, 48, 48, 48]⟩ w8 (hev H8.out.1)
            rw [show (⟨#[59, 32, 49, 48, 48, 48, 48, 48, 48, 48, 48, 48]⟩ : ByteArray).data.toList = [59, 32, 49, 48, 48, 48, 48, 48, 48, 48, 48, 48] from rfl, no_long] at hx3
            have hD8 : D < w8.heap.size := (Array.getElem?_eq_some_iff.1 H8.out.2.2.1).1
            refine ⟨trivial, (callsIn_mk hx3).mono ?_⟩
            rintro e w9 ⟨a9, n9, c9, rfl, hown9, hb9⟩
            have y7 := (hb9.cell (p := ⟨g7, 0 + 1 * 8 + 7, none⟩) H8.out.2.2.2.1).trans H8.out.2.2.2.2
            have H9 := Lib.hid (And.intro (up H8.out.1 hb9) (And.intro (H8.out.2.1.below hb9 H8.out.2.1.lt) ((hb9.block D hD8).trans H8.out.2.2.1)))
            clear hx3 hown9 hb9 hD8 H8
            simp only [Nat.zero_add, Nat.one_mul] at y7
            have hT1i : (T1.length : Int) = 1048575 := by omega
            gi_wp2
            refine ⟨trivial, (callsIn_mk (num_any _ _)).mono ?_⟩
            rintro e wn ⟨rfl, rfl⟩
            gi_wp2
            refine ⟨trivial, (callsIn_mk (num_any _ _)).mono ?_⟩
            rintro e wn ⟨rfl, rfl⟩
            gi_wp2
            refine ⟨trivial, (callsIn_mk (num_any _ _)).mono ?_⟩
            rintro e wn ⟨rfl, rfl⟩
            gi_wp2
            refine ⟨trivial, (callsIn_mk (num_any _ _)).mono ?_⟩
            rintro e wn ⟨rfl, rfl⟩
            gi_wp2
            refine ⟨trivial, (callsIn_mk (num_any _ _)).mono ?_⟩
            rintro e wn ⟨rfl, rfl⟩
            gi_wp2
            refine ⟨trivial, (callsIn_mk (num_any _ _)).mono ?_⟩
            rintro e wn ⟨rfl, rfl⟩
            gi_wp2
            refine ⟨trivial, (callsIn_mk (num_any _ _)).mono ?_⟩
            rintro e wn ⟨rfl, rfl⟩
            gi_wp2
            have hD9 : D < wn.heap.size := (Array.getElem?_eq_some_iff.1 H9.out.2.2).1
            refine ⟨trivial, (callsIn_mk (works_any _ (hev H9.out.1) (hbv H9.out.1))).mono ?_⟩
            rintro e wz ⟨rfl, hbz⟩
            have hB := H9.out.2.1.below hbz H9.out.2.1.lt
            have f3 := hB.frozen 0
            have c3 := hB.cell 0
            simp at c3
            have HB := Lib.hid (And.intro hB (And.intro (up H9.out.1 hbz) ((hbz.block D hD9).trans H9.out.2.2)))
            have hDs : h0 ≠ D := by rintro rfl; have h1 := H9.out.2.2; have h2 := H9.out.2.1; unfold Blk at h2; rw [h1] at h2; cases h2
            clear hbz hB
            gi_wp2
            have hK' := (KeepsOthers.setCell wz ⟨h0, 0, none⟩ (.bool true)).same D _ HB.out.2.2 rfl
            have h2' : (wz.setCell ⟨h0, 0, none⟩ (.bool true)).cell? ⟨h0, 0, none⟩ = some (.bool true) := (HB.out.1.set_ 0 (.bool true)).cell 0
            have hc5 := cell_kept h2' (grownBy_putObj' _ D (.deferred none)) (fun r e => by cases e; exact ⟨_, hK', rfl⟩)
            have hDge : w.heap.size ≤ D := by rw [hh0]; exact Nat.le_trans hs6 HW.out.2.2.2
            refine ⟨by simp, .inl ⟨_, _, rfl, run_takeDeferred hK', ?_⟩⟩
            refine ⟨.bool true, ?_, rfl, ?_⟩
            · clear h2' hK' c3 f3
              simp [results, Tryd.f5, go_sem, hc5]
            · rw [hh0]
              exact (HB.out.2.1.setCell (p := ⟨h0, 0, none⟩) (Nat.le_refl _) (.bool true)).trans (belowK_b (w := w) (Nat.le_of_eq hh0.symm) _ D _ _ hDge hK' rfl rfl)
end Go.Proofs.YtmkidbenndhhjaaDoor.Dx
