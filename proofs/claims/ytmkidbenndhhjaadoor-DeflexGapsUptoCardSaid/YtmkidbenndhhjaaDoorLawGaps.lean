/-
  DeflexGaps.
-/
import Derived.Test.YtmkidbenndhhjaaDoorGapsPure
set_option linter.unusedVariables false
set_option linter.unusedSimpArgs false
namespace Go.Proofs.YtmkidbenndhhjaaDoor.Dx
open Go.RowKit Go.Proofs Mx Bx
/-- Numbers in memory, as a slice shows them. -/
structure IntsW (w : World) (a : Option Addr) (n : Nat) : Prop where
  some_ : ∀ b, a = some b → ∃ g o, b = ⟨g, o, none⟩ ∧ g < w.heap.size ∧ ∀ i, i < n → ∃ x, w.cell? ⟨g, o + i, none⟩ = some (.int .i64 x)
  none_ : a = none → n = 0
theorem IntsW.at_ {w wr : World} {a : Option Addr} {n i : Nat} (h : IntsW w a n) (hi : i < n) (hb : Below w.heap.size w wr) : ∃ g o x, a = some ⟨g, o, none⟩ ∧ wr.cell? ⟨g, o + i, none⟩ = some (.int .i64 x) := by
  cases a with
  | none => have := h.none_ rfl; omega
  | some b =>
    obtain ⟨g, o, rfl, hg, hc⟩ := h.some_ b rfl
    obtain ⟨x, hx⟩ := hc i hi
    exact ⟨g, o, x, rfl, (hb.cell (p := ⟨g, o + i, none⟩) hg).trans hx⟩
def placesV (L : List (List UInt8 × Wd)) : List Value := (gapPlaces 0 L).map fun q => .int .i64 (q.1 : Int)
theorem placesV_len (L : List (List UInt8 × Wd)) : (placesV L).length = L.length := by rw [placesV, List.length_map, gapPlaces_len]
theorem placesV_snoc (L : List (List UInt8 × Wd)) (g : List UInt8) (v : Wd) : placesV (L ++ [(g, v)]) = placesV L ++ [.int .i64 (((gapText L).length + g.length : Nat) : Int)] := by
  rw [placesV, gapPlaces_snoc, List.map_append, Nat.zero_add]; rfl
/-- Behind i words. -/
structure GS (w wr : World) (l : List (Int × Wd)) (i : Nat) (t : ByteArray) (pv : Value) (L : List (List UInt8 × Wd)) : Prop where
  text : t.data.toList = gapText L
  size : t.size ≤ i * 212
  len : L.length = i
  snd : L.map (·.2) = (l.take i).map (·.2)
  may : ∀ q ∈ L, gapG q.1 ∧ mayW q.2
  own : wr.ownsRow w.heap.size 3 1 pv i (placesV L)
  bel : Below w.heap.size w wr
theorem GS.step {w wr w2 : World} {l : List (Int × Wd)} {i j : Nat} {p : Int} {v : Wd} {t gB sB : ByteArray} {pv pv' : Value} {L : List (List UInt8 × Wd)} (h : GS w wr l i t pv L) (hl : l[i]? = some (p, v))
    (hv : mayW v) (hg : gB.data.toList = gapOf j) (hs : sB.data.toList = toldF v) (hsz : sB.size ≤ 200)
    (hown : w2.ownsRow w.heap.size 3 1 pv' (i + 1) (placesV L ++ [.int .i64 ((t ++ gB).size : Int)])) (hb : Below w.heap.size w w2) : GS w w2 l (i + 1) ((t ++ gB) ++ sB) pv' (L ++ [(gapOf j, v)]) := by
  have h1 : (t ++ gB).data.toList = gapText L ++ gapOf j := by rw [← hg, ← h.text]; simp
  have h2 : gB.size = (gapOf j).length := by rw [← hg]; exact Lib.size_eq gB
  have h3 := gapOf_len j
  have h4 := h.size
  have h5 : (t ++ gB).size = (gapText L).length + (gapOf j).length := by
    rw [Lib.size_eq, h1, List.length_append]
  refine ⟨?_, ?_, ?_, ?_, ?_, ?_, hb⟩
  · rw [gapText_snoc, ← List.append_assoc, ← h1, ← hs]; simp
  · rw [ByteArray.size_append, ByteArray.size_append, h2]; omega
  · rw [List.length_append, h.len]; rfl
  · obtain ⟨hi, he⟩ := List.getElem?_eq_some_iff.1 hl
    rw [List.map_append, h.snd, List.take_succ_eq_append_getElem hi, List.map_append, he]; rfl
  · intro q hq
    rcases List.mem_append.1 hq with hq | hq
    · exact h.may q hq
    · simp at hq; subst hq; exact ⟨gapG_of j, hv⟩
  · rw [placesV_snoc, ← h5]; exact hown
theorem slice_new (w : World) (p : Int) (v : Wd) : SliceW (w.alloc (.cells (wdC p v) 51)) (.slice (some ⟨w.heap.size, 0, none⟩) 1 1) [(p, v)] := by
  have hb := Blk.new w 51 (wdC p v)
  refine SliceW.row (l := [(p, v)]) (cap := 1) ⟨by simp, ?_⟩ (by simp)
  intro i p' v' hi
  cases i with
  | zero =>
    simp at hi
    obtain ⟨rfl, rfl⟩ := hi
    exact ⟨hb.cell 0, hb.cell 1, hb.cell 2, hb.cell 3, hb.cell 4, hb.cell 5, hb.cell 6, hb.cell 7⟩
  | succ i => simp at hi
def gapB (j : Nat) : ByteArray := ⟨(gapOf j).toArray⟩
theorem gapB_list (j : Nat) : (gapB j).data.toList = gapOf j := rfl
theorem gapB_cell (j : Nat) (h : j < 4) : ([.string ⟨#[32]⟩, .string ⟨#[10]⟩, .string ⟨#[47, 47, 10]⟩, .string ⟨#[9, 13, 32, 47, 47, 32, 97, 34, 91, 47, 42, 10]⟩] : List Value)[j]'h = .string (gapB j) := by
  match j, h with
  | 0, _ => rfl
  | 1, _ => rfl
  | 2, _ => rfl
  | 3, _ => rfl
theorem gapB_le (j : Nat) : (gapB j).size ≤ 12 := by rw [Lib.size_eq]; exact gapOf_len j
theorem str_appG (t : ByteArray) (acc more : List UInt8) (h : t.data.toList = acc) : (t ++ ⟨more.toArray⟩).data.toList = acc ++ more := by
  subst h
  simp
theorem own_below {w w' : World} {B : Nat} {e : TypeId} {size : Nat} {v : Value} {n : Nat} {xs : List Value} (h : w.ownsRow B e size v n xs) (hb : Below w.heap.size w w') : w'.ownsRow B e size v n xs := by
  refine h.kept (row := none) ⟨hb.os, hb.tape, hb.output, hb.size, fun k hk _ => hb.block k hk⟩ ?_
  cases v.ownBlock with
  | none => exact .inl rfl
  | some k => exact .inr (by simp)
theorem infoInt : (Tryd.prog.info? 3).map (fun i => (i.zero, i.size, i.bytes)) = some (some (.int .i64 0), 1, 8) := by kernel_rfl
set_option maxRecDepth 100000 in
set_option maxHeartbeats 8000000 in
theorem gaps_law (V G : Value) (l : List (Int × Wd)) (ga : Option Addr) (gn gc : Nat) (w : World) (hV : SliceW w V l) (hset : ∀ q ∈ l, q.2.set < 2 ^ 256) (htx : ∀ q ∈ l, q.2.text.length ≤ 1048576) (hG : IntsW w ga gn) (E : Env w) (R : Bru w) :
    Calls Tryd.prog 8 #[V, .slice ga gn gc] w fun e w' => e = .returned (.bool true) ∧ Below w.heap.size w w' := by
  have h10 := E.big
  have HE := Lib.hid (And.intro E R)
  clear E R
  obtain ⟨i0, hi0, hz0, hz1, hz2⟩ := info_parts infoInt
  obtain ⟨a0, c0, rfl, ho⟩ := hV.opt
  have HV := Lib.hid (And.intro hV (And.intro hset (And.intro ho (And.intro htx hG))))
  clear hV hset ho htx hG
  go_enter Tryd.func8, Tryd.ntmps8
  have HZ := Lib.hid (Below.refl w.heap.size w)
  by_cases ha : 100 < l.length
  · have ha' : (100 : Int) < (l.length : Int) := by omega
    go_wp2_with fail
    refine (works_any _ (HE.out.1.below HZ.out h10) (HE.out.2.below HZ.out h10)).mono ?_
    rintro e wz ⟨rfl, hbz⟩
    have HY := Lib.hid (HZ.out.trans (hbz.mono HZ.out.size))
    clear hbz
    go_wp2_with fail
    go_ret
    exact ⟨rfl, HY.out⟩
  have ha' : ¬ (100 : Int) < (l.length : Int) := by omega
  go_wp2_with fail
  go_loopg [5, 6, 7] l.length (fun m tv pv v wr => ∃ (i : Nat) (t : ByteArray) (L : List (List UInt8 × Wd)), i ≤ l.length ∧ m = l.length - i ∧ v = .int .i64 i ∧ tv = .string t ∧ t.size ≤ i * 212 ∧ GS w wr l i t pv L)
  case atStart => exact ⟨0, ⟨#[]⟩, [], by omega, by omega, rfl, rfl, by decide, ⟨rfl, by decide, rfl, rfl, by simp, World.ownsRow_nil _ _ _ _, Below.refl _ _⟩⟩
  case round =>
    obtain ⟨i, t, L, hi, hm, rfl, rfl, htsz, hS⟩ := hrel
    have A := Lib.hid (And.intro hm hS)
    have hbw := hS.bel.size
    clear hm hS
    by_cases hlt : i < l.length
    · obtain ⟨g, o, rfl, hr⟩ := HV.out.2.2.1.some (by omega)
      obtain ⟨q, hq⟩ : ∃ q, l[i]? = some q := ⟨_, List.getElem?_eq_getElem hlt⟩
      obtain ⟨p, v⟩ := q
      obtain ⟨x0, x1, x2, x3, x4, x5, x6, x7⟩ := (hr.cells i p v hq).below A.out.2.bel hr.lt
      have hmem : (p, v) ∈ l := List.mem_of_getElem? hq
      have hlt' : (i : Int) < (l.length : Int) := by omega
      have hi0' : (0 : Int) ≤ (i : Int) := by omega
      have HQ := Lib.hid (And.intro hq (And.intro (HV.out.2.1 _ hmem) (HV.out.2.2.2.1 _ hmem)))
      clear hr hq hmem
      go_wp2_with fail
      have hpr := print_any (.slice (some ⟨wr.heap.size, 0, none⟩) 1 1) [(p, v)] (by simp) (by intro q hq; simp at hq; subst hq; exact ⟨HQ.out.2.1, Nat.le_trans HQ.out.2.2 (by decide)⟩)
        (by intro h; have := tell_all [v] 1048576 (by simpa [allMay] using h) (by intro x hx; simp at hx; subst hx; exact HQ.out.2.2); have e : [v].length = 1 := rfl; rw [e] at this; show (tellL [v]).length ≤ _; omega)
        (wr.alloc (.cells (wdC p v) 51)) (HE.out.1.below (A.out.2.bel.alloc hbw _) h10) (HE.out.2.below (A.out.2.bel.alloc hbw _) h10) (slice_new wr p v)
      simp only [List.map_cons, List.map_nil] at hpr
      obtain ⟨T, hT⟩ : ∃ T, toldF v = T := ⟨_, rfl⟩
      rcases printF_cases [v] with ⟨hp1, hp2, hp3⟩ | hp3
      · rw [hp3, show tellL [v] = T from hT] at hpr
        rw [show tellL [v] = T from hT] at hp2
        have HP := Lib.hid (And.intro hp1 hT)
        clear hp1 hp3 hT
        refine hpr.mono ?_
        rintro e w2 ⟨rfl, hb2⟩
        have H2 := Lib.hid (And.intro ((A.out.2.bel.alloc hbw _).trans (hb2.mono (by simp; omega))) (own_below (A.out.2.own.alloc _) hb2))
        clear hpr hb2 x0 x1 x2 x3 x4 x5 x6 x7
        have hsz : (⟨T.toArray⟩ : ByteArray).size = T.length := by rw [Lib.size_eq]
        go_wp2_with fail
        refine (num_any _ _).mono ?_
        rintro e wn ⟨rfl, rfl⟩
        by_cases hbig : 200 < T.length
        · have hbig' : (200 : Int) < ((⟨T.toArray⟩ : ByteArray).size : Int) := by omega
          have HZ := Lib.hid H2.out.1
          go_wp2_with fail
          refine (works_any _ (HE.out.1.below HZ.out h10) (HE.out.2.below HZ.out h10)).mono ?_
          rintro e wz ⟨rfl, hbz⟩
          have HY := Lib.hid (HZ.out.trans (hbz.mono HZ.out.size))
          clear hbz
          go_wp2_with fail
          go_ret
          exact ⟨rfl, HY.out⟩
        have hbig' : ¬ (200 : Int) < ((⟨T.toArray⟩ : ByteArray).size : Int) := by omega
        by_cases hgi : i < gn
        · skip
          obtain ⟨gg, go, x, rfl, hx⟩ := HV.out.2.2.2.2.at_ hgi H2.out.1
          obtain ⟨j, hj, hand⟩ := and3 x
          have hcj := gapB_cell j hj
          have hj4 : (j : Int) < 4 := by omega
          have hj0 : (0 : Int) ≤ (j : Int) := by omega
          have hgi' : (i : Int) < (gn : Int) := by omega
          have hgb := gapB_le j
          have hy1 : ¬ 9223372036854775807 < t.size + (gapB j).size := by omega
          have hy2 : ¬ 9223372036854775807 < t.size + (gapB j).size + T.length := by omega
          go_wp2_with (at_builtin; refine wpList_append_own _ rfl _ _ 55 rfl w.heap.size 3 i0 (.int .i64 0) 1 8 Tryd.underlying55 hi0 hz0 hz1 hz2 rfl (by decide) _ _ _ rfl ((H2.out.2.alloc _).alloc _) ⟨wn.heap.size + 1, 0, none⟩ 1 1 [.int .i64 ((t.size : Int) + ((gapB j).size : Int))] rfl rfl ?c1 ?c2 ?c3 ?c4 ?c5 ?_)
          case c1 =>
            intro j' u hj'
            match j', hj' with
            | 0, hj' => simp at hj'; subst hj'; simp [Addr.add]
          case c2 => intro u hu; simp at hu; subst hu; rfl
          case c3 => unfold maxLen; omega
          case c4 => omega
          case c5 => have := H2.out.1.size; simp; omega
          intro v' w3 hown' hgrow _
          have HS := Lib.hid (GS.step (j := j) (sB := ⟨T.toArray⟩) A.out.2 HQ.out.1 ⟨by simpa using HP.out.1, HQ.out.2.1⟩ (gB := gapB j) rfl HP.out.2.symm (by omega) (by rw [show ((t ++ gapB j).size : Int) = (t.size : Int) + ((gapB j).size : Int) by rw [ByteArray.size_append]; rfl]; exact hown')
            (((H2.out.1.alloc H2.out.1.size _).alloc (by have := H2.out.1.size; simp; omega) _).grown hgrow (by have := H2.out.1.size; simp; omega) (fun k hk => (A.out.2.own.lt k hk).1)))
          have htt := HS.out.size
          clear hown' hgrow
          go_wp2_with fail
          go_roundg (l.length - (i + 1))
          case measure => have := A.out.1; omega
          case rel =>
            refine ⟨i + 1, _, _, by omega, by omega, rfl, rfl, ?_, HS.out⟩
            exact HS.out.size
        · skip
          have hgi' : ¬ (i : Int) < (gn : Int) := by omega
          have hy1 : ¬ 9223372036854775807 < t.size + 1 := by omega
          have hy2 : ¬ 9223372036854775807 < t.size + 1 + T.length := by omega
          go_wp2_with (at_builtin; refine wpList_append_own _ rfl _ _ 55 rfl w.heap.size 3 i0 (.int .i64 0) 1 8 Tryd.underlying55 hi0 hz0 hz1 hz2 rfl (by decide) _ _ _ rfl ((H2.out.2.alloc _).alloc _) ⟨wn.heap.size + 1, 0, none⟩ 1 1 [.int .i64 ((t.size : Int) + 1)] rfl rfl ?c1 ?c2 ?c3 ?c4 ?c5 ?_)
          case c1 =>
            intro j' u hj'
            match j', hj' with
            | 0, hj' => simp at hj'; subst hj'; simp [Addr.add]
          case c2 => intro u hu; simp at hu; subst hu; rfl
          case c3 => unfold maxLen; omega
          case c4 => omega
          case c5 => have := H2.out.1.size; simp; omega
          intro v' w3 hown' hgrow _
          have HS := Lib.hid (GS.step (j := 0) (sB := ⟨T.toArray⟩) A.out.2 HQ.out.1 ⟨by simpa using HP.out.1, HQ.out.2.1⟩ (gB := ⟨#[32]⟩) rfl HP.out.2.symm (by omega) (by rw [show ((t ++ ⟨#[32]⟩).size : Int) = (t.size : Int) + 1 by rw [ByteArray.size_append]; rfl]; exact hown')
            (((H2.out.1.alloc H2.out.1.size _).alloc (by have := H2.out.1.size; simp; omega) _).grown hgrow (by have := H2.out.1.size; simp; omega) (fun k hk => (A.out.2.own.lt k hk).1)))
          have htt := HS.out.size
          clear hown' hgrow
          go_wp2_with fail
          go_roundg (l.length - (i + 1))
          case measure => have := A.out.1; omega
          case rel =>
            refine ⟨i + 1, _, _, by omega, by omega, rfl, rfl, ?_, HS.out⟩
            exact HS.out.size
      · have hpe : ∃ k : Int, printF [v] = ([], k) ∧ (k != 0) = true := by
          rcases hp3 with h | h
          · exact ⟨2, h, rfl⟩
          · exact ⟨3, h, rfl⟩
        obtain ⟨k, hk, hk0⟩ := hpe
        rw [hk] at hpr
        clear hp3 hk hT
        refine hpr.mono ?_
        rintro e w2 ⟨rfl, hb2⟩
        have HZ := Lib.hid ((A.out.2.bel.alloc hbw _).trans (hb2.mono (by simp; omega)))
        clear hpr hb2 x0 x1 x2 x3 x4 x5 x6 x7
        go_wp2_with fail
        refine (num_any _ _).mono ?_
        rintro e wn ⟨rfl, rfl⟩
        go_wp2_with fail
        refine (works_any _ (HE.out.1.below HZ.out h10) (HE.out.2.below HZ.out h10)).mono ?_
        rintro e wz ⟨rfl, hbz⟩
        have HY := Lib.hid (HZ.out.trans (hbz.mono HZ.out.size))
        clear hbz
        go_wp2_with fail
        go_ret
        exact ⟨rfl, HY.out⟩
    · obtain rfl : i = l.length := by omega
      obtain ⟨zs, hz⟩ : ∃ zs, gapPlaces 0 L = zs := ⟨_, rfl⟩
      have hzl : zs.length = l.length := by rw [← hz, gapPlaces_len, A.out.2.len]
      have hzs : zs.map (·.2) = l.map (·.2) := by rw [← hz, gapPlaces_snd, A.out.2.snd, List.take_length]
      have hsz : t.size = (gapText L).length := by rw [Lib.size_eq, A.out.2.text]
      have hend := gaps_end L A.out.2.may
      have hbad := gaps_bad L A.out.2.may
      rw [hz] at hend
      have hlx := lex_any (t ++ ⟨#[10, 32, 47, 47]⟩) wr (HE.out.1.below A.out.2.bel h10)
      rw [show (t ++ ⟨#[10, 32, 47, 47]⟩ : ByteArray).data.toList = gapText L ++ [10, 32, 47, 47] from str_appG t (gapText L) [10, 32, 47, 47] A.out.2.text,
        lexR_ok _ (by rw [List.length_append, ← hsz]; simp; omega) (by rw [hend]), hend] at hlx
      have hset6 : ∀ q ∈ wI zs, q.2.set < 2 ^ 256 := by
        intro q hq
        have hm : q.2 ∈ zs.map (·.2) := by rw [← wI_snd]; exact List.mem_map_of_mem hq
        rw [hzs] at hm
        obtain ⟨q', hq', e⟩ := List.mem_map.1 hm
        rw [← e]
        exact HV.out.2.1 q' hq'
      have HF := Lib.hid (And.intro hz (And.intro hzl (And.intro hzs (And.intro hsz (And.intro hbad hset6)))))
      clear hz hzl hzs hsz hend hbad hset6
      have hy1 : ¬ 9223372036854775807 < t.size + 4 := by omega
      have hy2 : ¬ 9223372036854775807 < t.size + 2 := by omega
      go_wp2_with fail
      refine hlx.mono ?_
      rintro e w6 ⟨a6, n6, c6, rfl, hown6, hb6⟩
      obtain ⟨hn6, hs6⟩ := own_sliceW hown6
      rw [HF.out.2.1] at hn6
      subst hn6
      have H6 := Lib.hid (And.intro (A.out.2.bel.trans (hb6.mono A.out.2.bel.size)) (And.intro hs6 (own_below A.out.2.own hb6)))
      clear hlx hown6 hb6 hs6
      go_wp2_with fail
      refine (num_any _ _).mono ?_
      rintro e wn ⟨rfl, rfl⟩
      go_wp2_with fail
      refine (same_any _ _ (wI zs) l (by rw [wI_len, HF.out.2.1]; omega) (by omega) HF.out.2.2.2.2.2 HV.out.2.1 _ H6.out.2.1 (HV.out.1.below H6.out.1)).mono ?_
      rintro e w7 ⟨rfl, hb7⟩
      rw [decide_eq_true (show (wI zs).map (·.2) = l.map (·.2) by rw [wI_snd, HF.out.2.2.1])]
      have H7 := Lib.hid (And.intro (H6.out.1.trans (hb7.mono H6.out.1.size)) (And.intro (H6.out.2.1.below hb7) (own_below H6.out.2.2 hb7)))
      clear hb7
      go_wp2_with fail
      go_loopg [14] l.length (fun m v wx => ∃ i n : Nat, i ≤ l.length ∧ m = l.length - i ∧ v = .int .i64 i ∧ wx = w7.drewN n)
      case atStart => exact ⟨0, 0, by omega, by omega, rfl, rfl⟩
      case round =>
        obtain ⟨i, nd, hi, hm, rfl, rfl⟩ := hrel
        have M := Lib.hid hm
        clear hm
        by_cases hlt : i < l.length
        · obtain ⟨pg, pc, rfl, _, _⟩ := H7.out.2.2.form (by omega)
          obtain ⟨a6', c6', he, ho6⟩ := H7.out.2.1.opt
          rw [wI_len, HF.out.2.1] at he
          cases he
          obtain ⟨g6, o6, rfl, hr6⟩ := ho6.some (by rw [wI_len, HF.out.2.1]; omega)
          obtain ⟨q, hq⟩ : ∃ q, zs[i]? = some q := ⟨_, List.getElem?_eq_getElem (by rw [HF.out.2.1]; exact hlt)⟩
          obtain ⟨p, v⟩ := q
          obtain ⟨_, y1, _⟩ := hr6.cells i p v (by rw [wI, List.getElem?_map, hq]; rfl)
          have y2 := H7.out.2.2.cellAt i (by omega)
          rw [placesV, List.getElem?_map, HF.out.1, hq] at y2
          simp only [Option.map_some] at y2
          have hlt' : (i : Int) < (l.length : Int) := by omega
          have hi0' : (0 : Int) ≤ (i : Int) := by omega
          clear hr6 hq ho6
          go_wp2_with fail
          go_quiet (fail)
          go_wp2_with fail
          go_roundg (l.length - (i + 1))
          case measure => have := M.out; omega
          case rel => exact ⟨i + 1, _, by omega, by omega, rfl, rfl⟩
        · obtain rfl : i = l.length := by omega
          have hlx := lex_any (t ++ ⟨#[32, 35]⟩) (w7.drewN nd) (HE.out.1.below (below_drewN H7.out.1 nd) h10)
          rw [show (t ++ ⟨#[32, 35]⟩ : ByteArray).data.toList = gapText L ++ [32, 35] from str_appG t (gapText L) [32, 35] A.out.2.text,
            lexR_no _ (by rw [List.length_append, ← HF.out.2.2.2.1]; simp; omega) _ HF.out.2.2.2.2.1, ← HF.out.2.2.2.1] at hlx
          go_wp2_with fail
          refine hlx.mono ?_
          rintro e w8 ⟨a8, n8, c8, rfl, hown8, hb8⟩
          obtain ⟨rfl, hs8⟩ := own_sliceW hown8
          have HZ := Lib.hid ((below_drewN H7.out.1 nd).trans (hb8.mono (below_drewN H7.out.1 nd).size))
          clear hlx hown8 hb8 hs8
          go_wp2_with fail
          refine (num_any _ _).mono ?_
          rintro e wn ⟨rfl, rfl⟩
          go_wp2_with fail
          refine (works_any _ (HE.out.1.below HZ.out h10) (HE.out.2.below HZ.out h10)).mono ?_
          rintro e wz ⟨rfl, hbz⟩
          have HY := Lib.hid (HZ.out.trans (hbz.mono HZ.out.size))
          clear hbz
          go_wp2_with fail
          go_ret
          exact ⟨rfl, HY.out⟩
end Go.Proofs.YtmkidbenndhhjaaDoor.Dx
