/-
  A parameter that is a slice of words, opened.
-/
import Derived.Test.YtacgnbelcpmjfaaGreatDoorPrintA
import Derived.Deep.Slices
import Derived.OpenShut
set_option linter.unusedVariables false
set_option linter.unusedSimpArgs false
namespace Go.Proofs.YtacgnbelcpmjfaaGreatDoor.Dx
open Go.RowKit Go.Proofs Mx Bx
open Go.ChangeShapes Go.WideShapes Go.ChangeAt Go.WideMaps Go.WideElems
section
variable {H : Type} {enc : TypeId × Value → H} {w : World} {base : Nat} {sp : Nat → Bool} {held : Bool}
theorem cwWord : Tryz.prog.cellsOf 35 = 8 := by kernel_rfl
theorem cwKind : Tryz.prog.cellsOf 30 = 1 := by kernel_rfl
theorem cwInt : Tryz.prog.cellsOf 3 = 1 := by kernel_rfl
theorem cwStr : Tryz.prog.cellsOf 9 = 1 := by kernel_rfl
theorem cwSet : Tryz.prog.cellsOf 33 = 4 := by kernel_rfl
theorem cwU64 : Tryz.prog.cellsOf 31 = 1 := by kernel_rfl
theorem wd_of (s0 s1 s2 s3 : Int) (h0 : 0 ≤ s0 ∧ s0 < 18446744073709551616) (h1 : 0 ≤ s1 ∧ s1 < 18446744073709551616) (h2 : 0 ≤ s2 ∧ s2 < 18446744073709551616) (h3 : 0 ≤ s3 ∧ s3 < 18446744073709551616) :
    ∃ M : Nat, M < 2 ^ 256 ∧ wd M 0 = s0 ∧ wd M 1 = s1 ∧ wd M 2 = s2 ∧ wd M 3 = s3 := by
  obtain ⟨a0, rfl⟩ := Int.eq_ofNat_of_zero_le h0.1
  obtain ⟨a1, rfl⟩ := Int.eq_ofNat_of_zero_le h1.1
  obtain ⟨a2, rfl⟩ := Int.eq_ofNat_of_zero_le h2.1
  obtain ⟨a3, rfl⟩ := Int.eq_ofNat_of_zero_le h3.1
  refine ⟨a0 + 18446744073709551616 * (a1 + 18446744073709551616 * (a2 + 18446744073709551616 * a3)), ?_, ?_, ?_, ?_, ?_⟩
  · have : (2 : Nat) ^ 256 = 18446744073709551616 * (18446744073709551616 * (18446744073709551616 * 18446744073709551616)) := by decide
    omega
  · unfold wd
    rw [show (2 : Nat) ^ (64 * 0) = 1 by decide]
    omega
  · unfold wd
    rw [show (2 : Nat) ^ (64 * 1) = 18446744073709551616 by decide]
    omega
  · unfold wd
    rw [show (2 : Nat) ^ (64 * 2) = 18446744073709551616 * 18446744073709551616 by decide, ← Nat.div_div_eq_div_mul]
    omega
  · unfold wd
    rw [show (2 : Nat) ^ (64 * 3) = 18446744073709551616 * (18446744073709551616 * 18446744073709551616) by decide, ← Nat.div_div_eq_div_mul, ← Nat.div_div_eq_div_mul]
    omega
theorem u64_wf {s : Int} (h : (Lit.int IntKind.u64 s).wf = true) : 0 ≤ s ∧ s < 18446744073709551616 := by
  simp [Lit.wf] at h
  have h1 : IntKind.u64.min = 0 := rfl
  have h2 : IntKind.u64.max = 18446744073709551615 := rfl
  omega
set_option maxRecDepth 100000 in
theorem word_open {fuel : Nat} {cs : List Value} {x : DataW H × List MemPlace} (h : DataW.trod enc Tryz.prog w base sp held fuel 35 cs = some x) : ∃ (p : Int) (v : Wd), v.set < 2 ^ 256 ∧ cs = (wdC p v).toList := by
  obtain ⟨xs, k, _, _, hl, hxl, hf⟩ := DataW.trod_struct Tryz.underlying35 h
  rw [cwWord] at hl
  obtain ⟨c0, c1, c2, c3, c4, c5, c6, c7, rfl⟩ : ∃ c0 c1 c2 c3 c4 c5 c6 c7, cs = [c0, c1, c2, c3, c4, c5, c6, c7] := by
    match cs, hl with
    | [c0, c1, c2, c3, c4, c5, c6, c7], _ => exact ⟨_, _, _, _, _, _, _, _, rfl⟩
  have g0 := hf 0 _ rfl
  have g1 := hf 1 _ rfl
  have g2 := hf 2 _ rfl
  have g3 := hf 3 _ rfl
  have g4 := hf 4 _ rfl
  clear hf h
  simp only [List.getElem_toArray, List.getElem_cons_succ, List.getElem_cons_zero, cwKind, cwInt, cwStr, cwSet, List.drop_succ_cons, List.drop_zero, List.take_succ_cons, List.take_zero] at g0 g1 g2 g3 g4
  obtain ⟨y0, hx0⟩ : ∃ y, xs[0]? = some y := ⟨_, List.getElem?_eq_getElem (show 0 < xs.length by rw [hxl]; exact (by decide : 0 < 5))⟩
  obtain ⟨y1, hx1⟩ : ∃ y, xs[1]? = some y := ⟨_, List.getElem?_eq_getElem (show 1 < xs.length by rw [hxl]; exact (by decide : 1 < 5))⟩
  obtain ⟨y2, hx2⟩ : ∃ y, xs[2]? = some y := ⟨_, List.getElem?_eq_getElem (show 2 < xs.length by rw [hxl]; exact (by decide : 2 < 5))⟩
  obtain ⟨y3, hx3⟩ : ∃ y, xs[3]? = some y := ⟨_, List.getElem?_eq_getElem (show 3 < xs.length by rw [hxl]; exact (by decide : 3 < 5))⟩
  obtain ⟨y4, hx4⟩ : ∃ y, xs[4]? = some y := ⟨_, List.getElem?_eq_getElem (show 4 < xs.length by rw [hxl]; exact (by decide : 4 < 5))⟩
  rw [hx0] at g0
  rw [hx1] at g1
  rw [hx2] at g2
  rw [hx3] at g3
  rw [hx4] at g4
  obtain ⟨k0, e0, _, _⟩ := DataW.trod_int Tryz.underlying30 g0
  obtain ⟨k1, e1, _, _⟩ := DataW.trod_int Tryz.underlying3 g1
  obtain ⟨k2, e2, _, _⟩ := DataW.trod_string Tryz.underlying9 g2
  obtain ⟨k4, e4, _, _⟩ := DataW.trod_int Tryz.underlying3 g4
  obtain ⟨ys, m, _, _, _, hyl, hy⟩ := DataW.trod_array Tryz.underlying33 g3
  have a0 := hy 0 (by decide)
  have a1 := hy 1 (by decide)
  have a2 := hy 2 (by decide)
  have a3 := hy 3 (by decide)
  simp only [cwU64, Nat.zero_mul, Nat.one_mul, Nat.mul_one, List.drop_succ_cons, List.drop_zero, List.take_succ_cons, List.take_zero] at a0 a1 a2 a3
  rw [List.getElem?_eq_getElem (by rw [hyl]; decide)] at a0 a1 a2 a3
  obtain ⟨s0, f0, _, w0⟩ := DataW.trod_int Tryz.underlying31 a0
  obtain ⟨s1, f1, _, w1⟩ := DataW.trod_int Tryz.underlying31 a1
  obtain ⟨s2, f2, _, w2⟩ := DataW.trod_int Tryz.underlying31 a2
  obtain ⟨s3, f3, _, w3⟩ := DataW.trod_int Tryz.underlying31 a3
  have b0 := u64_wf w0
  have b1 := u64_wf w1
  have b2 := u64_wf w2
  have b3 := u64_wf w3
  obtain ⟨M, hM, m0, m1, m2, m3⟩ := wd_of s0 s1 s2 s3 b0 b1 b2 b3
  refine ⟨k1, ⟨k0, k2.data.toList, M, k4⟩, hM, ?_⟩
  injection e0 with e0
  injection e1 with e1
  injection e2 with e2
  injection e4 with e4
  injection f0 with f0
  injection f1 with f1
  injection f2 with f2
  injection f3 with f3
  subst e0; subst e1; subst e2; subst e4; subst f0; subst f1; subst f2; subst f3
  rw [← m0, ← m1, ← m2, ← m3]
  rfl
set_option maxRecDepth 100000 in
theorem words_open {W : World} {V : Value} {d : DataW H} {p : List MemPlace} (hval : Value.okWide Tryz.prog W .any base 23 V) (h : DataW.Trod enc Tryz.prog W 0 (fun _ => true) true 23 V d p) :
    ∃ l : List (Int × Wd), SliceW W V l ∧ (∀ q ∈ l, q.2.set < 2 ^ 256) ∧ l.length ≤ maxLen := by
  obtain ⟨a, n, c, rfl⟩ := okWide_slice Tryz.underlying23 hval
  have hh : ∀ b, a = some b → n ≤ c ∧ W.has Tryz.prog .any base b 35 c := by
    rintro b rfl
    simp only [Value.okWide, Tryz.underlying23, Cell.okWide, Cell.ok] at hval
    exact ⟨hval.1, hval.2.2⟩
  obtain ⟨fuel, hf⟩ := h
  rcases Go.Deep.open_slice Tryz.underlying23 hf with ⟨hcs, _⟩ | ⟨b, len, cap, m, k, D, Pl, hcs, _, hlen, hcap, hm, _, hx⟩
  · simp [Value.cells] at hcs
    obtain ⟨rfl, rfl, rfl⟩ := hcs
    exact ⟨[], .nil, by simp, Nat.zero_le _⟩
  · simp [Value.cells] at hcs
    obtain ⟨rfl, rfl, rfl⟩ := hcs
    obtain ⟨hnc, _, hs, row, cells, hsh, _⟩ := hh b rfl
    obtain ⟨g, o, sp⟩ := b
    simp only at hs
    subst hs
    have hg : g < W.heap.size := by
      rcases Nat.lt_or_ge g W.heap.size with hg | hg
      · exact hg
      · have hn : W.heap[g]? = none := Array.getElem?_eq_none hg
        simp [World.shape?, hn] at hsh
    have each : ∀ i, i < n → ∃ q : Int × Wd, q.2.set < 2 ^ 256 ∧ W8 W g (o + i * 8) q.1 q.2 := by
      intro i hi
      obtain ⟨cs', h1, h2⟩ := hx i (by rw [hm]; simp; omega)
      obtain ⟨_, _, hcell⟩ := World.cells?_some h1
      obtain ⟨p, v, hv, rfl⟩ := word_open h2
      rw [cwWord] at hcell
      have get : ∀ j, j < 8 → W.cell? ⟨g, o + i * 8 + j, none⟩ = (wdC p v).toList[j]? := by
        intro j hj
        have := hcell j hj
        rw [Addr.add_lit, Addr.add_lit] at this
        exact this
      exact ⟨(p, v), hv, get 0 (by decide), get 1 (by decide), get 2 (by decide), get 3 (by decide), get 4 (by decide), get 5 (by decide), get 6 (by decide), get 7 (by decide)⟩
    haveI : Inhabited (Int × Wd) := ⟨(0, ⟨0, [], 0, 0⟩)⟩
    obtain ⟨Q, hQ⟩ := Go.Deep.choose_lt each
    have hl : ((List.range n).map Q).length = n := by simp
    refine ⟨(List.range n).map Q, ?_, ?_, ?_⟩
    · have := SliceW.row (w := W) (g := g) (o := o) (cap := c) (l := (List.range n).map Q) ⟨hg, ?_⟩ (by rw [hl]; exact hnc)
      · rw [hl] at this; exact this
      · intro i p v hi
        rw [List.getElem?_map] at hi
        obtain ⟨j, h1, h2⟩ := Option.map_eq_some_iff.1 hi
        obtain ⟨hj, hj2⟩ := List.getElem?_eq_some_iff.1 h1
        simp at hj hj2
        subst hj2
        have := (hQ i hj).2
        rw [h2] at this
        exact this
    · intro q hq
      obtain ⟨j, hj, rfl⟩ := List.mem_map.1 hq
      exact (hQ j (by simpa using hj)).1
    · rw [hl]; omega
end
end Go.Proofs.YtacgnbelcpmjfaaGreatDoor.Dx
