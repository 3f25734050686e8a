/-
  A parameter that is a slice of words, opened, with its bulk.
-/
import Derived.Test.YtmkidbenndhhjaaDoorOpenW
import Derived.Test.YtmkidbenndhhjaaDoorRows
import Derived.OpenShut
set_option linter.unusedVariables false
set_option linter.unusedSimpArgs false
namespace Go.Proofs.YtmkidbenndhhjaaDoor.Dx
open Go.RowKit Go.Proofs Mx Bx
open Go.ChangeShapes Go.WideShapes Go.ChangeAt Go.WideMaps Go.WideElems
section
variable {H : Type} {enc : TypeId × Value → H} {w : World} {base : Nat} {sp : Nat → Bool} {held : Bool}
theorem bulk_part {d : DataW H} {l : List (DataW H)} (h : d ∈ l) : Rows.uptoBulk d ≤ Rows.uptoBulkAll l := by
  induction l with
  | nil => cases h
  | cons x r ih =>
    simp only [Rows.uptoBulkAll]
    cases List.mem_cons.1 h with
    | inl e => subst e; omega
    | inr e => have := ih e; omega
set_option maxRecDepth 100000 in
theorem word_bulk {fuel : Nat} {p : Int} {v : Wd} {x : DataW H × List MemPlace} (h : DataW.trod enc Tryd.prog w base sp held fuel 51 (wdC p v).toList = some x) : v.text.length ≤ Rows.uptoBulk x.1 := by
  obtain ⟨xs, k, _, rfl, hl, hxl, hf⟩ := DataW.trod_struct Tryd.underlying51 h
  have g2 := hf 2 _ rfl
  clear hf h
  obtain ⟨y2, hx2⟩ : ∃ y, xs[2]? = some y := ⟨_, List.getElem?_eq_getElem (show 2 < xs.length by rw [hxl]; exact (by decide : 2 < 5))⟩
  rw [hx2] at g2
  obtain ⟨k2, e2, e3, _⟩ := DataW.trod_string Tryd.underlying9 g2
  simp only [cwStr, wdC, List.drop_succ_cons, List.drop_zero, List.take_succ_cons, List.take_zero] at e2
  injection e2 with e2
  injection e2 with e2
  have hm : y2.1 ∈ xs.map (·.1) := List.mem_map_of_mem (List.mem_of_getElem? hx2)
  have := bulk_part hm
  subst e2
  rw [e3] at this
  simp only [Rows.uptoBulk] at this ⊢
  have e : (⟨v.text.toArray⟩ : ByteArray).data.toList.length = v.text.length := rfl
  omega
set_option maxRecDepth 100000 in
theorem words_openU {W : World} {V : Value} {d : DataW H} {p : List MemPlace} (hval : Value.okWide Tryd.prog W .any base 36 V) (h : DataW.Trod enc Tryd.prog W 0 (fun _ => true) true 36 V d p) :
    ∃ l : List (Int × Wd), SliceW W V l ∧ (∀ q ∈ l, q.2.set < 2 ^ 256) ∧ l.length ≤ maxLen ∧ (∀ q ∈ l, q.2.text.length ≤ Rows.uptoBulk d) := by
  obtain ⟨a, n, c, rfl⟩ := okWide_slice Tryd.underlying36 hval
  have hh : ∀ b, a = some b → n ≤ c ∧ W.has Tryd.prog .any base b 51 c := by
    rintro b rfl
    simp only [Value.okWide, Tryd.underlying36, Cell.okWide, Cell.ok] at hval
    exact ⟨hval.1, hval.2.2⟩
  obtain ⟨fuel, hf⟩ := h
  rcases Go.Deep.open_slice Tryd.underlying36 hf with ⟨hcs, _⟩ | ⟨b, len, cap, m, k, D, Pl, hcs, _, hlen, hcap, hm, hxd, hx⟩
  · simp [Value.cells] at hcs
    obtain ⟨rfl, rfl, rfl⟩ := hcs
    exact ⟨[], .nil, by simp, Nat.zero_le _, by simp⟩
  · simp [Value.cells] at hcs
    obtain ⟨rfl, rfl, rfl⟩ := hcs
    obtain ⟨hnc, _, hs, row, cells, hsh, _⟩ := hh b rfl
    obtain ⟨g, o, sp⟩ := b
    simp only at hs
    subst hs
    have hg : g < W.heap.size := by
      rcases Nat.lt_or_ge g W.heap.size with hg | hg
      · exact hg
      · have hn : W.heap[g]? = none := Array.getElem?_eq_none hg
        simp [World.shape?, hn] at hsh
    have each : ∀ i, i < n → ∃ q : Int × Wd, q.2.set < 2 ^ 256 ∧ W8 W g (o + i * 8) q.1 q.2 ∧ q.2.text.length ≤ Rows.uptoBulk (D i) := by
      intro i hi
      obtain ⟨cs', h1, h2⟩ := hx i (by rw [hm]; simp; omega)
      obtain ⟨_, _, hcell⟩ := World.cells?_some h1
      obtain ⟨p, v, hv, rfl⟩ := word_open h2
      have hbk := word_bulk h2
      rw [cwWord] at hcell
      have get : ∀ j, j < 8 → W.cell? ⟨g, o + i * 8 + j, none⟩ = (wdC p v).toList[j]? := by
        intro j hj
        have := hcell j hj
        rw [Addr.add_lit, Addr.add_lit] at this
        exact this
      exact ⟨(p, v), hv, ⟨get 0 (by decide), get 1 (by decide), get 2 (by decide), get 3 (by decide), get 4 (by decide), get 5 (by decide), get 6 (by decide), get 7 (by decide)⟩, hbk⟩
    haveI : Inhabited (Int × Wd) := ⟨(0, ⟨0, [], 0, 0⟩)⟩
    obtain ⟨Q, hQ⟩ := Go.Deep.choose_lt each
    have hl : ((List.range n).map Q).length = n := by simp
    refine ⟨(List.range n).map Q, ?_, ?_, ?_, ?_⟩
    · have := SliceW.row (w := W) (g := g) (o := o) (cap := c) (l := (List.range n).map Q) ⟨hg, ?_⟩ (by rw [hl]; exact hnc)
      · rw [hl] at this; exact this
      · intro i p v hi
        rw [List.getElem?_map] at hi
        obtain ⟨j, h1, h2⟩ := Option.map_eq_some_iff.1 hi
        obtain ⟨hj, hj2⟩ := List.getElem?_eq_some_iff.1 h1
        simp at hj hj2
        subst hj2
        have := (hQ i hj).2.1
        rw [h2] at this
        exact this
    · intro q hq
      obtain ⟨j, hj, rfl⟩ := List.mem_map.1 hq
      exact (hQ j (by simpa using hj)).1
    · rw [hl]; omega
    · intro q hq
      obtain ⟨j, hj, rfl⟩ := List.mem_map.1 hq
      have hjn : j < n := by simpa using hj
      refine Nat.le_trans (hQ j hjn).2.2 ?_
      have hd : d = .slice ((List.range n).map D) ((List.range (m - n)).map fun j => D (n + j)) := (Prod.ext_iff.1 hxd).1
      rw [hd]
      have := bulk_part (List.mem_map_of_mem (f := D) (show j ∈ List.range n by simpa using hjn))
      simp only [Rows.uptoBulk]
      omega
end
end Go.Proofs.YtmkidbenndhhjaaDoor.Dx
