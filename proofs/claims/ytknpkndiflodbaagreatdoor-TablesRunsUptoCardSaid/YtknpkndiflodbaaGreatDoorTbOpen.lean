/-
  A parameter that is a grammar, opened, with its bulk.
-/
import Derived.Test.YtknpkndiflodbaaGreatDoorTbCheckA
import Derived.Test.YtknpkndiflodbaaGreatDoorRows
import Derived.Deep.Slices
import Derived.OpenShut
set_option linter.unusedVariables false
set_option linter.unusedSimpArgs false
namespace Go.Proofs.YtknpkndiflodbaaGreatDoor.Tb
open Go Go.RowKit Go.Proofs Mx
open Go.ChangeShapes Go.WideShapes Go.ChangeAt Go.WideMaps Go.WideElems
theorem bulk_part {H : Type} {d : DataW H} {l : List (DataW H)} (h : d ∈ l) : Rows.uptoBulk d ≤ Rows.uptoBulkAll l := by
  induction l with
  | nil => cases h
  | cons x r ih =>
    simp only [Rows.uptoBulkAll]
    cases List.mem_cons.1 h with
    | inl e => subst e; omega
    | inr e => have := ih e; omega
theorem bulk_pos {H : Type} (d : DataW H) : 1 ≤ Rows.uptoBulk d := by
  cases d with
  | lit l => cases l <;> simp [Rows.uptoBulk]
  | _ => simp [Rows.uptoBulk]
theorem bulk_len {H : Type} : ∀ l : List (DataW H), l.length ≤ Rows.uptoBulkAll l
  | [] => by simp
  | x :: r => by
    have := bulk_len r
    have := bulk_pos x
    simp only [Rows.uptoBulkAll, List.length_cons]; omega
theorem spot_none {w : World} {a : Addr} {v : Value} (h : w.cell? a = some v) : a.spot = none := by
  unfold World.cell? at h
  split at h
  · cases hs : a.spot with
    | none => rfl
    | some s => rw [hs] at h; simp at h
  · cases h
section
variable {H : Type} {enc : TypeId × Value → H} {w : World} {base : Nat} {sp : Nat → Bool} {held : Bool}
theorem slice_openK {α : Type} [Inhabited α] {en : α → List Value} {k : Nat} (hk0 : 0 < k) (hk : ∀ x, (en x).length = k) {t E : TypeId} (ht : Tryz.prog.underlying t = some (.slice E)) (hE : Tryz.prog.cellsOf E = k) (P : α → DataW H → Prop)
    (elem : ∀ {fuel : Nat} {cs : List Value} {x : DataW H × List MemPlace}, DataW.trod enc Tryz.prog w base sp held fuel E cs = some x → ∃ a, cs = en a ∧ P a x.1)
    {fuel : Nat} {cs : List Value} {x : DataW H × List MemPlace} (h : DataW.trod enc Tryz.prog w base sp held fuel t cs = some x) :
    ∃ (v : Value) (l : List α), cs = [v] ∧ SliceK (fun _ => True) en k w v l ∧ l.length ≤ Rows.uptoBulk x.1 ∧ ∀ a ∈ l, ∃ d, P a d ∧ Rows.uptoBulk d ≤ Rows.uptoBulk x.1 := by
  rcases Go.Deep.open_slice ht h with ⟨rfl, rfl⟩ | ⟨a, len, cap, m, n, D, Pl, rfl, _, hl, hm, hmm, rfl, hx⟩
  · exact ⟨_, [], rfl, SliceK.nil, by simp, fun a ha => by cases ha⟩
  · have hlm : len ≤ m := by rw [hmm]; split <;> omega
    have each : ∀ i, i < len → ∃ q : α, P q (D i) ∧ ∀ j u, (en q)[j]? = some u → w.cell? ((a.add (i * k)).add j) = some u := by
      intro i hi
      obtain ⟨cs', h1, h2⟩ := hx i (by omega)
      rw [hE] at h1
      obtain ⟨_, hlen, hcell⟩ := World.cells?_some h1
      obtain ⟨q, rfl, hq⟩ := elem h2
      refine ⟨q, hq, fun j u hu => ?_⟩
      rw [hcell j (by rw [← hk q]; exact (List.getElem?_eq_some_iff.1 hu).1), hu]
    obtain ⟨Q, hQ⟩ := Go.Deep.choose_lt each
    have hll : ((List.range len).map Q).length = len := by simp
    have hbD : ∀ i, i < len → Rows.uptoBulk (D i) ≤ Rows.uptoBulk (DataW.slice ((List.range len).map D) ((List.range (m - len)).map fun j => D (len + j))) := by
      intro i hi
      have := bulk_part (List.mem_map_of_mem (f := D) (show i ∈ List.range len by simpa using hi))
      simp only [Rows.uptoBulk]
      omega
    refine ⟨_, (List.range len).map Q, rfl, ⟨some a, cap, by rw [hll], by rw [hll]; exact hl, hm, fun hne => ?_⟩, ?_, ?_⟩
    · have hpos : 0 < len := by
        rcases Nat.eq_zero_or_pos len with h0 | h0
        · subst h0; exact absurd rfl hne
        · exact h0
      have h0 := (hQ 0 hpos).2 0 ((en (Q 0))[0]'(by rw [hk]; exact hk0)) (List.getElem?_eq_getElem _)
      have e0 : (a.add (0 * k)).add 0 = a := by rw [Nat.zero_mul]; simp [Addr.add]
      rw [e0] at h0
      have hs := spot_none h0
      obtain ⟨g, o, s⟩ := a
      simp only at hs
      subst hs
      refine ⟨g, o, rfl, trivial, World.block_lt_of_cell? _ _ h0, fun i y hy j u hu => ?_⟩
      obtain ⟨hi, hi2⟩ := List.getElem?_eq_some_iff.1 hy
      simp at hi hi2
      subst hi2
      have := (hQ i hi).2 j u hu
      rw [addr_add, addr_add] at this
      exact this
    · rw [hll]
      have := bulk_len ((List.range len).map D)
      simp only [Rows.uptoBulk]
      simp at this
      omega
    · intro q hq
      obtain ⟨j, hj, rfl⟩ := List.mem_map.1 hq
      have hjl : j < len := by simpa using hj
      exact ⟨D j, (hQ j hjl).1, hbD j hjl⟩
theorem cwSym : Tryz.prog.cellsOf 28 = 6 := by kernel_rfl
theorem cwKind : Tryz.prog.cellsOf 23 = 1 := by kernel_rfl
theorem cwInt : Tryz.prog.cellsOf 3 = 1 := by kernel_rfl
theorem cwStr : Tryz.prog.cellsOf 9 = 1 := by kernel_rfl
theorem cwSet : Tryz.prog.cellsOf 26 = 4 := by kernel_rfl
theorem cwU64 : Tryz.prog.cellsOf 24 = 1 := by kernel_rfl
theorem cwProd : Tryz.prog.cellsOf 34 = 7 := by kernel_rfl
theorem cwRole : Tryz.prog.cellsOf 32 = 1 := by kernel_rfl
theorem cwBool : Tryz.prog.cellsOf 4 = 1 := by kernel_rfl
theorem cwSyms : Tryz.prog.cellsOf 31 = 1 := by kernel_rfl
theorem cwStrs : Tryz.prog.cellsOf 29 = 1 := by kernel_rfl
theorem cwProds : Tryz.prog.cellsOf 35 = 1 := by kernel_rfl
theorem cwForbid : Tryz.prog.cellsOf 147 = 3 := by kernel_rfl
theorem cwFollow : Tryz.prog.cellsOf 150 = 5 := by kernel_rfl
theorem cwForbids : Tryz.prog.cellsOf 36 = 1 := by kernel_rfl
theorem cwFollows : Tryz.prog.cellsOf 37 = 1 := by kernel_rfl
theorem cwGram : Tryz.prog.cellsOf 39 = 5 := by kernel_rfl
theorem wd_of (s0 s1 s2 s3 : Int) (h0 : 0 ≤ s0 ∧ s0 < 18446744073709551616) (h1 : 0 ≤ s1 ∧ s1 < 18446744073709551616) (h2 : 0 ≤ s2 ∧ s2 < 18446744073709551616) (h3 : 0 ≤ s3 ∧ s3 < 18446744073709551616) :
    ∃ M : Nat, M < 2 ^ 256 ∧ wd M 0 = s0 ∧ wd M 1 = s1 ∧ wd M 2 = s2 ∧ wd M 3 = s3 := by
  obtain ⟨a0, rfl⟩ := Int.eq_ofNat_of_zero_le h0.1
  obtain ⟨a1, rfl⟩ := Int.eq_ofNat_of_zero_le h1.1
  obtain ⟨a2, rfl⟩ := Int.eq_ofNat_of_zero_le h2.1
  obtain ⟨a3, rfl⟩ := Int.eq_ofNat_of_zero_le h3.1
  refine ⟨a0 + 18446744073709551616 * (a1 + 18446744073709551616 * (a2 + 18446744073709551616 * a3)), ?_, ?_, ?_, ?_, ?_⟩
  · have : (2 : Nat) ^ 256 = 18446744073709551616 * (18446744073709551616 * (18446744073709551616 * 18446744073709551616)) := by decide
    omega
  · unfold wd
    rw [show (2 : Nat) ^ (64 * 0) = 1 by decide]
    omega
  · unfold wd
    rw [show (2 : Nat) ^ (64 * 1) = 18446744073709551616 by decide]
    omega
  · unfold wd
    rw [show (2 : Nat) ^ (64 * 2) = 18446744073709551616 * 18446744073709551616 by decide, ← Nat.div_div_eq_div_mul]
    omega
  · unfold wd
    rw [show (2 : Nat) ^ (64 * 3) = 18446744073709551616 * (18446744073709551616 * 18446744073709551616) by decide, ← Nat.div_div_eq_div_mul, ← Nat.div_div_eq_div_mul]
    omega
theorem u64_wf {s : Int} (h : (Lit.int IntKind.u64 s).wf = true) : 0 ≤ s ∧ s < 18446744073709551616 := by
  simp [Lit.wf] at h
  have h1 : IntKind.u64.min = 0 := rfl
  have h2 : IntKind.u64.max = 18446744073709551615 := rfl
  omega
def I64 (s : Int) : Prop := -9223372036854775808 ≤ s ∧ s ≤ 9223372036854775807
theorem i64_wf {s : Int} (h : (Lit.int IntKind.i64 s).wf = true) : I64 s := by
  simp [Lit.wf] at h
  have h1 : IntKind.i64.min = -9223372036854775808 := rfl
  have h2 : IntKind.i64.max = 9223372036854775807 := rfl
  unfold I64
  omega
set_option maxRecDepth 100000 in
theorem set_open {fuel : Nat} {c0 c1 c2 c3 : Value} {x : DataW H × List MemPlace} (h : DataW.trod enc Tryz.prog w base sp held fuel 26 [c0, c1, c2, c3] = some x) : ∃ M : Nat, M < 2 ^ 256 ∧ [c0, c1, c2, c3] = encSet M := by
  obtain ⟨ys, m, _, _, _, hyl, hy⟩ := DataW.trod_array Tryz.underlying26 h
  have a0 := hy 0 (by decide)
  have a1 := hy 1 (by decide)
  have a2 := hy 2 (by decide)
  have a3 := hy 3 (by decide)
  simp only [cwU64, Nat.zero_mul, Nat.one_mul, Nat.mul_one, List.drop_succ_cons, List.drop_zero, List.take_succ_cons, List.take_zero] at a0 a1 a2 a3
  rw [List.getElem?_eq_getElem (by rw [hyl]; decide)] at a0 a1 a2 a3
  obtain ⟨s0, f0, _, w0⟩ := DataW.trod_int Tryz.underlying24 a0
  obtain ⟨s1, f1, _, w1⟩ := DataW.trod_int Tryz.underlying24 a1
  obtain ⟨s2, f2, _, w2⟩ := DataW.trod_int Tryz.underlying24 a2
  obtain ⟨s3, f3, _, w3⟩ := DataW.trod_int Tryz.underlying24 a3
  obtain ⟨M, hM, m0, m1, m2, m3⟩ := wd_of s0 s1 s2 s3 (u64_wf w0) (u64_wf w1) (u64_wf w2) (u64_wf w3)
  refine ⟨M, hM, ?_⟩
  injection f0 with f0
  injection f1 with f1
  injection f2 with f2
  injection f3 with f3
  subst f0; subst f1; subst f2; subst f3
  rw [← m0, ← m1, ← m2, ← m3]
  rfl
def SymOk (s : Sy) : Prop := s.set < 2 ^ 256 ∧ I64 s.kind ∧ I64 s.sort
set_option maxRecDepth 100000 in
theorem sym_open {fuel : Nat} {cs : List Value} {x : DataW H × List MemPlace} (h : DataW.trod enc Tryz.prog w base sp held fuel 28 cs = some x) : ∃ s : Sy, cs = encSy s ∧ SymOk s := by
  obtain ⟨xs, k, _, _, hl, hxl, hf⟩ := DataW.trod_struct Tryz.underlying28 h
  rw [cwSym] at hl
  obtain ⟨c0, c1, c2, c3, c4, c5, rfl⟩ : ∃ c0 c1 c2 c3 c4 c5, cs = [c0, c1, c2, c3, c4, c5] := by
    match cs, hl with
    | [c0, c1, c2, c3, c4, c5], _ => exact ⟨_, _, _, _, _, _, rfl⟩
  have g0 := hf 0 _ rfl
  have g1 := hf 1 _ rfl
  have g2 := hf 2 _ rfl
  clear hf h
  simp only [List.getElem_toArray, List.getElem_cons_succ, List.getElem_cons_zero, cwKind, cwInt, cwSet, List.drop_succ_cons, List.drop_zero, List.take_succ_cons, List.take_zero] at g0 g1 g2
  rw [List.getElem?_eq_getElem (by rw [hxl]; decide)] at g0 g1 g2
  obtain ⟨k0, e0, _, w0⟩ := DataW.trod_int Tryz.underlying23 g0
  obtain ⟨k2, e2, _, w2⟩ := DataW.trod_int Tryz.underlying3 g2
  obtain ⟨M, hM, e1⟩ := set_open g1
  injection e0 with e0
  injection e2 with e2
  simp only [encSet, List.cons.injEq, and_true] at e1
  obtain ⟨rfl, rfl, rfl, rfl⟩ := e1
  subst e0; subst e2
  exact ⟨⟨k0, M, k2⟩, rfl, hM, i64_wf w0, i64_wf w2⟩
structure ProdOk (w : World) (B : Nat) (x : Value × Pr) : Prop where
  right : SliceK (fun _ => True) encSy 6 w x.1 x.2.right
  len : x.2.right.length ≤ B
  cons : x.2.cons.length ≤ B
  sym : ∀ s ∈ x.2.right, SymOk s
  left : I64 x.2.left
  role : I64 x.2.role
  made : I64 x.2.made
theorem str_of (s : ByteArray) : (⟨s.data.toList.toArray⟩ : ByteArray) = s := rfl
set_option maxRecDepth 100000 in
theorem prod_open {fuel : Nat} {cs : List Value} {x : DataW H × List MemPlace} (h : DataW.trod enc Tryz.prog w base sp held fuel 34 cs = some x) : ∃ a : Value × Pr, cs = encPr a ∧ ProdOk w (Rows.uptoBulk x.1) a := by
  haveI : Inhabited Sy := ⟨⟨0, 0, 0⟩⟩
  obtain ⟨xs, k, _, rfl, hl, hxl, hf⟩ := DataW.trod_struct Tryz.underlying34 h
  rw [cwProd] at hl
  obtain ⟨c0, c1, c2, c3, c4, c5, c6, rfl⟩ : ∃ c0 c1 c2 c3 c4 c5 c6, cs = [c0, c1, c2, c3, c4, c5, c6] := by
    match cs, hl with
    | [c0, c1, c2, c3, c4, c5, c6], _ => exact ⟨_, _, _, _, _, _, _, rfl⟩
  have g0 := hf 0 _ rfl
  have g1 := hf 1 _ rfl
  have g2 := hf 2 _ rfl
  have g3 := hf 3 _ rfl
  have g4 := hf 4 _ rfl
  have g5 := hf 5 _ rfl
  have g6 := hf 6 _ rfl
  clear hf h
  simp only [List.getElem_toArray, List.getElem_cons_succ, List.getElem_cons_zero, cwRole, cwBool, cwStr, cwSyms, cwInt, cwSet, List.drop_succ_cons, List.drop_zero, List.take_succ_cons, List.take_zero] at g0 g1 g2 g3 g4 g5 g6
  have hm : ∀ i (hi : i < xs.length), Rows.uptoBulk xs[i].1 ≤ Rows.uptoBulkAll (xs.map (·.1)) := fun i hi => bulk_part (List.mem_map_of_mem (List.getElem_mem hi))
  have hx7 : xs.length = 7 := hxl
  rw [List.getElem?_eq_getElem (by rw [hx7]; decide)] at g0 g1 g2 g3 g4 g5 g6
  obtain ⟨k0, e0, _, w0⟩ := DataW.trod_int Tryz.underlying3 g0
  obtain ⟨v1, l1, e1, s1, b1, p1⟩ := slice_openK (k := 6) (by decide) encSy_len Tryz.underlying31 cwSym (fun s _ => SymOk s) (fun h => sym_open h) g1
  obtain ⟨k2, e2, x2, _⟩ := DataW.trod_string Tryz.underlying9 g2
  obtain ⟨k3, e3, _, w3⟩ := DataW.trod_int Tryz.underlying32 g3
  obtain ⟨k4, e4, _⟩ := DataW.trod_bool Tryz.underlying4 g4
  obtain ⟨k5, e5, _⟩ := DataW.trod_bool Tryz.underlying4 g5
  obtain ⟨k6, e6, _, w6⟩ := DataW.trod_int Tryz.underlying3 g6
  have b2 := hm 2 (by rw [hx7]; decide)
  rw [x2] at b2
  have b1' := hm 1 (by rw [hx7]; decide)
  simp only [List.cons.injEq, and_true] at e0 e1 e2 e3 e4 e5 e6
  subst e0 e1 e2 e3 e4 e5 e6
  simp only [Rows.uptoBulk] at b2
  refine ⟨(c1, ⟨k0, l1, k2.data.toList, k3, k4, k5, k6⟩), rfl, s1, ?_, ?_, fun s hs => ?_, i64_wf w0, i64_wf w3, i64_wf w6⟩
  · simp only [Rows.uptoBulk]
    exact Nat.le_trans b1 (Nat.le_trans b1' (Nat.le_succ _))
  · simp only [Rows.uptoBulk]
    omega
  · obtain ⟨d, hd, _⟩ := p1 s hs
    exact hd
def encFb (f : Int × Int × Int) : List Value := [.int .i64 f.1, .int .i64 f.2.1, .int .i64 f.2.2]
theorem encFb_len (f : Int × Int × Int) : (encFb f).length = 3 := rfl
def encFo (f : Int × Nat) : List Value := .int .i64 f.1 :: encSet f.2
theorem encFo_len (f : Int × Nat) : (encFo f).length = 5 := rfl
def FbOk (f : Int × Int × Int) : Prop := I64 f.1 ∧ I64 f.2.1 ∧ I64 f.2.2
def FoOk (f : Int × Nat) : Prop := I64 f.1 ∧ f.2 < 2 ^ 256
set_option maxRecDepth 100000 in
theorem fb_open {fuel : Nat} {cs : List Value} {x : DataW H × List MemPlace} (h : DataW.trod enc Tryz.prog w base sp held fuel 147 cs = some x) : ∃ s, cs = encFb s ∧ FbOk s := by
  obtain ⟨xs, k, _, _, hl, hxl, hf⟩ := DataW.trod_struct Tryz.underlying147 h
  rw [cwForbid] at hl
  obtain ⟨c0, c1, c2, rfl⟩ : ∃ c0 c1 c2, cs = [c0, c1, c2] := by
    match cs, hl with
    | [c0, c1, c2], _ => exact ⟨_, _, _, rfl⟩
  have g0 := hf 0 _ rfl
  have g1 := hf 1 _ rfl
  have g2 := hf 2 _ rfl
  clear hf h
  simp only [List.getElem_toArray, List.getElem_cons_succ, List.getElem_cons_zero, cwInt, List.drop_succ_cons, List.drop_zero, List.take_succ_cons, List.take_zero] at g0 g1 g2
  rw [List.getElem?_eq_getElem (by rw [hxl]; decide)] at g0 g1 g2
  obtain ⟨k0, e0, _, w0⟩ := DataW.trod_int Tryz.underlying3 g0
  obtain ⟨k1, e1, _, w1⟩ := DataW.trod_int Tryz.underlying3 g1
  obtain ⟨k2, e2, _, w2⟩ := DataW.trod_int Tryz.underlying3 g2
  simp only [List.cons.injEq, and_true] at e0 e1 e2
  subst e0 e1 e2
  exact ⟨(k0, k1, k2), rfl, i64_wf w0, i64_wf w1, i64_wf w2⟩
set_option maxRecDepth 100000 in
theorem fo_open {fuel : Nat} {cs : List Value} {x : DataW H × List MemPlace} (h : DataW.trod enc Tryz.prog w base sp held fuel 150 cs = some x) : ∃ s, cs = encFo s ∧ FoOk s := by
  obtain ⟨xs, k, _, _, hl, hxl, hf⟩ := DataW.trod_struct Tryz.underlying150 h
  rw [cwFollow] at hl
  obtain ⟨c0, c1, c2, c3, c4, rfl⟩ : ∃ c0 c1 c2 c3 c4, cs = [c0, c1, c2, c3, c4] := by
    match cs, hl with
    | [c0, c1, c2, c3, c4], _ => exact ⟨_, _, _, _, _, rfl⟩
  have g0 := hf 0 _ rfl
  have g1 := hf 1 _ rfl
  clear hf h
  simp only [List.getElem_toArray, List.getElem_cons_succ, List.getElem_cons_zero, cwInt, cwSet, List.drop_succ_cons, List.drop_zero, List.take_succ_cons, List.take_zero] at g0 g1
  rw [List.getElem?_eq_getElem (by rw [hxl]; decide)] at g0 g1
  obtain ⟨k0, e0, _, w0⟩ := DataW.trod_int Tryz.underlying3 g0
  obtain ⟨M, hM, e1⟩ := set_open g1
  simp only [List.cons.injEq, and_true] at e0
  subst e0
  exact ⟨(k0, M), by rw [e1]; rfl, i64_wf w0, hM⟩
theorem str_open {fuel : Nat} {cs : List Value} {x : DataW H × List MemPlace} (h : DataW.trod enc Tryz.prog w base sp held fuel 9 cs = some x) : ∃ s : List UInt8, cs = encS s ∧ s.length ≤ Rows.uptoBulk x.1 := by
  obtain ⟨k2, e2, x2, _⟩ := DataW.trod_string Tryz.underlying9 h
  subst e2 x2
  exact ⟨k2.data.toList, rfl, by simp only [Rows.uptoBulk]; omega⟩
/-- A grammar in memory; N: no part of it is longer. -/
structure GramAt (w : World) (N : Nat) (g : Gr) (sv pv fv lv : Value) : Prop where
  sorts : SliceK (fun _ => True) encS 1 w sv g.sorts
  prods : ∃ l, SliceK (fun _ => True) encPr 7 w pv l ∧ (∀ x ∈ l, ProdOk w N x) ∧ l.map (·.2) = g.prods
  forbid : SliceK (fun _ => True) encFb 3 w fv g.forbid
  follow : SliceK (fun _ => True) encFo 5 w lv g.follow
  nsorts : g.sorts.length ≤ N
  str : ∀ s ∈ g.sorts, s.length ≤ N
  nprods : g.prods.length ≤ N
  nforbid : g.forbid.length ≤ N
  nfollow : g.follow.length ≤ N
  fb : ∀ f ∈ g.forbid, FbOk f
  fo : ∀ f ∈ g.follow, FoOk f
  start : I64 g.start
set_option maxRecDepth 100000 in
theorem gram_open {fuel : Nat} {cs : List Value} {x : DataW H × List MemPlace} (h : DataW.trod enc Tryz.prog w base sp held fuel 39 cs = some x) : ∃ g sv pv fv lv, cs = [sv, pv, .int .i64 g.start, fv, lv] ∧ GramAt w (Rows.uptoBulk x.1) g sv pv fv lv := by
  haveI : Inhabited Pr := ⟨⟨0, [], [], 0, false, false, 0⟩⟩
  obtain ⟨xs, k, _, rfl, hl, hxl, hf⟩ := DataW.trod_struct Tryz.underlying39 h
  rw [cwGram] at hl
  obtain ⟨c0, c1, c2, c3, c4, rfl⟩ : ∃ c0 c1 c2 c3 c4, cs = [c0, c1, c2, c3, c4] := by
    match cs, hl with
    | [c0, c1, c2, c3, c4], _ => exact ⟨_, _, _, _, _, rfl⟩
  have g0 := hf 0 _ rfl
  have g1 := hf 1 _ rfl
  have g2 := hf 2 _ rfl
  have g3 := hf 3 _ rfl
  have g4 := hf 4 _ rfl
  clear hf h
  simp only [List.getElem_toArray, List.getElem_cons_succ, List.getElem_cons_zero, cwStrs, cwProds, cwForbids, cwFollows, cwInt, List.drop_succ_cons, List.drop_zero, List.take_succ_cons, List.take_zero] at g0 g1 g2 g3 g4
  have hm : ∀ i (hi : i < xs.length), Rows.uptoBulk xs[i].1 ≤ Rows.uptoBulkAll (xs.map (·.1)) := fun i hi => bulk_part (List.mem_map_of_mem (List.getElem_mem hi))
  have hx5 : xs.length = 5 := hxl
  rw [List.getElem?_eq_getElem (by rw [hx5]; decide)] at g0 g1 g2 g3 g4
  obtain ⟨v0, l0, e0, s0, b0, p0⟩ := slice_openK (k := 1) (by decide) encS_len Tryz.underlying29 cwStr (fun s d => s.length ≤ Rows.uptoBulk d) (fun h => str_open h) g0
  obtain ⟨v1, l1, e1, s1, b1, p1⟩ := slice_openK (k := 7) (by decide) encPr_len Tryz.underlying35 cwProd (fun s d => ProdOk w (Rows.uptoBulk d) s) (fun h => prod_open h) g1
  obtain ⟨k2, e2, _, w2⟩ := DataW.trod_int Tryz.underlying3 g2
  obtain ⟨v3, l3, e3, s3, b3, p3⟩ := slice_openK (k := 3) (by decide) encFb_len Tryz.underlying36 cwForbid (fun s _ => FbOk s) (fun h => fb_open h) g3
  obtain ⟨v4, l4, e4, s4, b4, p4⟩ := slice_openK (k := 5) (by decide) encFo_len Tryz.underlying37 cwFollow (fun s _ => FoOk s) (fun h => fo_open h) g4
  have q0 := hm 0 (by rw [hx5]; decide)
  have q1 := hm 1 (by rw [hx5]; decide)
  have q3 := hm 3 (by rw [hx5]; decide)
  have q4 := hm 4 (by rw [hx5]; decide)
  simp only [List.cons.injEq, and_true] at e0 e1 e2 e3 e4
  subst e0 e1 e2 e3 e4
  simp only [Rows.uptoBulk]
  refine ⟨⟨l0, l1.map (·.2), k2, l3, l4⟩, c0, c1, c3, c4, rfl, s0, ⟨l1, s1, fun x hx => ?_, rfl⟩, s3, s4, by show l0.length ≤ _; omega, fun s hs => ?_, by show (l1.map (·.2)).length ≤ _; rw [List.length_map]; omega, by show l3.length ≤ _; omega, by show l4.length ≤ _; omega, fun f hf => ?_, fun f hf => ?_, i64_wf w2⟩
  · obtain ⟨d, hd, hd2⟩ := p1 x hx
    exact ⟨hd.right, by have := hd.len; omega, by have := hd.cons; omega, hd.sym, hd.left, hd.role, hd.made⟩
  · obtain ⟨d, hd, hd2⟩ := p0 s hs
    omega
  · obtain ⟨d, hd, _⟩ := p3 f hf
    exact hd
  · obtain ⟨d, hd, _⟩ := p4 f hf
    exact hd
end
end Go.Proofs.YtknpkndiflodbaaGreatDoor.Tb
