/-
  TREES: as plain data, in memory; a parameter that is a tree, opened.
  WALKS of the law TablesRuns: size; fits.
  WALKS of the law TablesRuns: fits.
  WALKS of the law TablesRuns: deep.
-/
import Derived.Test.YtknpkndiflodbaaGreatDoorTbOpen
import Derived.Test.YtknpkndiflodbaaGreatDoorTbRefA
import Derived.Test.YtknpkndiflodbaaGreatDoorTbVast
set_option linter.unusedVariables false
set_option linter.unusedSimpArgs false
namespace Go.Proofs.YtknpkndiflodbaaGreatDoor.Tb
open Go Go.RowKit Go.Proofs Mx
/-- A tree: its production, its byte, where its kids lie, they. -/
inductive Tr where
  | node (prod : Int) (byte : Nat) (kv : Value) (kids : List Tr)
instance : Inhabited Tr := ⟨.node 0 0 (.slice none 0 0) []⟩
def Tr.prod : Tr → Int | .node p _ _ _ => p
def Tr.byte : Tr → Nat | .node _ b _ _ => b
def Tr.kv : Tr → Value | .node _ _ v _ => v
def Tr.kids : Tr → List Tr | .node _ _ _ k => k
def encT (t : Tr) : List Value := [.int .i64 t.prod, .int .u8 (t.byte : Int), t.kv]
theorem encT_len (t : Tr) : (encT t).length = 3 := rfl
def trV (t : Tr) : Value := .agg #[.int .i64 t.prod, .int .u8 (t.byte : Int), t.kv]
mutual
/-- How many trees a tree is. -/
def nodes : Tr → Nat
  | .node _ _ _ ks => 1 + nodesL ks
def nodesL : List Tr → Nat
  | [] => 0
  | t :: l => nodes t + nodesL l
end
theorem nodes_pos (t : Tr) : 1 ≤ nodes t := by cases t; unfold nodes; omega
theorem nodes_kids (t : Tr) : nodes t = 1 + nodesL t.kids := by cases t; rfl
theorem nodesL_mem : ∀ {l : List Tr} {t : Tr}, t ∈ l → nodes t ≤ nodesL l
  | x :: l, t, h => by
    unfold nodesL
    rcases List.mem_cons.1 h with rfl | h
    · omega
    · have := nodesL_mem h; omega
theorem nodesL_append : ∀ (l m : List Tr), nodesL (l ++ m) = nodesL l + nodesL m
  | [], m => by simp [nodesL]
  | x :: l, m => by simp [nodesL, nodesL_append l m]; omega
theorem nodesL_take {l : List Tr} {i : Nat} {t : Tr} (h : l[i]? = some t) : nodesL (l.take (i + 1)) = nodesL (l.take i) + nodes t := by
  rw [List.take_add_one, h, nodesL_append]
  simp [nodesL]
theorem nodesL_take_le : ∀ (l : List Tr) (i : Nat), nodesL (l.take i) ≤ nodesL l
  | [], i => by simp
  | x :: l, 0 => by simp [nodesL]
  | x :: l, i + 1 => by have := nodesL_take_le l i; simp [nodesL]; omega
theorem len_nodesL : ∀ (l : List Tr), l.length ≤ nodesL l
  | [] => by simp
  | x :: l => by have := len_nodesL l; have := nodes_pos x; simp [nodesL]; omega
mutual
/-- Is a tree one of a symbol? -/
def fitsF (g : Gr) : Tr → Sy → Bool
  | .node p b _ ks, s =>
    if s.kind = 0 then decide (p = -1) && (ks.isEmpty && s.set.testBit b)
    else decide (0 ≤ p) && (decide (b = 0) && match g.prods[p.toNat]? with | none => false | some q => decide (q.left = s.sort) && (!decide (q.role = 11) && fitsL g ks q.right))
def fitsL (g : Gr) : List Tr → List Sy → Bool
  | [], [] => true
  | t :: l, s :: r => fitsF g t s && fitsL g l r
  | [], _ :: _ => false
  | _ :: _, [] => false
end
theorem fitsF_set {g : Gr} {p : Int} {b : Nat} {v : Value} {ks : List Tr} {s : Sy} (h : s.kind = 0) : fitsF g (.node p b v ks) s = (decide (p = -1) && (ks.isEmpty && s.set.testBit b)) := by
  unfold fitsF; rw [if_pos h]
theorem fitsF_sort {g : Gr} {p : Int} {b : Nat} {v : Value} {ks : List Tr} {s : Sy} (h : s.kind ≠ 0) : fitsF g (.node p b v ks) s = (decide (0 ≤ p) && (decide (b = 0) && match g.prods[p.toNat]? with | none => false | some q => decide (q.left = s.sort) && (!decide (q.role = 11) && fitsL g ks q.right))) := by
  unfold fitsF; rw [if_neg h]
theorem fitsL_iff (g : Gr) : ∀ (l : List Tr) (r : List Sy), fitsL g l r = true ↔ l.length = r.length ∧ ∀ (i : Nat) (t : Tr) (s : Sy), l[i]? = some t → r[i]? = some s → fitsF g t s = true
  | [], [] => by simp [fitsL]
  | t :: l, s :: r => by
    unfold fitsL
    rw [Bool.and_eq_true, fitsL_iff g l r]
    constructor
    · rintro ⟨h1, h2, h3⟩
      refine ⟨by simp [h2], fun i a b ha hb => ?_⟩
      cases i with
      | zero => simp at ha hb; subst ha; subst hb; exact h1
      | succ i => simp at ha hb; exact h3 i a b ha hb
    · rintro ⟨h1, h2⟩
      exact ⟨h2 0 t s rfl rfl, by simpa using h1, fun i a b ha hb => h2 (i + 1) a b (by simpa using ha) (by simpa using hb)⟩
  | [], _ :: _ => by simp [fitsL]
  | _ :: _, [] => by simp [fitsL]
/-- A tree in memory. -/
inductive TrOk (w : World) : Tr → Prop where
  | mk (t : Tr) : t.byte < 256 → I64 t.prod → SliceK (fun _ => True) encT 3 w t.kv t.kids → (∀ k ∈ t.kids, TrOk w k) → TrOk w t
theorem TrOk.lower {w w' : World} (hb : Below w.heap.size w w') {t : Tr} (h : TrOk w t) : TrOk w' t := by
  induction h with
  | mk t h1 h2 h3 _ ih => exact .mk t h1 h2 (h3.all hb) ih
theorem TrOk.out {w : World} {t : Tr} (h : TrOk w t) : t.byte < 256 ∧ I64 t.prod ∧ SliceK (fun _ => True) encT 3 w t.kv t.kids ∧ ∀ k ∈ t.kids, TrOk w k := by
  cases h with
  | mk _ h1 h2 h3 h4 => exact ⟨h1, h2, h3, h4⟩
section
variable {H : Type} {enc : TypeId × Value → H} {w : World} {base : Nat} {sp : Nat → Bool} {held : Bool}
open Go.ChangeShapes Go.WideShapes Go.ChangeAt Go.WideMaps Go.WideElems
/-- A slice whose elements are opened by what their bulk is less. -/
theorem slice_openB {α : Type} [Inhabited α] {en : α → List Value} {k : Nat} (hk0 : 0 < k) (hk : ∀ x, (en x).length = k) {t E : TypeId} (ht : Tryz.prog.underlying t = some (.slice E)) (hE : Tryz.prog.cellsOf E = k) (P : α → Prop)
    {fuel : Nat} {cs : List Value} {x : DataW H × List MemPlace} (h : DataW.trod enc Tryz.prog w base sp held fuel t cs = some x)
    (elem : ∀ {fuel : Nat} {cs : List Value} {y : DataW H × List MemPlace}, Rows.uptoBulk y.1 < Rows.uptoBulk x.1 → DataW.trod enc Tryz.prog w base sp held fuel E cs = some y → ∃ a, cs = en a ∧ P a) :
    ∃ (v : Value) (l : List α), cs = [v] ∧ SliceK (fun _ => True) en k w v l ∧ ∀ a ∈ l, P a := by
  rcases Go.Deep.open_slice ht h with ⟨rfl, rfl⟩ | ⟨a, len, cap, m, n, D, Pl, rfl, _, hl, hm, hmm, rfl, hx⟩
  · exact ⟨_, [], rfl, SliceK.nil, by simp⟩
  · have hlm : len ≤ m := by rw [hmm]; split <;> omega
    have hbD : ∀ i, i < len → Rows.uptoBulk (D i) < Rows.uptoBulk (DataW.slice ((List.range len).map D) ((List.range (m - len)).map fun j => D (len + j))) := by
      intro i hi
      have := bulk_part (List.mem_map_of_mem (f := D) (show i ∈ List.range len by simpa using hi))
      simp only [Rows.uptoBulk]
      omega
    have each : ∀ i, i < len → ∃ q : α, P q ∧ ∀ j u, (en q)[j]? = some u → w.cell? ((a.add (i * k)).add j) = some u := by
      intro i hi
      obtain ⟨cs', h1, h2⟩ := hx i (by omega)
      rw [hE] at h1
      obtain ⟨_, hlen, hcell⟩ := World.cells?_some h1
      obtain ⟨q, rfl, hq⟩ := elem (hbD i hi) h2
      refine ⟨q, hq, fun j u hu => ?_⟩
      rw [hcell j (by rw [← hk q]; exact (List.getElem?_eq_some_iff.1 hu).1), hu]
    obtain ⟨Q, hQ⟩ := Go.Deep.choose_lt each
    have hll : ((List.range len).map Q).length = len := by simp
    refine ⟨_, (List.range len).map Q, rfl, ⟨some a, cap, by rw [hll], by rw [hll]; exact hl, hm, fun hne => ?_⟩, ?_⟩
    · have hpos : 0 < len := by
        rcases Nat.eq_zero_or_pos len with h0 | h0
        · subst h0; exact absurd rfl hne
        · exact h0
      have h0 := (hQ 0 hpos).2 0 ((en (Q 0))[0]'(by rw [hk]; exact hk0)) (List.getElem?_eq_getElem _)
      have e0 : (a.add (0 * k)).add 0 = a := by rw [Nat.zero_mul]; simp [Addr.add]
      rw [e0] at h0
      have hs := spot_none h0
      obtain ⟨g, o, s⟩ := a
      simp only at hs
      subst hs
      refine ⟨g, o, rfl, trivial, World.block_lt_of_cell? _ _ h0, fun i y hy j u hu => ?_⟩
      obtain ⟨hi, hi2⟩ := List.getElem?_eq_some_iff.1 hy
      simp at hi hi2
      subst hi2
      have := (hQ i hi).2 j u hu
      rw [addr_add, addr_add] at this
      exact this
    · intro q hq
      obtain ⟨j, hj, rfl⟩ := List.mem_map.1 hq
      exact (hQ j (by simpa using hj)).1
theorem cwTree : Tryz.prog.cellsOf 76 = 3 := by kernel_rfl
theorem cwTrees : Tryz.prog.cellsOf 74 = 1 := by kernel_rfl
theorem cwU8 : Tryz.prog.cellsOf 5 = 1 := by kernel_rfl
theorem u8_wf {s : Int} (h : (Lit.int IntKind.u8 s).wf = true) : 0 ≤ s ∧ s < 256 := by
  simp [Lit.wf] at h
  have h1 : IntKind.u8.min = 0 := rfl
  have h2 : IntKind.u8.max = 255 := rfl
  omega
set_option maxRecDepth 100000 in
theorem tree_open : ∀ (B : Nat) {fuel : Nat} {cs : List Value} {x : DataW H × List MemPlace}, Rows.uptoBulk x.1 ≤ B → DataW.trod enc Tryz.prog w base sp held fuel 76 cs = some x → ∃ t : Tr, cs = encT t ∧ TrOk w t
  | 0, fuel, cs, x, hB, h => by have := bulk_pos x.1; omega
  | B + 1, fuel, cs, x, hB, h => by
    obtain ⟨xs, k, _, rfl, hl, hxl, hf⟩ := DataW.trod_struct Tryz.underlying76 h
    rw [cwTree] at hl
    obtain ⟨c0, c1, c2, rfl⟩ : ∃ c0 c1 c2, cs = [c0, c1, c2] := by
      match cs, hl with
      | [c0, c1, c2], _ => exact ⟨_, _, _, rfl⟩
    have g0 := hf 0 _ rfl
    have g1 := hf 1 _ rfl
    have g2 := hf 2 _ rfl
    clear hf h
    simp only [List.getElem_toArray, List.getElem_cons_succ, List.getElem_cons_zero, cwInt, cwU8, cwTrees, List.drop_succ_cons, List.drop_zero, List.take_succ_cons, List.take_zero] at g0 g1 g2
    have hm : ∀ i (hi : i < xs.length), Rows.uptoBulk xs[i].1 ≤ Rows.uptoBulkAll (xs.map (·.1)) := fun i hi => bulk_part (List.mem_map_of_mem (List.getElem_mem hi))
    have hx3 : xs.length = 3 := hxl
    rw [List.getElem?_eq_getElem (by rw [hx3]; decide)] at g0 g1 g2
    obtain ⟨k0, e0, _, w0⟩ := DataW.trod_int Tryz.underlying3 g0
    obtain ⟨k1, e1, _, w1⟩ := DataW.trod_int Tryz.underlying5 g1
    have b2 := hm 2 (by rw [hx3]; decide)
    simp only [Rows.uptoBulk] at hB
    obtain ⟨v2, l2, e2, s2, p2⟩ := slice_openB (k := 3) (by decide) encT_len Tryz.underlying74 cwTree (TrOk w) g2 (fun {_ _ y} hlt hy => tree_open B (by omega) hy)
    simp only [List.cons.injEq, and_true] at e0 e1 e2
    subst e0 e1 e2
    obtain ⟨h1, h2⟩ := u8_wf w1
    refine ⟨.node k0 k1.toNat c2 l2, ?_, .mk _ (by simp [Tr.byte]; omega) (i64_wf w0) s2 p2⟩
    simp [encT, Tr.prod, Tr.byte, Tr.kv]
    omega
end
end Go.Proofs.YtknpkndiflodbaaGreatDoor.Tb
set_option linter.unusedVariables false
set_option linter.unusedSimpArgs false
namespace Go.Proofs.YtknpkndiflodbaaGreatDoor.Tb
open Go Go.RowKit Go.Proofs Mx
theorem tslice_shape {α : Type} {D : Nat → Prop} {en : α → List Value} {k : Nat} {w : World} {v : Value} {l : List α} (h : SliceK D en k w v l) : ∃ a c, v = .slice a l.length c := by
  obtain ⟨a, c, e, _⟩ := h; exact ⟨a, c, e⟩
set_option maxRecDepth 100000 in
set_option maxHeartbeats 8000000 in
theorem size_any : ∀ (L : Nat) (t : Tr) (w : World), L ≤ 300 → TrOk w t →
    Calls Tryz.prog 27 #[trV t, .int .i64 (L : Int)] w fun e w' => e = .returned (.int .i64 ((min (nodes t) (L + 1) : Nat) : Int)) ∧ Below w.heap.size w w' := by
  intro L
  induction L using Nat.strongRecOn with
  | _ L ih =>
    intro t w hL ht
    obtain ⟨h1, h2, h3, h4⟩ := ht.out
    have hnd := nodes_kids t
    unfold trV
    obtain ⟨p, b, kv, ks⟩ := t
    simp only [Tr.prod, Tr.byte, Tr.kv, Tr.kids] at h1 h2 h3 h4 hnd ⊢
    obtain ⟨a, c, rfl, hc1, hc2, hk⟩ := h3
    have HK := Lib.hid (And.intro hk (And.intro h4 (And.intro hnd (And.intro ih hL))))
    clear hk h4 hnd ih ht h1 h2
    have hlen := hc1
    unfold maxLen at hc2
    go_enter Tryz.func27, Tryz.ntmps27
    go_wp2_with fail
    have hB1 : Blk (w.alloc (.cells #[.int .i64 p, .int .u8 (b : Int), .slice a ks.length c] 76)) w.heap.size 76 #[.int .i64 p, .int .u8 (b : Int), .slice a ks.length c] := Blk.new _ _ _
    have hb1 : Below w.heap.size w (w.alloc (.cells #[.int .i64 p, .int .u8 (b : Int), .slice a ks.length c] 76)) := (Below.refl _ w).alloc (Nat.le_refl _) _
    generalize (w.alloc (.cells #[.int .i64 p, .int .u8 (b : Int), .slice a ks.length c] 76)) = w1 at hB1 hb1 ⊢
    have H1 := Lib.hid (And.intro hB1 hb1)
    clear hB1 hb1
    go_loopg [5, 6] ks.length (fun m v5 v6 wr => ∃ i : Nat, i ≤ ks.length ∧ m = ks.length - i ∧ v6 = .int .i64 i ∧ v5 = .int .i64 ((min (1 + nodesL (ks.take i)) (L + 1) : Nat) : Int) ∧ Blk wr w.heap.size 76 #[.int .i64 p, .int .u8 (b : Int), .slice a ks.length c] ∧ Below w.heap.size w wr)
    case atStart => exact ⟨0, by omega, rfl, rfl, by simp [nodesL], H1.out.1, H1.out.2⟩
    case round =>
      obtain ⟨i, hi, hm, rfl, rfl, hB, hb⟩ := hrel
      have b2 := hB.cell 2
      simp at b2
      obtain ⟨n, hn⟩ : ∃ n : Nat, min (1 + nodesL (ks.take i)) (L + 1) = n := ⟨_, rfl⟩
      rw [hn]
      have hn1 : n ≤ 301 := by have := HK.out.2.2.2.2; omega
      by_cases hil : i < ks.length
      · have hil1 : (i : Int) < (ks.length : Int) := by omega
        have hi0 : (0 : Int) ≤ (i : Int) := by omega
        by_cases hnL : n ≤ L
        · have hnL1 : (n : Int) ≤ (L : Int) := by omega
          obtain ⟨k, hx⟩ : ∃ x, ks[i]? = some x := ⟨_, List.getElem?_eq_getElem hil⟩
          obtain ⟨kg, ko, rfl, _, hkr⟩ := HK.out.1 (by rintro h; rw [h] at hil; simp at hil)
          have c0 := (World.cell?_of_block (hb.block kg hkr.lt)).trans (hkr.cells i _ hx 0 _ rfl)
          have c1 := (World.cell?_of_block (hb.block kg hkr.lt)).trans (hkr.cells i _ hx 1 _ rfl)
          have c2 := (World.cell?_of_block (hb.block kg hkr.lt)).trans (hkr.cells i _ hx 2 _ rfl)
          simp only [Nat.add_zero] at c0
          have hs : (L : Int) - (n : Int) = ((L - n : Nat) : Int) := by omega
          have hw1 : IntKind.i64.wrap ((L : Int) - (n : Int)) = ((L - n : Nat) : Int) := by rw [hs]; exact IntWalk.i64_in _ (by have := HK.out.2.2.2.2; omega)
          have hpos : 1 ≤ n := by omega
          have hrec := HK.out.2.2.2.1 (L - n) (by omega) k wr (by have := HK.out.2.2.2.2; omega) ((HK.out.2.1 k (List.mem_of_getElem? hx)).lower hb)
          unfold trV at hrec
          have hkp : nodes k ≤ nodesL ks := nodesL_mem (List.mem_of_getElem? hx)
          have hw2 : IntKind.i64.wrap ((n : Int) + ((min (nodes k) (L - n + 1) : Nat) : Int)) = ((n + min (nodes k) (L - n + 1) : Nat) : Int) := by
            rw [show (n : Int) + ((min (nodes k) (L - n + 1) : Nat) : Int) = ((n + min (nodes k) (L - n + 1) : Nat) : Int) by omega]
            exact IntWalk.i64_in _ (by have := HK.out.2.2.2.2; omega)
          have HR := Lib.hid (And.intro hm (And.intro hn (And.intro hB (And.intro hb (And.intro hx hnL)))))
          obtain ⟨z, hz⟩ : ∃ z : Nat, min (nodes k) (L - n + 1) = z := ⟨_, rfl⟩
          rw [hz] at hw2 hrec
          have HZ := Lib.hid hz
          clear hm hn hB hb hx hkr hs hkp hz hnL
          go_wp2_with fail
          refine hrec.mono ?_
          rintro e w2 ⟨rfl, hb2⟩
          have A2 := Lib.hid hb2
          clear hb2 hrec
          go_wp2_with fail
          go_roundg (ks.length - (i + 1))
          case measure => have := HR.out.1; omega
          case rel =>
            refine ⟨i + 1, by omega, rfl, rfl, ?_, HR.out.2.2.1.below A2.out HR.out.2.2.1.lt, HR.out.2.2.2.1.trans (A2.out.mono HR.out.2.2.2.1.size)⟩
            rw [nodesL_take HR.out.2.2.2.2.1]
            have e1 := HR.out.2.1
            have e2 := HZ.out
            have e3 := HR.out.2.2.2.2.2
            congr 2
            omega
        · have hnL1 : ¬ (n : Int) ≤ (L : Int) := by omega
          have hres : min (nodes (.node p b (.slice a ks.length c) ks)) (L + 1) = n := by
            rw [HK.out.2.2.1]
            have := nodesL_take_le ks i
            omega
          have HR := Lib.hid (And.intro hres hb)
          clear hm hn hB hb hnL hres
          go_wp2_with fail
          go_ret
          exact ⟨by rw [HR.out.1]; rfl, HR.out.2⟩
      · obtain rfl : i = ks.length := by omega
        have hres : min (nodes (.node p b (.slice a ks.length c) ks)) (L + 1) = n := by
          rw [HK.out.2.2.1, ← hn, List.take_length]
        have HR := Lib.hid (And.intro hres hb)
        clear hm hn hB hb hres
        go_wp2_with fail
        go_ret
        exact ⟨by rw [HR.out.1]; rfl, HR.out.2⟩
end Go.Proofs.YtknpkndiflodbaaGreatDoor.Tb
set_option linter.unusedVariables false
set_option linter.unusedSimpArgs false
namespace Go.Proofs.YtknpkndiflodbaaGreatDoor.Tb
open Go Go.RowKit Go.Proofs Mx
set_option maxRecDepth 100000 in
set_option maxHeartbeats 8000000 in
theorem fits_any (D : Nat → Prop) (g : Gr) (hN : g.prods.length ≤ 2000000) (hR : ∀ p ∈ g.prods, p.right.length ≤ 2000000) (sv pv fv lv : Value) : ∀ (B : Nat) (t : Tr), nodes t ≤ B → ∀ (s : Sy) (w : World), TrOk w t → ProdsAt D w pv g.prods →
    Calls Tryz.prog 60 #[.agg #[sv, pv, .int .i64 g.start, fv, lv], symV s, trV t] w fun e w' => e = .returned (.bool (fitsF g t s)) ∧ Below w.heap.size w w' := by
  intro B
  induction B with
  | zero => intro t ht; have := nodes_pos t; omega
  | succ B ih =>
    intro t hnt s w ht hP
    obtain ⟨h1, h2, h3, h4⟩ := ht.out
    have hnd := nodes_kids t
    unfold trV symV
    obtain ⟨p, b, kv, ks⟩ := t
    simp only [Tr.prod, Tr.byte, Tr.kv, Tr.kids] at h1 h2 h3 h4 hnd ⊢
    obtain ⟨pa, pc, rfl⟩ := prodsAt_shape hP
    obtain ⟨a, c, rfl, hc1, hc2, hk⟩ := h3
    obtain ⟨sk, ss, so⟩ := s
    have hfs := fun h => fitsF_set (g := g) (p := p) (b := b) (v := .slice a ks.length c) (ks := ks) (s := ⟨sk, ss, so⟩) h
    have hfo := fun h => fitsF_sort (g := g) (p := p) (b := b) (v := .slice a ks.length c) (ks := ks) (s := ⟨sk, ss, so⟩) h
    simp only at hfs hfo ⊢
    have hlen := hc1
    unfold maxLen at hc2
    have hres : ∃ r, fitsF g (.node p b (.slice a ks.length c) ks) ⟨sk, ss, so⟩ = r := ⟨_, rfl⟩
    obtain ⟨r, hr⟩ := hres
    rw [hr] at hfs hfo ⊢
    have hhas := fun W => has_any ss b h1 W
    unfold setV at hhas
    have HK := Lib.hid (And.intro hk (And.intro h4 (And.intro hnd (And.intro ih (And.intro hP (And.intro hnt (And.intro hfs hfo)))))))
    clear hk h4 hnd ih ht hr h1 hP hnt hfs hfo
    go_enter Tryz.func60, Tryz.ntmps60
    go_upto_region 1 with fail
    have hB0 : Blk (((w.alloc (.cells #[sv, .slice pa g.prods.length pc, .int .i64 g.start, fv, lv] 39)).alloc (.cells #[.int .i64 sk, .int .u64 (wd ss 0), .int .u64 (wd ss 1), .int .u64 (wd ss 2), .int .u64 (wd ss 3), .int .i64 so] 28)).alloc (.cells #[.int .i64 p, .int .u8 (b : Int), .slice a ks.length c] 76)) w.heap.size 39 #[sv, .slice pa g.prods.length pc, .int .i64 g.start, fv, lv] := ((Blk.new _ _ _).alloc _).alloc _
    have hB1 : Blk (((w.alloc (.cells #[sv, .slice pa g.prods.length pc, .int .i64 g.start, fv, lv] 39)).alloc (.cells #[.int .i64 sk, .int .u64 (wd ss 0), .int .u64 (wd ss 1), .int .u64 (wd ss 2), .int .u64 (wd ss 3), .int .i64 so] 28)).alloc (.cells #[.int .i64 p, .int .u8 (b : Int), .slice a ks.length c] 76)) (w.heap.size + 1) 28 #[.int .i64 sk, .int .u64 (wd ss 0), .int .u64 (wd ss 1), .int .u64 (wd ss 2), .int .u64 (wd ss 3), .int .i64 so] := (Blk.new_ (by simp) _ _).alloc _
    have hB2 : Blk (((w.alloc (.cells #[sv, .slice pa g.prods.length pc, .int .i64 g.start, fv, lv] 39)).alloc (.cells #[.int .i64 sk, .int .u64 (wd ss 0), .int .u64 (wd ss 1), .int .u64 (wd ss 2), .int .u64 (wd ss 3), .int .i64 so] 28)).alloc (.cells #[.int .i64 p, .int .u8 (b : Int), .slice a ks.length c] 76)) (w.heap.size + 1 + 1) 76 #[.int .i64 p, .int .u8 (b : Int), .slice a ks.length c] := Blk.new_ (by simp) _ _
    have hb1 : Below w.heap.size w (((w.alloc (.cells #[sv, .slice pa g.prods.length pc, .int .i64 g.start, fv, lv] 39)).alloc (.cells #[.int .i64 sk, .int .u64 (wd ss 0), .int .u64 (wd ss 1), .int .u64 (wd ss 2), .int .u64 (wd ss 3), .int .i64 so] 28)).alloc (.cells #[.int .i64 p, .int .u8 (b : Int), .slice a ks.length c] 76)) := (((Below.refl w.heap.size w).alloc (Nat.le_refl _) _).alloc (by simp) _).alloc (by simp; omega) _
    generalize (((w.alloc (.cells #[sv, .slice pa g.prods.length pc, .int .i64 g.start, fv, lv] 39)).alloc (.cells #[.int .i64 sk, .int .u64 (wd ss 0), .int .u64 (wd ss 1), .int .u64 (wd ss 2), .int .u64 (wd ss 3), .int .i64 so] 28)).alloc (.cells #[.int .i64 p, .int .u8 (b : Int), .slice a ks.length c] 76)) = W1 at hB0 hB1 hB2 hb1 ⊢
    have g1 := hB0.cell 1
    have s0 := hB1.cell 0
    have s1 := hB1.cell 1
    have s2 := hB1.cell 2
    have s3 := hB1.cell 3
    have s4 := hB1.cell 4
    have s5 := hB1.cell 5
    have t0 := hB2.cell 0
    have t1 := hB2.cell 1
    have t2 := hB2.cell 2
    simp at g1 s0 s1 s2 s3 s4 s5 t0 t1 t2
    have H1 := Lib.hid (And.intro hB0 (And.intro hB1 (And.intro hB2 hb1)))
    clear hB0 hB1 hB2 hb1
    by_cases hk0 : sk = 0
    · have hfs := HK.out.2.2.2.2.2.2.1 hk0
      subst hk0
      by_cases hp : p = -1
      · subst hp
        by_cases hz : ks.length = 0
        · have hks : ks = [] := List.eq_nil_of_length_eq_zero hz
          have HF := Lib.hid (show r = ss.testBit b from by rw [hfs, hks]; simp)
          clear hfs hks
          go_wp2_with fail
          refine (hhas _).mono ?_
          rintro e w2 ⟨rfl, hb2⟩
          have H2 := Lib.hid hb2
          clear hb2 hhas
          go_wp2_with fail
          go_ret
          exact ⟨by rw [HF.out]; rfl, H1.out.2.2.2.trans (H2.out.mono H1.out.2.2.2.size)⟩
        · have HF := Lib.hid (show r = false from by rw [hfs]; cases ks with | nil => exact absurd rfl hz | cons _ _ => simp)
          clear hfs
          have hz1 : ¬ (ks.length : Int) = 0 := by omega
          go_wp2_with fail
          go_ret
          exact ⟨by rw [HF.out]; rfl, H1.out.2.2.2⟩
      · have HF := Lib.hid (show r = false from by rw [hfs]; simp [hp])
        clear hfs
        go_wp2_with fail
        go_ret
        exact ⟨by rw [HF.out]; rfl, H1.out.2.2.2⟩
    · have hfo := HK.out.2.2.2.2.2.2.2 hk0
      clear hhas
      by_cases hp0 : p < 0
      · have HF := Lib.hid (show r = false from by rw [hfo, decide_eq_false (show ¬ 0 ≤ p by omega)]; rfl)
        clear hfo
        go_wp2_with fail
        go_ret
        exact ⟨by rw [HF.out]; rfl, H1.out.2.2.2⟩
      · obtain ⟨n, rfl⟩ : ∃ n : Nat, p = (n : Int) := ⟨p.toNat, by omega⟩
        have hn0 : (0 : Int) ≤ (n : Int) := by omega
        rw [decide_eq_true hn0, Int.toNat_natCast, Bool.true_and] at hfo
        by_cases hpl : (g.prods.length : Int) ≤ (n : Int)
        · have HF := Lib.hid (show r = false from by rw [hfo, List.getElem?_eq_none (by omega)]; simp)
          clear hfo
          go_wp2_with fail
          go_ret
          exact ⟨by rw [HF.out]; rfl, H1.out.2.2.2⟩
        · have hnl : n < g.prods.length := by omega
          have hn1 : (n : Int) < (g.prods.length : Int) := by omega
          by_cases hb0 : b = 0
          · subst hb0
            obtain ⟨q, hq⟩ : ∃ q, g.prods[n]? = some q := ⟨_, List.getElem?_eq_getElem hnl⟩
            rw [hq] at hfo
            simp only [decide_true, Bool.true_and] at hfo
            obtain ⟨cap, pb, po, vr, epv, hbl, hvr, hpc⟩ := HK.out.2.2.2.2.1.at_ hq
            injection epv with e1 e2 e3
            subst e1
            subst e3
            obtain ⟨ra, rc, rfl, hrc1, hrc2, hrk⟩ := hvr
            have up : ∀ {i : Nat} {u : Value}, w.cell? ⟨pb, i, none⟩ = some u → W1.cell? ⟨pb, i, none⟩ = some u := fun h => (World.cell?_of_block (H1.out.2.2.2.block pb hbl)).trans h
            have f0 := up (hpc 0 _ rfl)
            have f1 := up (hpc 1 _ rfl)
            have f2 := up (hpc 2 _ rfl)
            have f3 := up (hpc 3 _ rfl)
            have f4 := up (hpc 4 _ rfl)
            have f5 := up (hpc 5 _ rfl)
            have f6 := up (hpc 6 _ rfl)
            simp only [Nat.add_zero] at f0
            have HRt := Lib.hid (And.intro hrk (And.intro hfo (hR q (List.mem_of_getElem? hq))))
            clear hpc hrk hpl e2 up hfo hq
            go_upto_region 6 with fail
            have hP : Blk (W1.alloc (.cells #[.int .i64 q.left, .slice ra q.right.length rc, .string ⟨q.cons.toArray⟩, .int .i64 q.role, .bool q.prefer, .bool q.avoid, .int .i64 q.made] 34)) W1.heap.size 34 #[.int .i64 q.left, .slice ra q.right.length rc, .string ⟨q.cons.toArray⟩, .int .i64 q.role, .bool q.prefer, .bool q.avoid, .int .i64 q.made] := Blk.new _ _ _
            have hb3 : Below W1.heap.size W1 (W1.alloc (.cells #[.int .i64 q.left, .slice ra q.right.length rc, .string ⟨q.cons.toArray⟩, .int .i64 q.role, .bool q.prefer, .bool q.avoid, .int .i64 q.made] 34)) := (Below.refl _ W1).alloc (Nat.le_refl _) _
            generalize (W1.alloc (.cells #[.int .i64 q.left, .slice ra q.right.length rc, .string ⟨q.cons.toArray⟩, .int .i64 q.role, .bool q.prefer, .bool q.avoid, .int .i64 q.made] 34)) = w3 at hP hb3 ⊢
            obtain ⟨pq, hpq⟩ : ∃ pq, W1.heap.size = pq := ⟨_, rfl⟩
            rw [hpq] at hP ⊢
            have hG3 := H1.out.1.below hb3 H1.out.1.lt
            have hS3 := H1.out.2.1.below hb3 H1.out.2.1.lt
            have hT3 := H1.out.2.2.1.below hb3 H1.out.2.2.1.lt
            have hb13 := H1.out.2.2.2.trans (hb3.mono H1.out.2.2.2.size)
            clear f0 f1 f2 f3 f4 f5 f6 g1 s0 s1 s2 s3 s4 s5 t0 t1 t2
            have x0 := hP.cell 0
            have x1 := hP.cell 1
            have x3 := hP.cell 3
            have s5 := hS3.cell 5
            have t2 := hT3.cell 2
            simp at x0 x1 x3 s5 t2
            have H3 := Lib.hid (And.intro hG3 (And.intro hP (And.intro hT3 hb13)))
            clear hG3 hS3 hT3 hb13 hP hb3 hpq
            by_cases hl : q.left = so
            · by_cases hrj : q.role = 11
              · have HF := Lib.hid (show r = false from by rw [HRt.out.2.1, hrj]; simp)
                go_wp2_with fail
                go_ret
                exact ⟨by rw [HF.out]; rfl, H3.out.2.2.2⟩
              · by_cases hkl : ks.length = q.right.length
                · have HF := Lib.hid (show r = fitsL g ks q.right from by rw [HRt.out.2.1, hl]; simp [hrj])
                  go_wp2_with fail
                  have HL := Lib.hid hkl
                  have hql := HRt.out.2.2
                  clear hkl
                  go_loopg [73] q.right.length (fun m v73 wx => ∃ i : Nat, i ≤ q.right.length ∧ m = q.right.length - i ∧ v73 = .int .i64 (i : Int) ∧ (∀ (j : Nat) (u : Tr) (y : Sy), j < i → ks[j]? = some u → q.right[j]? = some y → fitsF g u y = true) ∧ Below w3.heap.size w3 wx)
                  case atStart => exact ⟨0, by omega, rfl, rfl, fun j u y hj => by omega, Below.refl _ _⟩
                  case round =>
                    obtain ⟨i, hi, hm, rfl, hdone, hbx⟩ := hrel
                    by_cases hil : i < q.right.length
                    · have hil1 : (i : Int) < (q.right.length : Int) := by omega
                      have hi0 : (0 : Int) ≤ (i : Int) := by omega
                      obtain ⟨k, hx⟩ : ∃ x, ks[i]? = some x := ⟨_, List.getElem?_eq_getElem (by rw [HL.out]; exact hil)⟩
                      obtain ⟨ka2, kc2, hk2⟩ := tslice_shape (HK.out.2.1 _ (List.mem_of_getElem? hx)).out.2.2.1
                      obtain ⟨y, hy⟩ : ∃ y, q.right[i]? = some y := ⟨_, List.getElem?_eq_getElem hil⟩
                      obtain ⟨kg, ko, rfl, _, hkr⟩ := HK.out.1 (by rintro h; rw [h] at hx; simp at hx)
                      obtain ⟨rb, ro, rfl, _, hrr⟩ := HRt.out.1 (by rintro h; rw [h] at hy; simp at hy)
                      have hbw : Below w.heap.size w wr := H3.out.2.2.2.trans (hbx.mono H3.out.2.2.2.size)
                      have c0 := (World.cell?_of_block (hbw.block kg hkr.lt)).trans (hkr.cells i _ hx 0 _ rfl)
                      have c1 := (World.cell?_of_block (hbw.block kg hkr.lt)).trans (hkr.cells i _ hx 1 _ rfl)
                      have c2 : wr.cell? ⟨kg, ko + i * 3 + 2, none⟩ = some k.kv := (World.cell?_of_block (hbw.block kg hkr.lt)).trans (hkr.cells i _ hx 2 _ rfl)
                      simp only [Nat.add_zero] at c0
                      rw [hk2] at c2
                      have HR := Lib.hid (And.intro hm (And.intro hdone (And.intro hbx (And.intro hbw (And.intro hx (And.intro hy (And.intro hkr hrr)))))))
                      have HKV := Lib.hid hk2
                      clear hm hdone hbx hbw hx hy hkr hrr hk2
                      go_upto_region 11 with fail
                      have hQ : Blk (wr.alloc (.cells #[.int .i64 k.prod, .int .u8 (k.byte : Int), .slice ka2 k.kids.length kc2] 76)) wr.heap.size 76 #[.int .i64 k.prod, .int .u8 (k.byte : Int), .slice ka2 k.kids.length kc2] := Blk.new _ _ _
                      have hb4 : Below wr.heap.size wr (wr.alloc (.cells #[.int .i64 k.prod, .int .u8 (k.byte : Int), .slice ka2 k.kids.length kc2] 76)) := (Below.refl _ wr).alloc (Nat.le_refl _) _
                      generalize (wr.alloc (.cells #[.int .i64 k.prod, .int .u8 (k.byte : Int), .slice ka2 k.kids.length kc2] 76)) = w4 at hQ hb4 ⊢
                      obtain ⟨kq, hkq⟩ : ∃ kq, wr.heap.size = kq := ⟨_, rfl⟩
                      rw [hkq] at hQ ⊢
                      have hb34 := HR.out.2.2.1.trans (hb4.mono HR.out.2.2.1.size)
                      have hb04 := HR.out.2.2.2.1.trans (hb4.mono HR.out.2.2.2.1.size)
                      have hG4 := H3.out.1.below hb34 H3.out.1.lt
                      have hP4 := H3.out.2.1.below hb34 H3.out.2.1.lt
                      have g0 := hG4.cell 0
                      have g1 := hG4.cell 1
                      have g2 := hG4.cell 2
                      have g3 := hG4.cell 3
                      have g4 := hG4.cell 4
                      have p1 := hP4.cell 1
                      have k0 := hQ.cell 0
                      have k1 := hQ.cell 1
                      have k2 := hQ.cell 2
                      simp at g0 g1 g2 g3 g4 p1 k0 k1 k2
                      have y0 := (World.cell?_of_block (hb04.block rb HR.out.2.2.2.2.2.2.2.lt)).trans (HR.out.2.2.2.2.2.2.2.cells i _ HR.out.2.2.2.2.2.1 0 _ rfl)
                      have y1 := (World.cell?_of_block (hb04.block rb HR.out.2.2.2.2.2.2.2.lt)).trans (HR.out.2.2.2.2.2.2.2.cells i _ HR.out.2.2.2.2.2.1 1 _ rfl)
                      have y2 := (World.cell?_of_block (hb04.block rb HR.out.2.2.2.2.2.2.2.lt)).trans (HR.out.2.2.2.2.2.2.2.cells i _ HR.out.2.2.2.2.2.1 2 _ rfl)
                      have y3 := (World.cell?_of_block (hb04.block rb HR.out.2.2.2.2.2.2.2.lt)).trans (HR.out.2.2.2.2.2.2.2.cells i _ HR.out.2.2.2.2.2.1 3 _ rfl)
                      have y4 := (World.cell?_of_block (hb04.block rb HR.out.2.2.2.2.2.2.2.lt)).trans (HR.out.2.2.2.2.2.2.2.cells i _ HR.out.2.2.2.2.2.1 4 _ rfl)
                      have y5 := (World.cell?_of_block (hb04.block rb HR.out.2.2.2.2.2.2.2.lt)).trans (HR.out.2.2.2.2.2.2.2.cells i _ HR.out.2.2.2.2.2.1 5 _ rfl)
                      simp only [Nat.add_zero] at y0
                      have H4 := Lib.hid (And.intro hb34 hb04)
                      clear hb34 hb04 hG4 hP4 hQ hb4 c0 c1 c2 hkq
                      obtain ⟨wt, rfl⟩ : ∃ wt : World, wt = w4 := ⟨_, rfl⟩
                      go_still_tail 7, (by kernel_rfl)
                      repeat still_step
                      try refine wpStill_nil ?_
                      change wpList _ _ _ _ _ wt.drew
                      have hrec := HK.out.2.2.2.1 k (by have := nodesL_mem (List.mem_of_getElem? HR.out.2.2.2.2.1); have h1 := HK.out.2.2.1; have h2 := HK.out.2.2.2.2.2.1; omega) y wt.drew ((HK.out.2.1 k (List.mem_of_getElem? HR.out.2.2.2.2.1)).lower (show Below w.heap.size w wt.drew from H4.out.2.drew)) (HK.out.2.2.2.2.1.keep (D' := D) (w' := wt.drew) fun q hq hl => ⟨hq, H4.out.2.block q hl⟩)
                      unfold trV symV at hrec
                      rw [HKV.out] at hrec
                      go_wp2_with fail
                      refine hrec.mono ?_
                      rintro e w5 ⟨rfl, hb5⟩
                      have hb35 : Below w3.heap.size w3 w5 := H4.out.1.trans ((show Below wt.heap.size wt w5 from (show Below wt.heap.size wt wt.drew from (Below.refl _ _).drew).trans hb5).mono H4.out.1.size)
                      have H5 := Lib.hid hb35
                      clear hb5 hb35 hrec g0 g1 g2 g3 g4 p1 k0 k1 k2 y0 y1 y2 y3 y4 y5
                      cases hf : fitsF g k y with
                      | true =>
                        have HX := Lib.hid hf
                        clear hf
                        go_wp2_with fail
                        go_roundg (q.right.length - (i + 1))
                        case measure => have := HR.out.1; omega
                        case rel =>
                          refine ⟨i + 1, by omega, rfl, rfl, fun j u z hj hu hz => ?_, H5.out⟩
                          rcases Nat.lt_or_ge j i with h | h
                          · exact HR.out.2.1 j u z h hu hz
                          · obtain rfl : j = i := by omega
                            rw [HR.out.2.2.2.2.1] at hu
                            rw [HR.out.2.2.2.2.2.1] at hz
                            injection hu with hu
                            injection hz with hz
                            rw [← hu, ← hz]; exact HX.out
                      | false =>
                        have HX := Lib.hid (show r = false from by
                          rw [HF.out]
                          cases hL : fitsL g ks q.right with
                          | false => rfl
                          | true => rw [((fitsL_iff g _ _).1 hL).2 i k y HR.out.2.2.2.2.1 HR.out.2.2.2.2.2.1] at hf; cases hf)
                        clear hf
                        go_wp2_with fail
                        go_ret
                        exact ⟨by rw [HX.out]; rfl, H3.out.2.2.2.trans (H5.out.mono H3.out.2.2.2.size)⟩
                    · obtain rfl : i = q.right.length := by omega
                      have HX := Lib.hid (And.intro (show r = true from by
                        rw [HF.out]
                        refine (fitsL_iff g _ _).2 ⟨HL.out, fun j u y hu hy => hdone j u y (List.getElem?_eq_some_iff.1 hy).1 hu hy⟩) hbx)
                      clear hdone hbx hm
                      go_wp2_with fail
                      go_ret
                      exact ⟨by rw [HX.out.1]; rfl, H3.out.2.2.2.trans (HX.out.2.mono H3.out.2.2.2.size)⟩
                · have HF := Lib.hid (show r = false from by rw [HRt.out.2.1]; cases h : fitsL g ks q.right with | false => simp | true => exact absurd ((fitsL_iff g _ _).1 h).1 hkl)
                  have hkl1 : ((ks.length : Int) != (q.right.length : Int)) = true := by have h : ¬ (ks.length : Int) = (q.right.length : Int) := by omega
                                                                                         simpa using h
                  clear hkl
                  go_wp2_with fail
                  go_ret
                  exact ⟨by rw [HF.out]; rfl, H3.out.2.2.2⟩
            · have HF := Lib.hid (show r = false from by rw [HRt.out.2.1]; simp [hl])
              go_wp2_with fail
              go_ret
              exact ⟨by rw [HF.out]; rfl, H3.out.2.2.2⟩
          · have HF := Lib.hid (show r = false from by rw [hfo, decide_eq_false hb0]; rfl)
            have hb1 : ¬ (b : Int) = 0 := by omega
            clear hfo
            go_wp2_with fail
            go_ret
            exact ⟨by rw [HF.out]; rfl, H1.out.2.2.2⟩
end Go.Proofs.YtknpkndiflodbaaGreatDoor.Tb
set_option linter.unusedVariables false
set_option linter.unusedSimpArgs false
namespace Go.Proofs.YtknpkndiflodbaaGreatDoor.Tb
open Go Go.RowKit Go.Proofs Mx
def encAt (x : Tr × Nat) : List Value := [.int .i64 x.1.prod, .int .u8 (x.1.byte : Int), x.1.kv, .int .i64 (x.2 : Int)]
theorem encAt_len (x : Tr × Nat) : (encAt x).length = 4 := rfl
theorem infoAt : (Tryz.prog.info? 160).map (fun i => (i.zero, i.size, i.bytes)) = some (some (.agg #[.int .i64 0, .int .u8 0, .slice none 0 0, .int .i64 0]), 4, 48) := by kernel_rfl
theorem encAt_one (x : Tr × Nat) (h : x.1.kv.oneCell' = true) : ∀ v ∈ encAt x, v.oneCell' = true := by intro v hv; simp [encAt] at hv; rcases hv with rfl | rfl | rfl | rfl <;> first | rfl | exact h
def todoN (L : List (Tr × Nat)) : Nat := nodesL (L.map (·.1))
theorem todoN_snoc (L : List (Tr × Nat)) (x : Tr × Nat) : todoN (L ++ [x]) = todoN L + nodes x.1 := by
  unfold todoN; rw [List.map_append, nodesL_append]; simp [nodesL]
theorem maxI (a b : Nat) : max (a : Int) (b : Int) = ((max a b : Nat) : Int) := by omega
theorem cells_new (w : World) (t : TypeId) (cs : Array Value) : ∀ j u, cs.toList[j]? = some u → (w.alloc (.cells cs t)).cell? ((⟨w.heap.size, 0, none⟩ : Addr).add j) = some u := by
  intro j u hj
  have hb : Blk (w.alloc (.cells cs t)) w.heap.size t cs := Blk.new w _ _
  rw [addr_add, Nat.zero_add, hb.cell j]
  simpa using hj
theorem run_cutA (w : World) (a : Option Addr) (n c : Nat) (hn : n + 1 ≤ c) : (Instr.sliceAt 161 (.slice a (n + 1) c) none (some (.int .i64 (n : Int))) none).run Tryz.prog w = .ok (.slice (a.map (·.add 0)) n c) w := by
  have hs : (sizeOf 160).run Tryz.prog w = .ok 4 w := by kernel_rfl
  have he : Tryz.prog.elem 161 = 160 := by kernel_rfl
  rw [run_sliceAt_slice w _ _ _ _ _ (by rw [he]; exact Tryz.underlying161), run_slice_h w _ _ _ _ (by rw [he]; exact Tryz.underlying161) .i64 (n : Int) (by omega) (by omega), he, hs]
  simp [Result.andThen, sliced]
  omega
/-- What is left to be looked at. -/
structure Todo (t : Tr) (w W : World) (v : Value) (L : List (Tr × Nat)) : Prop where
  row : W.ownsRow w.heap.size 160 4 v L.length (flatK encAt L)
  each : ∀ x ∈ L, TrOk w x.1 ∧ x.2 + nodes x.1 ≤ nodes t + 1
  below : Below w.heap.size w W
set_option maxRecDepth 100000 in
set_option maxHeartbeats 8000000 in
theorem deep_any (t : Tr) (w : World) (ht : TrOk w t) (hnt : nodes t ≤ 2000) :
    Calls Tryz.prog 59 #[trV t] w fun e w' => (∃ n : Nat, n ≤ nodes t ∧ e = .returned (.int .i64 (n : Int))) ∧ Below w.heap.size w w' := by
  obtain ⟨ta, tc, hkv⟩ := tslice_shape ht.out.2.2.1
  unfold trV
  obtain ⟨tl, htl⟩ : ∃ n, t.kids.length = n := ⟨_, rfl⟩
  rw [htl] at hkv
  rw [hkv]
  have HK := Lib.hid (And.intro ht (And.intro hnt hkv))
  clear ht hnt hkv htl
  go_enter Tryz.func59, Tryz.ntmps59
  go_upto_region 3 with fail
  have hT : Todo t w ((w.alloc (.cells #[.int .i64 t.prod, .int .u8 (t.byte : Int), .slice ta tl tc] 76)).alloc (.cells #[.int .i64 t.prod, .int .u8 (t.byte : Int), .slice ta tl tc, .int .i64 1] 160)) (.slice (some ⟨w.heap.size + 1, 0, none⟩) 1 1) [(t, 1)] := by
    refine ⟨?_, fun x hx => ?_, ((Below.refl _ w).alloc (Nat.le_refl _) _).alloc (by simp) _⟩
    · have h := own_fresh (w.alloc (.cells #[.int .i64 t.prod, .int .u8 (t.byte : Int), .slice ta tl tc] 76)) (B := w.heap.size) 160 4 1 #[.int .i64 t.prod, .int .u8 (t.byte : Int), .slice ta tl tc, .int .i64 1] (by simp) rfl (by decide)
      rw [show (w.alloc (.cells #[.int .i64 t.prod, .int .u8 (t.byte : Int), .slice ta tl tc] 76)).heap.size = w.heap.size + 1 by simp] at h
      have e : flatK encAt [(t, 1)] = [.int .i64 t.prod, .int .u8 (t.byte : Int), .slice ta tl tc, .int .i64 1] := by simp [flatK, encAt, HK.out.2.2]
      rw [e]
      exact h
    · rw [List.mem_singleton] at hx
      subst hx
      exact ⟨HK.out.1, by simp; omega⟩
  generalize ((w.alloc (.cells #[.int .i64 t.prod, .int .u8 (t.byte : Int), .slice ta tl tc] 76)).alloc (.cells #[.int .i64 t.prod, .int .u8 (t.byte : Int), .slice ta tl tc, .int .i64 1] 160)) = w1 at hT ⊢
  have H1 := Lib.hid hT
  clear hT
  go_loopg [3, 4] (nodes t) (fun m v3 v4 wx => ∃ (L : List (Tr × Nat)) (n : Nat), m = todoN L ∧ todoN L ≤ nodes t ∧ v3 = .int .i64 (n : Int) ∧ n ≤ nodes t ∧ Todo t w wx v4 L)
  case atStart => exact ⟨[(t, 1)], 0, by simp [todoN, nodesL], by simp [todoN, nodesL], rfl, by omega, H1.out⟩
  case round =>
    obtain ⟨L, n, hm, hmt, rfl, hn, hT⟩ := hrel
    have hnt := HK.out.2.1
    rcases List.eq_nil_or_concat L with rfl | ⟨L, ⟨xt, xn⟩, rfl⟩
    · obtain ⟨a, c, rfl⟩ := own_shape hT.row
      have HX := Lib.hid hT
      have HN := Lib.hid hn
      clear hT hm hmt hn
      go_wp2_with fail
      go_ret
      exact ⟨⟨n, HN.out, rfl⟩, HX.out.below⟩
    · rw [List.concat_eq_append] at hm hmt hT
      obtain ⟨lN, hlN⟩ : ∃ lN, L.length = lN := ⟨_, rfl⟩
      have hl1 : (L ++ [(xt, xn)]).length = lN + 1 := by simp [hlN]
      obtain ⟨row, each, below⟩ := hT
      rw [hl1] at row
      obtain ⟨rg, rc, rfl, hrg, hrc1, hrc2⟩ := own_some row (by omega)
      have hlb : lN ≤ 2000 := by
        have h1 := len_nodesL ((L ++ [(xt, xn)]).map (·.1))
        rw [List.length_map, hl1] at h1
        unfold todoN at hmt
        omega
      have hc : ∀ j u, (encAt (xt, xn))[j]? = some u → wr.cell? ⟨rg, lN * 4 + j, none⟩ = some u := fun j u hu => by
        have h := row.cells (g := rg) rfl (lN * 4 + j) u (flatK_get encAt_len _ lN (xt, xn) j u (by rw [← hlN]; simp) hu)
        rw [addr_add, Nat.zero_add] at h
        exact h
      have c0 := hc 0 _ rfl
      have c1 := hc 1 _ rfl
      have c2 : wr.cell? ⟨rg, lN * 4 + 2, none⟩ = some xt.kv := hc 2 _ rfl
      have c3 := hc 3 _ rfl
      simp only [Nat.add_zero] at c0
      have hrl := (row.lt rg rfl).2
      obtain ⟨hxo, hxn⟩ := each (xt, xn) (by simp)
      simp only at hxo hxn
      obtain ⟨ka, kc, hkv, hkc1, hkc2, hkk⟩ := hxo.out.2.2.1
      rw [hkv] at c2
      have hsl := fun W => run_cutA W (some ⟨rg, 0, none⟩) lN rc hrc1
      simp only [Option.map_some, Addr.add] at hsl
      have hcut := own_cut row (m := lN) (by omega)
      rw [show (flatK encAt (L ++ [(xt, xn)])).take (lN * 4) = flatK encAt L from by
        rw [flatK_append, List.take_left' (by rw [flatK_len encAt_len, hlN])]] at hcut
      have hsum : todoN (L ++ [(xt, xn)]) = todoN L + nodes xt := todoN_snoc L (xt, xn)
      obtain ⟨kl, hkl⟩ : ∃ kl, xt.kids.length = kl := ⟨_, rfl⟩
      rw [hkl] at c2 hkc1 hkv
      have hklb : kl ≤ 2000 := by have := nodes_kids xt; have := len_nodesL xt.kids; omega
      have hxnb : xn ≤ 2001 := by omega
      have A := Lib.hid (And.intro hm (And.intro hmt (And.intro hn (And.intro hcut (And.intro each (And.intro below (And.intro hxo (And.intro hxn (And.intro hkk (And.intro hsum (And.intro hkl (And.intro hkv hlN))))))))))))
      clear hm hmt hn hcut each below row hxo hxn hkk hsum hkl hlN hl1 hc hkv
      have hn1 : (0 : Int) < (lN : Int) + 1 := by omega
      have hnN : (n : Int) ≤ 16384 := by have := A.out.2.2.1; omega
      have hmx := maxI n xn
      go_wp2_with fail
      have hX : Blk (wr.alloc (.cells #[.int .i64 xt.prod, .int .u8 (xt.byte : Int), .slice ka kl kc, .int .i64 (xn : Int)] 160)) wr.heap.size 160 #[.int .i64 xt.prod, .int .u8 (xt.byte : Int), .slice ka kl kc, .int .i64 (xn : Int)] := Blk.new _ _ _
      have hr2 := A.out.2.2.2.1.alloc (.cells #[.int .i64 xt.prod, .int .u8 (xt.byte : Int), .slice ka kl kc, .int .i64 (xn : Int)] 160)
      have hb2 : Below w.heap.size w (wr.alloc (.cells #[.int .i64 xt.prod, .int .u8 (xt.byte : Int), .slice ka kl kc, .int .i64 (xn : Int)] 160)) := A.out.2.2.2.2.2.1.alloc A.out.2.2.2.2.2.1.size _
      have hwr := A.out.2.2.2.2.2.1.size
      generalize (wr.alloc (.cells #[.int .i64 xt.prod, .int .u8 (xt.byte : Int), .slice ka kl kc, .int .i64 (xn : Int)] 160)) = w2 at hX hr2 hb2 ⊢
      obtain ⟨xb, hxb⟩ : ∃ xb, wr.heap.size = xb := ⟨_, rfl⟩
      rw [hxb] at hX hrl hwr ⊢
      have A2 := Lib.hid (And.intro hX (And.intro hr2 (And.intro hb2 (And.intro hrl hwr))))
      clear hX hr2 hb2 c0 c1 c2 c3 hsl hmx hxb hrl hwr
      go_loopg [4, 37] kl (fun m v4 v37 wy => ∃ i : Nat, i ≤ kl ∧ m = kl - i ∧ v37 = .int .i64 (i : Int) ∧ wy.ownsRow w.heap.size 160 4 v4 (lN + i) (flatK encAt (L ++ (xt.kids.take i).map (·, xn + 1))) ∧ Blk wy xb 160 #[.int .i64 xt.prod, .int .u8 (xt.byte : Int), .slice ka kl kc, .int .i64 (xn : Int)] ∧ (∀ b, v4.ownBlock = some b → b ≠ xb) ∧ Below w.heap.size w wy)
      case atStart => exact ⟨0, by omega, rfl, rfl, by simpa using A2.out.2.1, A2.out.1, (fun b hb => by simp [Value.ownBlock] at hb; have := A2.out.2.2.2.1; omega), A2.out.2.2.1⟩
      case round =>
        obtain ⟨i, hi, hm, rfl, hown, hX, hne, hb⟩ := hrel
        obtain ⟨sa, sc, rfl⟩ := own_shape hown
        by_cases hik : i < kl
        · obtain ⟨k, hk⟩ : ∃ k, xt.kids[i]? = some k := ⟨_, List.getElem?_eq_getElem (by rw [A.out.2.2.2.2.2.2.2.2.2.2.1]; exact hik)⟩
          obtain ⟨kg, ko, rfl, _, hkr⟩ := A.out.2.2.2.2.2.2.2.2.1 (by rintro h; rw [h] at hk; simp at hk)
          have hko := A.out.2.2.2.2.2.2.1.out.2.2.2 k (List.mem_of_getElem? hk)
          obtain ⟨ka2, kc2, hkv2⟩ := tslice_shape hko.out.2.2.1
          have c0 := (World.cell?_of_block (hb.block kg hkr.lt)).trans (hkr.cells i _ hk 0 _ rfl)
          have c1 := (World.cell?_of_block (hb.block kg hkr.lt)).trans (hkr.cells i _ hk 1 _ rfl)
          have c2 : wr.cell? ⟨kg, ko + i * 3 + 2, none⟩ = some k.kv := (World.cell?_of_block (hb.block kg hkr.lt)).trans (hkr.cells i _ hk 2 _ rfl)
          simp only [Nat.add_zero] at c0
          rw [hkv2] at c2
          have hi0 : (0 : Int) ≤ (i : Int) := by omega
          have hi1 : (i : Int) < (kl : Int) := by omega
          have hsz := hb.size
          have R := Lib.hid (And.intro hm (And.intro hown (And.intro hX (And.intro hne (And.intro hb (And.intro hk (And.intro hkv2 hsz)))))))
          clear hm hown hX hne hb hk hkr hko hkv2
          go_upto_region 10 with fail
          have hr3 := R.out.2.1.alloc (.cells #[.int .i64 k.prod, .int .u8 (k.byte : Int), .slice ka2 k.kids.length kc2] 76)
          have hK3 : Blk (wr.alloc (.cells #[.int .i64 k.prod, .int .u8 (k.byte : Int), .slice ka2 k.kids.length kc2] 76)) wr.heap.size 76 #[.int .i64 k.prod, .int .u8 (k.byte : Int), .slice ka2 k.kids.length kc2] := Blk.new _ _ _
          have hX3 := R.out.2.2.1.alloc (.cells #[.int .i64 k.prod, .int .u8 (k.byte : Int), .slice ka2 k.kids.length kc2] 76)
          have hb3 := R.out.2.2.2.2.1.alloc hsz (.cells #[.int .i64 k.prod, .int .u8 (k.byte : Int), .slice ka2 k.kids.length kc2] 76)
          generalize (wr.alloc (.cells #[.int .i64 k.prod, .int .u8 (k.byte : Int), .slice ka2 k.kids.length kc2] 76)) = w3 at hr3 hK3 hX3 hb3 ⊢
          have t0 := hK3.cell 0
          have t1 := hK3.cell 1
          have t2 := hK3.cell 2
          have x3 := hX3.cell 3
          simp at t0 t1 t2 x3
          have hsz3 := hb3.size
          have hxl := hX3.lt
          have R3 := Lib.hid (And.intro hr3 (And.intro hX3 hb3))
          clear hr3 hK3 hX3 hb3 c0 c1 c2
          obtain ⟨i0, hi, hz0, hz1, hz2⟩ := info_parts infoAt
          go_wp2_with (at_builtin; go_loud (refine wpList_append_ownF _ rfl _ _ 161 rfl w.heap.size 160 i0 (.agg #[.int .i64 0, .int .u8 0, .slice none 0 0, .int .i64 0]) 4 48 Tryz.underlying161 hi hz0 hz1 hz2 rfl (by decide) _ (lN + i) _ rfl (R3.out.1.alloc _) ⟨w3.heap.size, 0, none⟩ 1 1 [.int .i64 k.prod, .int .u8 (k.byte : Int), .slice ka2 k.kids.length kc2, .int .i64 ((xn : Int) + 1)] rfl rfl ?c1 ?c2 ?c3 ?c4 ?c5 ?_))
          case c1 => exact cells_new w3 _ _
          case c2 => intro u hu; simp at hu; rcases hu with rfl | rfl | rfl | rfl <;> rfl
          case c3 => unfold maxLen; omega
          case c4 => omega
          case c5 => simp; omega
          intro v' w5 hown5 hg5 hfr5
          have hX5 := (R3.out.2.1.alloc _).grown hg5 (by intro e; exact R.out.2.2.2.1 xb e.symm rfl)
          have hb5 := (R3.out.2.2.alloc hsz3 (.cells #[.int .i64 k.prod, .int .u8 (k.byte : Int), .slice ka2 k.kids.length kc2, .int .i64 ((xn : Int) + 1)] 160)).grown hg5 (by simp; omega) (fun b hb => (R.out.2.1.lt b hb).1)
          have hne5 : ∀ b, v'.ownBlock = some b → b ≠ xb := fun b hb => by
            rcases hfr5 b hb with h | h
            · exact R.out.2.2.2.1 b h
            · first | omega | (simp at h; omega)
          have R5 := Lib.hid (And.intro hown5 (And.intro hX5 (And.intro hne5 hb5)))
          clear hown5 hX5 hb5 hne5 hg5 hfr5
          go_wp2_with fail
          go_roundg (kl - (i + 1))
          case measure => have := R.out.1; omega
          case rel =>
            refine ⟨i + 1, by omega, rfl, rfl, ?_, R5.out.2.1, R5.out.2.2.1, R5.out.2.2.2⟩
            have h1 := R5.out.1
            have e : L ++ (xt.kids.take (i + 1)).map (·, xn + 1) = (L ++ (xt.kids.take i).map (·, xn + 1)) ++ [(k, xn + 1)] := by
              rw [List.take_add_one, R.out.2.2.2.2.2.1]; simp
            have e2 : encAt (k, xn + 1) = [.int .i64 k.prod, .int .u8 (k.byte : Int), .slice ka2 k.kids.length kc2, .int .i64 ((xn : Int) + 1)] := by
              unfold encAt; rw [R.out.2.2.2.2.2.2.1]; rfl
            rw [← List.map_take] at h1
            rw [e, ← flatK_snoc, e2]
            exact h1
        · obtain rfl : i = kl := by omega
          have R := Lib.hid (And.intro hown hb)
          clear hm hown hX hne hb
          go_wp2_with fail
          go_roundg (todoN (L ++ xt.kids.map (·, xn + 1)))
          case measure =>
            have h1 := A.out.1
            have h2 := A.out.2.2.2.2.2.2.2.2.2.1
            have h3 := nodes_kids xt
            unfold todoN at h1 h2 ⊢
            rw [List.map_append, nodesL_append, List.map_map]
            rw [show (Prod.fst ∘ fun x : Tr => (x, xn + 1)) = id from rfl, List.map_id]
            omega
          case rel =>
            have hkk : xt.kids.take i = xt.kids := List.take_of_length_le (by have := A.out.2.2.2.2.2.2.2.2.2.2.1; omega)
            have hsm : todoN (L ++ xt.kids.map (·, xn + 1)) = todoN L + nodesL xt.kids := by
              unfold todoN
              rw [List.map_append, nodesL_append, List.map_map]
              rw [show (Prod.fst ∘ fun x : Tr => (x, xn + 1)) = id from rfl, List.map_id]
            refine ⟨L ++ xt.kids.map (·, xn + 1), max n xn, rfl, ?_, rfl, ?_, ⟨?_, fun x hx => ?_, R.out.2⟩⟩
            · have h1 := A.out.2.1
              have h2 := A.out.2.2.2.2.2.2.2.2.2.1
              have h3 := nodes_kids xt
              omega
            · have h1 := A.out.2.2.1
              have h2 := A.out.2.2.2.2.2.2.2.1
              have h3 := nodes_pos xt
              omega
            · have h1 := R.out.1
              rw [hkk] at h1
              have : (L ++ xt.kids.map (·, xn + 1)).length = lN + i := by rw [List.length_append, List.length_map, A.out.2.2.2.2.2.2.2.2.2.2.1, A.out.2.2.2.2.2.2.2.2.2.2.2.2]
              rw [this]
              exact h1
            · rcases List.mem_append.1 hx with hx | hx
              · exact A.out.2.2.2.2.1 x (List.mem_append_left _ hx)
              · obtain ⟨k, hk, rfl⟩ := List.mem_map.1 hx
                refine ⟨A.out.2.2.2.2.2.2.1.out.2.2.2 k hk, ?_⟩
                have h1 := nodesL_mem hk
                have h2 := nodes_kids xt
                have h3 := A.out.2.2.2.2.2.2.2.1
                simp only
                omega
end Go.Proofs.YtknpkndiflodbaaGreatDoor.Tb
