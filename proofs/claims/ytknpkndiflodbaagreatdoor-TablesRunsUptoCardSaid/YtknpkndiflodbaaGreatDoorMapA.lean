/-
  A MAP OF THE CALL's OWN, SAID KEY BY KEY: block b is a map; at a key there stands a value, or nothing.
  A MAP OF THE CALL's OWN WHOSE KEYS ARE ARRAYS: 'm[k]++' in two operations; what a key of four words reads as.
-/
import Derived.Maps.OwnSet
import Derived.Maps.OwnOps
import Derived.OwnWalkIn
import Derived.Test.YtknpkndiflodbaaGreatDoorRowsA
import Derived.WideKeyArr2
import Derived.WideKeyEntry
import Derived.DeepKeys4
set_option linter.unusedVariables false
set_option linter.unusedSimpArgs false
namespace Go.Proofs.YtknpkndiflodbaaGreatDoor.Mx
open Go Go.RowKit Go.Maps

/-- Elements as they stand. -/
def asIs (v : Value) : Option (DataW Value × List MemPlace) := some (.held v, [])
/-- Block b is a map of at most n entries; f: what stands at a key (by what the key reads as). -/
def MapV (P : Program) (k : TypeId) (w : World) (b n : Nat) (f : Lit → Option Value) : Prop :=
  ∃ D : DataW Value, w.ownsMap P k asIs b n D ∧ ∀ l, (∃ v, keyOf P k v = some l) → Maps.has D l = (f l).isSome ∧ ∀ z, D.atKey l (.held z) = .held ((f l).getD z)
section
variable {P : Program} {k : TypeId} {w w' : World} {b n : Nat} {f : Lit → Option Value}
theorem MapV.made (w : World) (P : Program) (k : TypeId) : MapV P k (w.alloc (.map #[] 0)) w.heap.size 0 (fun _ => none) :=
  ⟨.map [], World.ownsMap_made w P k asIs, fun l _ => ⟨rfl, fun z => rfl⟩⟩
theorem MapV.of_block (h : MapV P k w b n f) (e : w'.heap[b]? = w.heap[b]?) : MapV P k w' b n f := by
  obtain ⟨D, ⟨es, clock, hb, F, hs, hD⟩, hf⟩ := h
  exact ⟨D, ⟨es, clock, e.trans hb, F, hs, hD⟩, hf⟩
theorem MapV.lt (h : MapV P k w b n f) : b < w.heap.size := by obtain ⟨D, hD, _⟩ := h; exact hD.lt
theorem MapV.mono (h : MapV P k w b n f) {m : Nat} (hm : n ≤ m) : MapV P k w b m f := by obtain ⟨D, hD, hf⟩ := h; exact ⟨D, hD.mono hm, hf⟩
theorem MapV.alloc (h : MapV P k w b n f) (o : Obj) : MapV P k (w.alloc o) b n f := h.of_block (Below.heap_alloc w o b h.lt)
theorem MapV.drew (h : MapV P k w b n f) : MapV P k w.drew b n f := h
theorem MapV.drewN (h : MapV P k w b n f) (m : Nat) : MapV P k (w.drewN m) b n f := h
theorem MapV.below {B : Nat} (h : MapV P k w b n f) (hb : Below B w w') (hB : b < B) : MapV P k w' b n f := h.of_block (hb.block b hB)
theorem MapV.grown {row : Option Nat} (h : MapV P k w b n f) (hb : w.grownBy w' row) (hne : some b ≠ row) : MapV P k w' b n f := h.of_block (hb.block b h.lt hne)
theorem MapV.setCell (h : MapV P k w b n f) {p : Addr} (hp : b ≠ p.block) (u : Value) : MapV P k (w.setCell p u) b n f := h.of_block (Below.heap_setCell w p u b hp)
theorem MapV.ext (h : MapV P k w b n f) {g : Lit → Option Value} (e : ∀ l, (∃ v, keyOf P k v = some l) → f l = g l) : MapV P k w b n g := by
  obtain ⟨D, hD, hf⟩ := h
  exact ⟨D, hD, fun l hl => by rw [← e l hl]; exact hf l hl⟩

theorem asIs_inv {v : Value} {d : DataW Value} {ps : List MemPlace} (h : asIs v = some (d, ps)) : d = .held v := by
  simp [asIs] at h; exact h.1.symm

theorem MapV.lookup {t e : TypeId} (h : MapV P k w b n f) (K : Keyed P k) (ht : P.underlying t = some (.map k e)) {z : Value} (hz : (zeroValue e).run P w = .ok z w)
    {key : Value} {kl : Lit} (hkey : keyOf P k key = some kl) : (Instr.lookup t (.map (some b)) key false).run P w = .ok ((f kl).getD z) w := by
  obtain ⟨D, hD, hf⟩ := h
  obtain ⟨v, ps, hrun, hv⟩ := hD.lookup K ht hz (zd := .held z) (zp := []) rfl hkey
  have h1 := asIs_inv hv
  rw [(hf kl ⟨key, hkey⟩).2 z] at h1
  injection h1 with h1
  rw [h1]; exact hrun
theorem MapV.look_ok {t e : TypeId} (h : MapV P k w b n f) (K : Keyed P k) (ht : P.underlying t = some (.map k e)) {z : Value} (hz : (zeroValue e).run P w = .ok z w)
    {key : Value} {kl : Lit} (hkey : keyOf P k key = some kl) : (Instr.lookup t (.map (some b)) key true).run P w = .ok (.tuple #[(f kl).getD z, .bool (f kl).isSome]) w := by
  obtain ⟨D, hD, hf⟩ := h
  obtain ⟨v, ps, hrun, hv⟩ := hD.look_ok K ht hz (zd := .held z) (zp := []) rfl hkey
  have h1 := asIs_inv hv
  rw [(hf kl ⟨key, hkey⟩).2 z] at h1
  injection h1 with h1
  rw [h1, ← (hf kl ⟨key, hkey⟩).1]; exact hrun
/-- What stands at a key, once a value was put there. -/
def putV (f : Lit → Option Value) (kl : Lit) (v : Value) : Lit → Option Value := fun l => if l.sameKey kl then some v else f l
theorem putV_same (f : Lit → Option Value) {kl : Lit} (v : Value) (hk : WideAt.IsKeyLit kl) : putV f kl v kl = some v := by simp [putV, WideAt.sameKey_self hk]
theorem putV_other (f : Lit → Option Value) {kl l : Lit} (v : Value) (h : l ≠ kl) : putV f kl v l = f l := by simp [putV, Maps.sameKey_ne h]
theorem putV_int (f : Lit → Option Value) (q : IntKind) (a b : Int) (v : Value) : putV f (.int q a) v (.int q b) = if b = a then some v else f (.int q b) := by simp [putV, Lit.sameKey]
theorem putV_string (f : Lit → Option Value) (a b : List UInt8) (v : Value) : putV f (.string a) v (.string b) = if b = a then some v else f (.string b) := by simp [putV, Lit.sameKey]
theorem MapV.put {D : DataW Value} (hm : IsMap D) (K : Keyed P k) {kl : Lit} {key : Value} (hkey : keyOf P k key = some kl) (v : Value)
    (hf : ∀ l, (∃ v, keyOf P k v = some l) → Maps.has D l = (f l).isSome ∧ ∀ z, D.atKey l (.held z) = .held ((f l).getD z)) :
    ∀ l, (∃ v, keyOf P k v = some l) → Maps.has (D.put kl (.held v)) l = (putV f kl v l).isSome ∧ ∀ z, (D.put kl (.held v)).atKey l (.held z) = .held ((putV f kl v l).getD z) := by
  intro l hl
  have hik := K.key hkey
  by_cases e : l = kl
  · subst e
    rw [putV_same _ _ hik]
    exact ⟨has_put_same hm hik _, fun z => atKey_put_same hm hik _ _⟩
  · rw [putV_other _ _ e]
    exact ⟨by rw [has_put_other e]; exact (hf l hl).1, fun z => by rw [atKey_put_other e]; exact (hf l hl).2 z⟩
theorem MapV.update {t e : TypeId} (h : MapV P k w b n f) (K : Keyed P k) (ht : P.underlying t = some (.map k e)) (hn : n < maxLen) {key val : Value} {kl : Lit}
    (hkey : keyOf P k key = some kl) : ∃ w', (Instr.mapUpdate t (.map (some b)) key val).run P w = .ok () w' ∧ MapV P k w' b (n + 1) (putV f kl val) ∧ w.grownBy w' (some b) := by
  obtain ⟨D, hD, hf⟩ := h
  obtain ⟨w', hrun, h1, h2⟩ := hD.update K ht hn hkey (val := val) (d := .held val) (ps := []) rfl
  exact ⟨w', hrun, ⟨_, h1, MapV.put hD.isMap K hkey val hf⟩, h2⟩
end
section
variable {P : Program} (w : World) {ops : Array Oper} {rest : List Oper} {o : Oper} {a : Act} {Q : Exit → Act → World → Prop}
/-- 'm[k]'. -/
theorem wpList_lookupV (hg : o.guard = none) (m x : Operand) (t : TypeId) (hop : o.op = Op.lookup t m x false)
    (k e : TypeId) (K : Keyed P k) (ht : P.underlying t = some (.map k e)) (z : Value) (hz : (zeroValue e).run P w = .ok z w) (b n : Nat) (f : Lit → Option Value)
    (hm : a.eval m = .map (some b)) (hown : MapV P k w b n f) (key : Value) (kl : Lit) (hx : a.eval x = key) (hkey : keyOf P k key = some kl)
    (hK : wpList P ops Q rest (a.put o.dst ((f kl).getD z)) w) :
    wpList P ops Q (o :: rest) a w := by
  refine wpList_plain hg fun K' hK' => ?_
  unfold Oper.wp
  simp [execOp, hop, hm, hx, hown.lookup K ht hz hkey, Result.andThen]
  exact hK' _ _ hK
/-- 'v, ok := m[k]'. -/
theorem wpList_lookupV_ok (hg : o.guard = none) (m x : Operand) (t : TypeId) (hop : o.op = Op.lookup t m x true)
    (k e : TypeId) (K : Keyed P k) (ht : P.underlying t = some (.map k e)) (z : Value) (hz : (zeroValue e).run P w = .ok z w) (b n : Nat) (f : Lit → Option Value)
    (hm : a.eval m = .map (some b)) (hown : MapV P k w b n f) (key : Value) (kl : Lit) (hx : a.eval x = key) (hkey : keyOf P k key = some kl)
    (hK : wpList P ops Q rest (a.put o.dst (.tuple #[(f kl).getD z, .bool (f kl).isSome])) w) :
    wpList P ops Q (o :: rest) a w := by
  refine wpList_plain hg fun K' hK' => ?_
  unfold Oper.wp
  simp [execOp, hop, hm, hx, hown.look_ok K ht hz hkey, Result.andThen]
  exact hK' _ _ hK
/-- 'm[k] = v'. -/
theorem wpList_mapUpdateV (hg : o.guard = none) (m x v : Operand) (t : TypeId) (hop : o.op = Op.mapUpdate t m x v)
    (k e : TypeId) (K : Keyed P k) (ht : P.underlying t = some (.map k e)) (b n : Nat) (f : Lit → Option Value)
    (hm : a.eval m = .map (some b)) (hown : MapV P k w b n f) (hn : n < maxLen) (key val : Value) (kl : Lit) (hx : a.eval x = key) (hv : a.eval v = val) (hkey : keyOf P k key = some kl)
    (hK : ∀ w', MapV P k w' b (n + 1) (putV f kl val) → w.grownBy w' (some b) → wpList P ops Q rest (a.put o.dst undef) w') :
    wpList P ops Q (o :: rest) a w := by
  refine wpList_plain hg fun K' hK' => ?_
  obtain ⟨w', hrun, r1, r2⟩ := hown.update K ht hn hkey (val := val)
  unfold Oper.wp
  simp [execOp, hop, hm, hx, hv, hrun, Result.andThen]
  exact hK' _ _ (hK w' r1 r2)
end
section
variable {P : Program} (w : World)
/-- 'm[k] = v', the operation alone. -/
theorem wp_mapUpdateV {o : Oper} {a : Act} {K' : Act → World → Prop} {Q : Exit → Act → World → Prop} (m x v : Operand) (t : TypeId) (hop : o.op = Op.mapUpdate t m x v)
    (k e : TypeId) (K : Keyed P k) (ht : P.underlying t = some (.map k e)) (b n : Nat) (f : Lit → Option Value)
    (hm : a.eval m = .map (some b)) (hown : MapV P k w b n f) (hn : n < maxLen) (key val : Value) (kl : Lit) (hx : a.eval x = key) (hv : a.eval v = val) (hkey : keyOf P k key = some kl)
    (hK : ∀ w', MapV P k w' b (n + 1) (putV f kl val) → w.grownBy w' (some b) → K' (a.put o.dst undef) w') : o.wp P a w K' Q := by
  obtain ⟨w', hrun, r1, r2⟩ := hown.update K ht hn hkey (val := val)
  unfold Oper.wp
  simp [execOp, hop, hm, hx, hv, hrun, Result.andThen]
  exact hK w' r1 r2
end
section
variable {F : Fence} {nF : Nat} {P : Program} (w : World) {ops : Array Oper} {rest : List Oper} {o : Oper} {a : Act} {Q : Exit → Act → World → Prop}
/-- 'm[k]'. -/
theorem wpListIn_lookupV (hg : o.guard = none) (m x : Operand) (t : TypeId) (hop : o.op = Op.lookup t m x false)
    (k e : TypeId) (K : Keyed P k) (ht : P.underlying t = some (.map k e)) (z : Value) (hz : (zeroValue e).run P w = .ok z w) (b n : Nat) (f : Lit → Option Value)
    (hm : a.eval m = .map (some b)) (hown : MapV P k w b n f) (key : Value) (kl : Lit) (hx : a.eval x = key) (hkey : keyOf P k key = some kl)
    (hK : wpListIn F nF P ops Q rest (a.put o.dst ((f kl).getD z)) w) :
    wpListIn F nF P ops Q (o :: rest) a w := by
  refine wpListIn_plain hg fun K' hK' => ?_
  unfold Oper.wpIn
  refine ⟨by simp [Oper.about, hop], ?_⟩
  rw [Oper.semAt_plain F _ _ (by rw [hop]; intro c hc'; cases hc')]
  simp [execOp, hop, hm, hx, hown.lookup K ht hz hkey, Result.andThen]
  exact hK' _ _ hK
/-- 'v, ok := m[k]'. -/
theorem wpListIn_lookupV_ok (hg : o.guard = none) (m x : Operand) (t : TypeId) (hop : o.op = Op.lookup t m x true)
    (k e : TypeId) (K : Keyed P k) (ht : P.underlying t = some (.map k e)) (z : Value) (hz : (zeroValue e).run P w = .ok z w) (b n : Nat) (f : Lit → Option Value)
    (hm : a.eval m = .map (some b)) (hown : MapV P k w b n f) (key : Value) (kl : Lit) (hx : a.eval x = key) (hkey : keyOf P k key = some kl)
    (hK : wpListIn F nF P ops Q rest (a.put o.dst (.tuple #[(f kl).getD z, .bool (f kl).isSome])) w) :
    wpListIn F nF P ops Q (o :: rest) a w := by
  refine wpListIn_plain hg fun K' hK' => ?_
  unfold Oper.wpIn
  refine ⟨by simp [Oper.about, hop], ?_⟩
  rw [Oper.semAt_plain F _ _ (by rw [hop]; intro c hc'; cases hc')]
  simp [execOp, hop, hm, hx, hown.look_ok K ht hz hkey, Result.andThen]
  exact hK' _ _ hK
/-- 'm[k] = v'. -/
theorem wpListIn_mapUpdateV (hg : o.guard = none) (m x v : Operand) (t : TypeId) (hop : o.op = Op.mapUpdate t m x v)
    (k e : TypeId) (K : Keyed P k) (ht : P.underlying t = some (.map k e)) (b n : Nat) (f : Lit → Option Value)
    (hm : a.eval m = .map (some b)) (hown : MapV P k w b n f) (hn : n < maxLen) (key val : Value) (kl : Lit) (hx : a.eval x = key) (hv : a.eval v = val) (hkey : keyOf P k key = some kl)
    (hK : ∀ w', MapV P k w' b (n + 1) (putV f kl val) → w.grownBy w' (some b) → wpListIn F nF P ops Q rest (a.put o.dst undef) w') :
    wpListIn F nF P ops Q (o :: rest) a w := by
  refine wpListIn_plain hg fun K' hK' => ?_
  obtain ⟨w', hrun, r1, r2⟩ := hown.update K ht hn hkey (val := val)
  unfold Oper.wpIn
  refine ⟨by simp [Oper.about, hop], ?_⟩
  rw [Oper.semAt_plain F _ _ (by rw [hop]; intro c hc'; cases hc')]
  simp [execOp, hop, hm, hx, hv, hrun, Result.andThen]
  exact hK' _ _ (hK w' r1 r2)
end
end Go.Proofs.YtknpkndiflodbaaGreatDoor.Mx
set_option linter.unusedVariables false
namespace Go.Proofs.YtknpkndiflodbaaGreatDoor.Mx
open Go Go.RowKit Go.Maps Go.WideMaps
section
variable {P : Program} {k e t : TypeId} {w w' : World} {b n : Nat} {f : Lit → Option Value}
theorem setBlock_twice (w : World) (b : Nat) (o o' : Obj) : ChangeMaps.setBlock (ChangeMaps.setBlock w b o) b o' = ChangeMaps.setBlock w b o' := by
  simp [ChangeMaps.setBlock]
theorem MapV.entry (h : MapV P k w b n f) (K : KeyLaw P k) (ht : P.underlying t = some (.map k e)) {z : Value} (hz : ∀ u : World, (zeroValue e).run P u = .ok z u) (hn : n < maxLen) {key : Value} {kl : Lit}
    (hkey : keyOf P k key = some kl) : ∃ (v0 : Value) (st : Int) (w1 : World), (Instr.mapEntry t (.map (some b)) key).run P w = .ok (.tuple #[v0, .int .i64 st]) w1 ∧ (∀ a : Addr, a.block ≠ b → w1.cell? a = w.cell? a) ∧
      ∀ val, ∃ w2, (Instr.entryStore t (.map (some b)) (.int .i64 st) val).run P w1 = .ok () w2 ∧ MapV P k w2 b (n + 1) (putV f kl val) ∧ w.grownBy w2 (some b) := by
  obtain ⟨D, ⟨es, clock, hb, F, hs, hD⟩, hf⟩ := h
  obtain ⟨v0, st, es1, clock1, h1, _, h2⟩ := WideElems.entry_then_store (R := asIs) K ht hz hb F hkey
  refine ⟨v0, st, _, h1, fun a ha => ?_, fun val => ?_⟩
  · apply World.cell?_of_block
    show (w.heap.setIfInBounds b _)[a.block]? = _
    rw [Array.getElem?_setIfInBounds_ne (Ne.symm ha)]
  · have hlt : b < w.heap.size := (Array.getElem?_eq_some_iff.1 hb).1
    obtain ⟨es', clock', h3, h4⟩ := h2 (ChangeMaps.setBlock w b (.map es1 clock1)) val (by simp [ChangeMaps.setBlock, hlt])
    rw [setBlock_twice] at h3
    obtain ⟨w', hrun, hm, hg⟩ := MapV.update (P := P) (k := k) (w := w) (b := b) (n := n) (f := f) ⟨D, ⟨es, clock, hb, F, hs, hD⟩, hf⟩ (Keyed.of_law K) ht hn (val := val) hkey
    rw [hrun] at h4
    injection h4 with _ h4
    subst h4
    exact ⟨_, h3, hm, hg⟩
/-- Behind the first of the two operations the look-up yields what it yielded. -/
theorem MapV.entry_look (h : MapV P k w b n f) (K : KeyLaw P k) (ht : P.underlying t = some (.map k e)) {z : Value} (hz : ∀ u : World, (zeroValue e).run P u = .ok z u) (hn : n < maxLen) {key : Value} {kl : Lit}
    (hkey : keyOf P k key = some kl) {v : Value} {w1 : World} (hrun : (Instr.mapEntry t (.map (some b)) key).run P w = .ok v w1) :
    (Instr.lookup t (.map (some b)) key false).run P w1 = .ok ((f kl).getD z) w1 := by
  have hM := h
  obtain ⟨D, ⟨es, clock, hb, F, hs, hD⟩, hf⟩ := h
  have hlt : b < w.heap.size := (Array.getElem?_eq_some_iff.1 hb).1
  have hl := hM.lookup (Keyed.of_law K) ht (hz w) hkey
  rcases K.find w hkey es.toList F.keys with ⟨h1, h2⟩ | ⟨j, e0, h1, h2, h3⟩
  · have e1 : (f kl).getD z = z := by
      simp [Instr.lookup, run_underlying ht, MapKept.run_getObj_map hb, K.check w es.isEmpty hkey, h1, hz, Result.andThen] at hl
      exact hl.symm
    obtain ⟨w2, hu, hm2, _⟩ := hM.update (Keyed.of_law K) ht hn (val := z) hkey
    have e2 : w1 = w2 := by
      simp [Instr.mapEntry, run_underlying ht, MapKept.run_getObj_map hb, K.check w false hkey, h1, hz, MapKept.run_setObj_map _ hb, Result.andThen, ChangeMaps.setBlock] at hrun
      simp [Instr.mapUpdate, run_underlying ht, MapKept.run_getObj_map hb, K.check w false hkey, h1, MapKept.run_setObj_map _ hb, Result.andThen, ChangeMaps.setBlock] at hu
      rw [← hrun.2, ← hu]
    subst e2
    have hl2 := hm2.lookup (Keyed.of_law K) ht (hz w1) hkey
    rw [putV_same _ _ (Keyed.of_law K |>.key hkey)] at hl2
    rw [e1]
    exact hl2
  · have hj : es[j]? = some e0 := by simpa using h2
    have hsame : es.modify j (fun e => { e with key := key }) = es := by
      apply Array.ext'
      rw [Array.toList_modify, ChangeMaps.modify_eq_set _ _ _ _ h2]
      have : ({ e0 with key := key } : MapEntry) = e0 := by rw [← h3]
      rw [this]
      exact WideElems.set_self _ _ _ h2
    have e2 : w1 = ChangeMaps.setBlock w b (.map es clock) := by
      simp [Instr.mapEntry, run_underlying ht, MapKept.run_getObj_map hb, K.check w false hkey, h1, hj, h3, K.stays w hkey, hsame, MapKept.run_setObj_map _ hb, Result.andThen, ChangeMaps.setBlock] at hrun
      rw [← hrun.2]; rfl
    have e3 : w1.heap[b]? = w.heap[b]? := by rw [e2, hb]; simp [ChangeMaps.setBlock, hlt]
    exact (hM.of_block e3).lookup (Keyed.of_law K) ht (hz w1) hkey
/-- What an array of four integers reads as, for a key. -/
theorem keyOf_arr4 {q : IntKind} (A : ArrKey P k e 4) (he : P.underlying e = some (.int q)) (hsz : ∃ m, P.types.size = m + 1) {x0 x1 x2 x3 : Int} (h0 : (Lit.int q x0).wf = true) (h1 : (Lit.int q x1).wf = true) (h2 : (Lit.int q x2).wf = true) (h3 : (Lit.int q x3).wf = true) :
    keyOf P k (.agg #[.int q x0, .int q x1, .int q x2, .int q x3]) = some (.string (keyBytes [.int q x0, .int q x1, .int q x2, .int q x3])) := by
  have hkt := A.keyType hsz
  obtain ⟨m0, hm0⟩ := hsz
  unfold keyOf
  simp only [A.hu]
  rw [if_pos (by simp [hkt, Value.formed, A.hu, A.size]), hm0]
  unfold Program.keyLits
  simp only [A.hu, Value.cells]
  rw [if_pos (by rw [A.size]; rfl), A.one]
  simp [List.range_succ, Program.keyLits, he, h0, h1, h2, h3]
end
end Go.Proofs.YtknpkndiflodbaaGreatDoor.Mx
