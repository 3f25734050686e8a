/- Walks and plain laws that the last text stands on: RowsA, TbMem. -/
import Derived.WalkKit
import Derived.WalkSpells
import Derived.WalkLawsBesides
import Derived.Handy
import Derived.Lib.Hide
import Derived.LoopTactic
import Derived.Deep.QuietTactic
import Derived.BigQuiet
import Derived.Deep.LoopGhost
import Derived.Lib.BufferRead
import Derived.Laws.AppendOwn
import Derived.Deep.AppendLies
import Derived.Laws.IdiomCopy
import Derived.Lib.SliceRun
import Derived.OwnWalkIn
import Derived.StillTail
import Derived.Test.YtknpkndiflodbaaGreatDoorProg
import Derived.Test.YtknpkndiflodbaaGreatDoorTs1
set_option linter.unusedVariables false
set_option linter.unusedSimpArgs false
set_option maxRecDepth 100000
set_option maxHeartbeats 16000000
namespace Go.Proofs.YtknpkndiflodbaaGreatDoor.Mx
structure Held (p : Prop) : Prop where
 out : p
theorem via {G : Prop} (P : Prop) (f : Held P -> G) (h : P) : G := f ⟨h⟩
end Go.Proofs.YtknpkndiflodbaaGreatDoor.Mx
namespace Go.Proofs.YtknpkndiflodbaaGreatDoor.Mx
open Go.RowKit

def Blk (w : World) (g : Nat) (t : TypeId) (cs : Array Value) : Prop := w.heap[g]? = some (.cells cs t (0, 0))
section
variable {w w' : World} {g : Nat} {t : TypeId} {cs : Array Value}
theorem Blk.lt (h : Blk w g t cs) : g < w.heap.size := by
 rcases Nat.lt_or_ge g w.heap.size with hlt | hge
 ·exact hlt
 ·unfold Blk at h; rw [Array.getElem?_eq_none hge] at h; cases h
theorem Blk.cell (h : Blk w g t cs) (i : Nat) : w.cell? ⟨g, i, none⟩ = cs[i]? := cell_of_row w g i cs t (0, 0) h
theorem Blk.frozen (h : Blk w g t cs) (i : Nat) : w.frozen? ⟨g, i, none⟩ = false := by
 unfold Blk at h
 simp [World.frozen?, h]
theorem Blk.new (w : World) (t : TypeId) (cs : Array Value) : Blk (w.alloc (.cells cs t)) w.heap.size t cs := heap_alloc_new w _
theorem Blk.new_ {w : World} {g : Nat} (h : w.heap.size = g) (t : TypeId) (cs : Array Value) : Blk (w.alloc (.cells cs t)) g t cs := h ▸ Blk.new w t cs
theorem Blk.drew (h : Blk w g t cs) : Blk w.drew g t cs := h
theorem Blk.drewN (h : Blk w g t cs) (n : Nat) : Blk (w.drewN n) g t cs := h
theorem Blk.alloc (h : Blk w g t cs) (o : Obj) : Blk (w.alloc o) g t cs := (Below.heap_alloc w o g h.lt).trans h
theorem Blk.set_ (h : Blk w g t cs) (i : Nat) (u : Value) : Blk (w.setCell ⟨g, i, none⟩ u) g t (cs.setIfInBounds i u) := by
 unfold Blk at h ⊢
 simp [World.setCell, Array.getElem?_modify, h]
theorem Blk.far (h : Blk w g t cs) {p : Addr} (hp : g ≠ p.block) (u : Value) : Blk (w.setCell p u) g t cs := (Below.heap_setCell w p u g hp).trans h
theorem Blk.below {B : Nat} (h : Blk w g t cs) (hb : Below B w w') (hg : g < B) : Blk w' g t cs := (hb.block g hg).trans h
theorem Blk.grown {row : Option Nat} (h : Blk w g t cs) (hb : w.grownBy w' row) (hg : some g ≠ row) : Blk w' g t cs := (hb.block g h.lt hg).trans h
end
theorem Blk.facts1 {w : World} {g : Nat} {t : TypeId} {v0 : Value} (h : Blk w g t #[v0]) : w.cell? ⟨g, 0, none⟩ = some v0 /\ (∀ i, w.frozen? ⟨g, i, none⟩ = false) :=
 ⟨h.cell 0, h.frozen⟩
theorem Blk.facts2 {w : World} {g : Nat} {t : TypeId} {v0 v1 : Value} (h : Blk w g t #[v0, v1]) : w.cell? ⟨g, 0, none⟩ = some v0 /\ w.cell? ⟨g, 1, none⟩ = some v1 /\ (∀ i, w.frozen? ⟨g, i, none⟩ = false) :=
 ⟨h.cell 0, h.cell 1, h.frozen⟩
theorem Blk.facts3 {w : World} {g : Nat} {t : TypeId} {v0 v1 v2 : Value} (h : Blk w g t #[v0, v1, v2]) : w.cell? ⟨g, 0, none⟩ = some v0 /\ w.cell? ⟨g, 1, none⟩ = some v1 /\ w.cell? ⟨g, 2, none⟩ = some v2 /\ (∀ i, w.frozen? ⟨g, i, none⟩ = false) :=
 ⟨h.cell 0, h.cell 1, h.cell 2, h.frozen⟩
theorem Blk.facts4 {w : World} {g : Nat} {t : TypeId} {v0 v1 v2 v3 : Value} (h : Blk w g t #[v0, v1, v2, v3]) : w.cell? ⟨g, 0, none⟩ = some v0 /\ w.cell? ⟨g, 1, none⟩ = some v1 /\ w.cell? ⟨g, 2, none⟩ = some v2 /\ w.cell? ⟨g, 3, none⟩ = some v3 /\ (∀ i, w.frozen? ⟨g, i, none⟩ = false) :=
 ⟨h.cell 0, h.cell 1, h.cell 2, h.cell 3, h.frozen⟩
theorem cell_alloc_ {w : World} {a : Addr} {v : Value} (h : w.cell? a = some v) (o : Obj) : (w.alloc o).cell? a = some v := by
 rw [World.cell?_alloc_lt w o a (World.block_lt_of_cell? w a h)]; exact h
theorem grown_drewN {a w : World} {row : Option Nat} (h : a.grownBy w row) (n : Nat) : a.grownBy (w.drewN n) row := ⟨h.os, h.tape, h.output, h.size, h.block⟩
theorem grown_set {a w : World} {g : Nat} (h : a.grownBy w (some g)) {p : Addr} (hp : p.block = g) (u : Value) : a.grownBy (w.setCell p u) (some g) :=
 ⟨h.os, h.tape, h.output, by simpa [World.setCell] using h.size, fun i hi hne => (Below.heap_setCell w p u i (by rintro rfl; exact hne (by rw [hp]))).trans (h.block i hi hne)⟩
theorem grown_alloc {a w : World} {row : Option Nat} (h : a.grownBy w row) (o : Obj) : a.grownBy (w.alloc o) row :=
 ⟨h.os, h.tape, h.output, Nat.le_trans h.size (by simp), fun i hi hne => (Below.heap_alloc w o i (Nat.lt_of_lt_of_le hi h.size)).trans (h.block i hi hne)⟩
theorem grown_refl (w : World) (row : Option Nat) : w.grownBy w row := ⟨rfl, rfl, rfl, Nat.le_refl _, fun _ _ _ => rfl⟩
theorem below_of_grown {B g : Nat} {w w' : World} (h : w.grownBy w' (some g)) (hB : B <= w.heap.size) (hg : B <= g) : Below B w w' :=
 ⟨h.os, h.tape, h.output, h.size, fun k hk => h.block k (by omega) (by intro e; injection e with e; omega)⟩
theorem below_drewN {B : Nat} {a w : World} (h : Below B a w) (n : Nat) : Below B a (w.drewN n) := ⟨h.os, h.tape, h.output, h.size, h.block⟩
end Go.Proofs.YtknpkndiflodbaaGreatDoor.Mx
namespace Go.Proofs.YtknpkndiflodbaaGreatDoor.Mx
open Go.RowKit Go.Lib

end Go.Proofs.YtknpkndiflodbaaGreatDoor.Mx
namespace Go.Proofs.YtknpkndiflodbaaGreatDoor.Mx
open Go Go.RowKit

section
variable {α : Type}
structure RowAt (enc : α -> List Value) (k : Nat) (w : World) (g o : Nat) (l : List α) : Prop where
 lt : g < w.heap.size
 cells : ∀ i x, l[i]? = some x -> ∀ j v, (enc x)[j]? = some v -> w.cell? ⟨g, o + i * k + j, none⟩ = some v
def OptK (D : Nat -> Prop) (enc : α -> List Value) (k : Nat) (w : World) (a : Option Addr) (l : List α) : Prop :=
 l ≠ [] -> ∃ g o, a = some ⟨g, o, none⟩ /\ D g /\ RowAt enc k w g o l
def SliceK (D : Nat -> Prop) (enc : α -> List Value) (k : Nat) (w : World) (v : Value) (l : List α) : Prop :=
 ∃ a cap, v = .slice a l.length cap /\ l.length <= cap /\ cap <= maxLen /\ OptK D enc k w a l
variable {D D' : Nat → Prop} {enc : α → List Value} {k : Nat} {w w' : World} {v : Value} {l : List α} {a : Option Addr}
theorem cell_same {g i : Nat} (e : w'.heap[g]? = w.heap[g]?) : w'.cell? ⟨g, i, none⟩ = w.cell? ⟨g, i, none⟩ := World.cell?_of_block e
theorem lt_same {g : Nat} (e : w'.heap[g]? = w.heap[g]?) (h : g < w.heap.size) : g < w'.heap.size := by
 rcases Nat.lt_or_ge g w'.heap.size with h1 | h1
 ·exact h1
 ·rw [Array.getElem?_eq_none h1, Array.getElem?_eq_getElem h] at e; cases e
theorem RowAt.same {g o : Nat} (h : RowAt enc k w g o l) (e : w'.heap[g]? = w.heap[g]?) : RowAt enc k w' g o l :=
 ⟨lt_same e h.lt, fun i x hx j u hu => (cell_same e).trans (h.cells i x hx j u hu)⟩
theorem OptK.keep (h : OptK D enc k w a l) (hD : ∀ g, D g -> g < w.heap.size -> D' g /\ w'.heap[g]? = w.heap[g]?) : OptK D' enc k w' a l := fun hl => by
 obtain ⟨g, o, e, hg, hr⟩ := h hl
 exact ⟨g, o, e, (hD g hg hr.lt).1, hr.same (hD g hg hr.lt).2⟩
theorem SliceK.keep (h : SliceK D enc k w v l) (hD : ∀ g, D g -> g < w.heap.size -> D' g /\ w'.heap[g]? = w.heap[g]?) : SliceK D' enc k w' v l := by
 obtain ⟨a, cap, e, h1, h2, h3⟩ := h
 exact ⟨a, cap, e, h1, h2, h3.keep hD⟩
theorem SliceK.imp (h : SliceK D enc k w v l) (hD : ∀ g, D g -> g < w.heap.size -> D' g) : SliceK D' enc k w v l := h.keep fun g hg hl => ⟨hD g hg hl, rfl⟩
theorem SliceK.all (h : SliceK D enc k w v l) (hb : Below w.heap.size w w') : SliceK D enc k w' v l := h.keep fun g hg hl => ⟨hg, hb.block g hl⟩
theorem OptK.at_ (h : OptK D enc k w a l) {i : Nat} (hi : i < l.length) : ∃ g o, a = some ⟨g, o, none⟩ /\ D g /\ g < w.heap.size /\ ∀ j u, (enc l[i])[j]? = some u -> w.cell? ⟨g, o + i * k + j, none⟩ = some u := by
 obtain ⟨g, o, e, hg, hr⟩ := h (by rintro rfl; exact absurd hi (by simp))
 exact ⟨g, o, e, hg, hr.lt, hr.cells i _ (List.getElem?_eq_getElem hi)⟩
theorem SliceK.nil : SliceK D enc k w (.slice none 0 0) ([] : List α) := ⟨none, 0, rfl, Nat.le_refl _, Nat.zero_le _, fun h => absurd rfl h⟩

def flatK (enc : α -> List Value) (l : List α) : List Value := l.flatMap enc
theorem flatK_cons (x : α) (l : List α) : flatK enc (x :: l) = enc x ++ flatK enc l := by simp [flatK]
theorem flatK_append (l m : List α) : flatK enc (l ++ m) = flatK enc l ++ flatK enc m := by simp [flatK]
theorem flatK_snoc (l : List α) (x : α) : flatK enc l ++ enc x = flatK enc (l ++ [x]) := by simp [flatK]
theorem flatK_len (hk : ∀ x, (enc x).length = k) : ∀ l : List α, (flatK enc l).length = l.length * k
 | [] => by simp [flatK]
 | x :: l => by rw [flatK_cons, List.length_append, hk, flatK_len hk l, List.length_cons, Nat.succ_mul, Nat.add_comm]
theorem flatK_get (hk : ∀ x, (enc x).length = k) : ∀ (l : List α) (i : Nat) (x : α) (j : Nat) (v : Value), l[i]? = some x -> (enc x)[j]? = some v -> (flatK enc l)[i * k + j]? = some v
 | [], i, x, j, v, h, _ => by simp at h
 | y :: l, 0, x, j, v, h, hv => by
  have : y = x := by simpa using h
  subst this
  rw [flatK_cons, Nat.zero_mul, Nat.zero_add, List.getElem?_append_left (List.getElem?_eq_some_iff.1 hv).1]
  exact hv
 | y :: l, i + 1, x, j, v, h, hv => by
  rw [flatK_cons, List.getElem?_append_right (by rw [hk, Nat.succ_mul]; omega), hk, show (i + 1) * k + j - k = i * k + j by rw [Nat.succ_mul]; omega]
  exact flatK_get hk l i x j v (by simpa using h) hv
theorem own_sliceK {B : Nat} {t : TypeId} (hk : ∀ x, (enc x).length = k) (h : w.ownsRow B t k v l.length (flatK enc l)) : SliceK (fun g => B <= g) enc k w v l := by
 have hc := fun g hg => h.cells (g := g) hg
 have hlt := h.lt
 rcases h.2 with ⟨rfl, h1⟩ | ⟨g, cap, cur, rfl, hg, hh, hn, hm, _⟩
 ·have : l = [] := List.eq_nil_of_length_eq_zero h1
  subst this
  exact SliceK.nil
 ·refine ⟨some ⟨g, 0, none⟩, cap, rfl, hn, hm, fun hl => ⟨g, 0, rfl, hg, (hlt g rfl).2, fun i x hx j u hu => ?_⟩⟩
  have := hc g rfl (i * k + j) u (flatK_get hk l i x j u hx hu)
  rw [show (⟨g, 0, none⟩ : Addr).add (i * k + j) = ⟨g, i * k + j, none⟩ by unfold Addr.add; split <;> simp_all] at this
  rw [Nat.zero_add]; exact this
def TyD (B : Nat) (t : TypeId) (w : World) (g : Nat) : Prop := B <= g /\ ∃ c fz, w.heap[g]? = some (.cells c t fz)
theorem TyD.low {B B' : Nat} {t : TypeId} {g : Nat} (h : TyD B t w g) (hB : B' <= B) : TyD B' t w g := ⟨Nat.le_trans hB h.1, h.2⟩
theorem TyD.same {B : Nat} {t : TypeId} {g : Nat} (h : TyD B t w g) (e : w'.heap[g]? = w.heap[g]?) : TyD B t w' g := ⟨h.1, by rw [e]; exact h.2⟩
theorem own_sliceT {B : Nat} {t : TypeId} (hk : ∀ x, (enc x).length = k) (h : w.ownsRow B t k v l.length (flatK enc l)) : SliceK (TyD B t w) enc k w v l := by
 obtain ⟨a, cap, e, h1, h2, h3⟩ := own_sliceK hk h
 refine ⟨a, cap, e, h1, h2, fun hl => ?_⟩
 obtain ⟨g, o, ea, hg, hr⟩ := h3 hl
 refine ⟨g, o, ea, ⟨hg, ?_⟩, hr⟩
 rcases h.2 with ⟨h4, h5⟩ | ⟨g', cap', cur, e', _, hh, _⟩
 ·exact absurd (List.eq_nil_of_length_eq_zero h5) hl
 ·rw [e] at e'
  injection e' with e1
  rw [ea] at e1
  injection e1 with e1
  injection e1 with e1
  subst e1
  exact ⟨cur, _, hh⟩
theorem SliceK.ty {B : Nat} {t : TypeId} (h : SliceK (TyD B t w) enc k w v l) (hb : ∀ g c fz, w.heap[g]? = some (.cells c t fz) -> B <= g -> w'.heap[g]? = w.heap[g]?) : SliceK (TyD B t w') enc k w' v l :=
 h.keep fun g hg _ => by
  obtain ⟨hB, c, fz, e⟩ := hg
  exact ⟨⟨hB, by rw [hb g c fz e hB]; exact ⟨c, fz, e⟩⟩, hb g c fz e hB⟩
theorem SliceK.tyBelow {B : Nat} {t : TypeId} (h : SliceK (TyD B t w) enc k w v l) (hb : Below w.heap.size w w') : SliceK (TyD B t w') enc k w' v l :=
 h.keep fun g hg hl => ⟨hg.same (hb.block g hl), hb.block g hl⟩
theorem SliceK.tyLow {B B' : Nat} {t : TypeId} (h : SliceK (TyD B t w) enc k w v l) (hB : B' <= B) : SliceK (TyD B' t w) enc k w v l := h.imp fun g hg _ => hg.low hB
end
end Go.Proofs.YtknpkndiflodbaaGreatDoor.Mx
namespace Go.Proofs.YtknpkndiflodbaaGreatDoor.Mx
open Go Go.RowKit

section
variable {w : World} {B : Nat} {e : TypeId} {size g n m cap : Nat} {xs : List Value}
theorem own_shape {w : World} {B : Nat} {e : TypeId} {size : Nat} {v : Value} {n : Nat} {xs : List Value} (h : w.ownsRow B e size v n xs) : ∃ a c, v = .slice a n c := by
 rcases h.2 with ⟨rfl, rfl⟩ | ⟨g, cap, cur, rfl, _⟩
 ·exact ⟨_, _, rfl⟩
 ·exact ⟨_, _, rfl⟩
theorem own_low {w : World} {B B' : Nat} {e : TypeId} {size : Nat} {v : Value} {n : Nat} {xs : List Value} (h : w.ownsRow B e size v n xs) (hB : B' <= B) : w.ownsRow B' e size v n xs := by
 refine ⟨h.1, ?_⟩
 rcases h.2 with h | ⟨g, cap, cur, hv, hg, hh, r⟩
 ·exact .inl h
 ·exact .inr ⟨g, cap, cur, hv, by omega, hh, r⟩
theorem own_some {w : World} {B : Nat} {e : TypeId} {size : Nat} {v : Value} {n : Nat} {xs : List Value} (h : w.ownsRow B e size v n xs) (hn : 0 < n) : ∃ g cap, v = .slice (some ⟨g, 0, none⟩) n cap /\ B <= g /\ n <= cap /\ cap <= maxLen := by
 rcases h.2 with ⟨_, h2⟩ | ⟨g, cap, cur, rfl, hg, _, h3, h4, _⟩
 ·omega
 ·exact ⟨g, cap, rfl, hg, h3, h4⟩
theorem row_below {w w' : World} {B : Nat} {e : TypeId} {z : Nat} {v : Value} {n : Nat} {xs : List Value} (h : w.ownsRow B e z v n xs) (hb : Below w.heap.size w w') : w'.ownsRow B e z v n xs :=
 h.kept (row := none) ⟨hb.os, hb.tape, hb.output, hb.size, fun k hk _ => hb.block k hk⟩ (by cases hv : v.ownBlock <;> simp)
theorem own_put (h : w.ownsRow B e size (.slice (some ⟨g, 0, none⟩) n cap) n xs) (i : Nat) (hi : i < n * size) (u : Value) :
  (w.setCell ⟨g, i, none⟩ u).ownsRow B e size (.slice (some ⟨g, 0, none⟩) n cap) n (xs.set i u) := by
 obtain ⟨h1, h2⟩ := h
 refine ⟨by simpa using h1, ?_⟩
 rcases h2 with ⟨h, _⟩ | ⟨g', cap', cur, hv, hB, hh, hn, hm, hs, ht⟩
 ·cases h
 ·injection hv with e1 e2 e3
  injection e1 with e1
  injection e1 with e1
  subst e1; subst e3
  refine .inr ⟨g, cap, cur.setIfInBounds i u, rfl, hB, ?_, hn, hm, by simpa using hs, ?_⟩
  ·simp [World.setCell, Array.getElem?_modify, hh]
  ·rw [Array.toList_setIfInBounds, List.take_set, ht]
theorem own_cut (h : w.ownsRow B e size (.slice (some ⟨g, 0, none⟩) n cap) n xs) (hmn : m <= n) :
  w.ownsRow B e size (.slice (some ⟨g, 0, none⟩) m cap) m (xs.take (m * size)) := by
 obtain ⟨h1, h2⟩ := h
 have hle : m * size <= n * size := Nat.mul_le_mul_right _ hmn
 refine ⟨by rw [List.length_take]; omega, ?_⟩
 rcases h2 with ⟨h, _⟩ | ⟨g', cap', cur, hv, hB, hh, hn, hm, hs, ht⟩
 ·cases h
 ·injection hv with e1 e2 e3
  injection e1 with e1
  injection e1 with e1
  subst e1; subst e3
  refine .inr ⟨g, cap, cur, rfl, hB, hh, by omega, hm, hs, ?_⟩
  rw [<- ht, List.take_take, Nat.min_eq_left hle]
theorem own_far (h : w.ownsRow B e size (.slice (some ⟨g, 0, none⟩) n cap) n xs) (i : Nat) (hi : n * size <= i) (u : Value) :
  (w.setCell ⟨g, i, none⟩ u).ownsRow B e size (.slice (some ⟨g, 0, none⟩) n cap) n xs := by
 obtain ⟨h1, h2⟩ := h
 refine ⟨h1, ?_⟩
 rcases h2 with ⟨h, _⟩ | ⟨g', cap', cur, hv, hB, hh, hn, hm, hs, ht⟩
 ·cases h
 ·injection hv with e1 e2 e3
  injection e1 with e1
  injection e1 with e1
  subst e1; subst e3
  refine .inr ⟨g, cap, cur.setIfInBounds i u, rfl, hB, ?_, hn, hm, by simpa using hs, ?_⟩
  ·simp [World.setCell, Array.getElem?_modify, hh]
  ·rw [Array.toList_setIfInBounds, List.take_set_of_le hi, ht]
end
theorem own_fresh (w : World) {B : Nat} (t : TypeId) (k n : Nat) (cs : Array Value) (hB : B <= w.heap.size) (hs : cs.size = n * k) (hn : n <= maxLen) : (w.alloc (.cells cs t)).ownsRow B t k (.slice (some ⟨w.heap.size, 0, none⟩) n n) n cs.toList := by
 refine ⟨by simpa using hs, .inr ⟨w.heap.size, n, cs, rfl, hB, heap_alloc_new w _, Nat.le_refl _, hn, hs, ?_⟩⟩
 rw [List.take_of_length_le (by simp; omega)]
theorem addr_add_ (g o j : Nat) : (⟨g, o, none⟩ : Addr).add j = ⟨g, o + j, none⟩ := by
 unfold Addr.add
 by_cases h : j = 0 <;> simp [h]
theorem own_fars {B : Nat} {e : TypeId} {size g n cap : Nat} {xs : List Value} : ∀ (vs : List Value) (o : Nat) (w : World), n * size <= o -> w.ownsRow B e size (.slice (some ⟨g, 0, none⟩) n cap) n xs ->
  (w.setCells g o vs).ownsRow B e size (.slice (some ⟨g, 0, none⟩) n cap) n xs
 | [], _, _, _, h => h
 | v :: vs, o, w, ho, h => own_fars vs (o + 1) _ (by omega) (own_far h o ho v)
theorem grown_sets {a : World} {g : Nat} : ∀ (vs : List Value) (o : Nat) (w : World), a.grownBy w (some g) -> a.grownBy (w.setCells g o vs) (some g)
 | [], _, _, h => h
 | v :: vs, o, w, h => grown_sets vs (o + 1) _ (grown_set (p := ⟨g, o, none⟩) h rfl v)
theorem run_clear_cells {P : Program} (w : World) (t e ty : TypeId) (z : Value) (ht : P.underlying t = some (.slice e)) (hv : ∀ w, (zeroValue e).run P w = .ok z w) (vs : List Value) (b o n c : Nat) (hn : 0 < n)
  (hz : (Builtin.zeroCells z.cells n).toList = vs) (h1 : ∀ u ∈ vs, u.oneCell' = true)
  (hc : ∀ j, j < vs.length -> (w.cell? ⟨b, o + j, none⟩).isSome = true) (hf : ∀ j, j < vs.length -> w.frozen? ⟨b, o + j, none⟩ = false) :
  (Builtin.clear_ #[t] ty #[.slice (some ⟨b, o, none⟩) n c]).run P w = .ok (.tuple #[]) (w.setCells b o vs) := by
 have hst := run_storeCells_cells (P := P) b o vs 0 w (by simpa using hc) (by simpa using hf) h1
 simp only [Nat.add_zero] at hst
 obtain ⟨m, rfl⟩ : ∃ m, n = m + 1 := ⟨n - 1, by omega⟩
 simp [Builtin.clear_, run_underlying ht, hv, hz, hst]
theorem zero_cells_len (c : Array Value) (n : Nat) : (Builtin.zeroCells c n).toList.length = n * c.size := by simp [Builtin.zeroCells]
theorem flatK_take {α : Type} {enc : α -> List Value} {k : Nat} (hk : ∀ x, (enc x).length = k) : ∀ (l : List α) (m : Nat), (flatK enc l).take (m * k) = flatK enc (l.take m)
 | [], m => by simp [flatK]
 | x :: l, 0 => by simp [flatK]
 | x :: l, m + 1 => by
  rw [flatK_cons, List.take_succ_cons, flatK_cons, <- flatK_take hk l m, Nat.succ_mul, Nat.add_comm (m * k) k, List.take_append, hk, Nat.add_sub_cancel_left, List.take_of_length_le (by rw [hk]; omega)]
end Go.Proofs.YtknpkndiflodbaaGreatDoor.Mx
namespace Go.Proofs.YtknpkndiflodbaaGreatDoor.Mx
open Go Go.RowKit
section
variable {P : Program} (w : World)
theorem run_append_ownF (base : Nat) (t ty e : TypeId) (i : TypeInfo) (z : Value) (size bytes : Nat) (ht : P.underlying t = some (.slice e)) (hi : P.info? e = some i) (hz : i.zero = some z)
  (hsize : i.size = size) (hby : i.bytes = bytes) (hzs : z.cells.size = size) (hsz : 0 < size)
  (v : Value) (n : Nat) (xs : List Value) (hown : w.ownsRow base e size v n xs)
  (a : Addr) (m c : Nat) (news : List Value) (hl : news.length = m * size) (hnews : ∀ j u, news[j]? = some u -> w.cell? (a.add j) = some u) (h1 : ∀ u ∈ news, u.oneCell' = true)
  (h63 : n + m <= maxLen) (hbytes : (n + m) * bytes <= 140737488355328) (hbase : base <= w.heap.size) :
  ∃ v' w', (Builtin.append_ #[t, t] ty #[v, .slice (some a) m c]).run P w = .ok v' w' /\ w'.ownsRow base e size v' (n + m) (xs ++ news) /\ w.grownBy w' v.ownBlock /\
   ∀ b, v'.ownBlock = some b -> v.ownBlock = some b ∨ w.heap.size <= b := by
 obtain ⟨v', w', hr, h2, h3, h4⟩ := run_append_own (P := P) w base t ty e i z size bytes ht hi hz hsize hby hzs hsz v n xs hown a m c news hl hnews h1 h63 hbytes hbase
 refine ⟨v', w', hr, h2, h3, ?_⟩
 rcases hown.2 with ⟨rfl, rfl⟩ | ⟨g, cap, cur, rfl, hbg, hg, hnc, hcm, hcs, htake⟩
 ·have hx : xs = [] := List.eq_nil_of_length_eq_zero (by simpa using hown.1)
  subst hx
  obtain ⟨v2, w2, hr2, k2, _, _⟩ := run_append_own (P := P) w w.heap.size t ty e i z size bytes ht hi hz hsize hby hzs hsz (.slice none 0 0) 0 [] (World.ownsRow_nil w _ e size) a m c news hl hnews h1 h63 hbytes (Nat.le_refl _)
  rw [hr] at hr2
  injection hr2 with e1 e2
  subst e1
  intro b hb
  exact .inr (k2.lt b hb).1
 ·by_cases hroom : n + m <= cap
  ·have hfit : n * i.size + news.length <= cur.size := by rw [hl, hcs, hsize, <- Nat.add_mul]; exact Nat.mul_le_mul_right _ hroom
   have hr2 := run_append_room (P := P) w t ty e i ht hi g n cap cur hg a m c news (by rw [hsize]; exact hl) hnews h1 hroom hfit
   rw [hr] at hr2
   injection hr2 with e1 e2
   subst e1
   intro b hb
   exact .inl hb
  ·have holds : ∀ j u, xs[j]? = some u -> w.cell? ((⟨g, 0, none⟩ : Addr).add j) = some u := hown.cells (g := g) rfl
   have hsmall : n + m <= 9223372036854775807 := by simp only [maxLen] at h63; omega
   have hr2 := run_append_grow (P := P) w t ty e i z ht hi hz ⟨g, 0, none⟩ n cap xs (by rw [hsize]; exact hown.1) holds a m c news (by rw [hsize]; exact hl) hnews (by omega) (by omega) (by rw [hby]; exact growslice_fits (by omega) hbytes)
   rw [hr] at hr2
   injection hr2 with e1 e2
   subst e1
   intro b hb
   simp [Value.ownBlock] at hb
   exact .inr (by omega)
theorem wpList_append_ownF {ops : Array Oper} {rest : List Oper} {o : Oper} {act : Act} {Q : Exit -> Act -> World -> Prop} (hgd : o.guard = none) (s x : Operand) (t : TypeId)
  (ho : o.op = .call { callee := .builtin .append, args := #[s, x], argTypes := #[t, t] })
  (base : Nat) (e : TypeId) (i : TypeInfo) (z : Value) (size bytes : Nat) (ht : P.underlying t = some (.slice e)) (hi : P.info? e = some i) (hz : i.zero = some z)
  (hsize : i.size = size) (hby : i.bytes = bytes) (hzs : z.cells.size = size) (hsz : 0 < size)
  (v : Value) (n : Nat) (xs : List Value) (hs : act.eval s = v) (hown : w.ownsRow base e size v n xs)
  (ad : Addr) (m c : Nat) (news : List Value) (hx : act.eval x = .slice (some ad) m c) (hl : news.length = m * size) (hnews : ∀ j u, news[j]? = some u -> w.cell? (ad.add j) = some u) (h1 : ∀ u ∈ news, u.oneCell' = true)
  (h63 : n + m <= maxLen) (hbytes : (n + m) * bytes <= 140737488355328) (hbase : base <= w.heap.size)
  (h : ∀ v' w', w'.ownsRow base e size v' (n + m) (xs ++ news) -> w.grownBy w' v.ownBlock -> (∀ b, v'.ownBlock = some b -> v.ownBlock = some b ∨ w.heap.size <= b) -> wpList P ops Q rest (act.put o.dst v') w') : wpList P ops Q (o :: rest) act w := by
 refine wpList_plain hgd fun K hK => ?_
 obtain ⟨v', w', hr, h2, h3, h4⟩ := run_append_ownF (P := P) w base t o.type e i z size bytes ht hi hz hsize hby hzs hsz v n xs hown ad m c news hl hnews h1 h63 hbytes hbase
 unfold Oper.wp execOp
 simp only [ho, resolve, invoke, builtin, Sem.run_bind, Sem.run_pure, Result.andThen_ok, List.map_toArray, List.map_cons, List.map_nil, hs, hx, hr]
 exact hK _ _ (h v' w' h2 h3 h4)
theorem wp_append_ownF {o : Oper} {act : Act} {K : Act -> World -> Prop} {Q : Exit -> Act -> World -> Prop} (s x : Operand) (t : TypeId)
  (ho : o.op = .call { callee := .builtin .append, args := #[s, x], argTypes := #[t, t] })
  (base : Nat) (e : TypeId) (i : TypeInfo) (z : Value) (size bytes : Nat) (ht : P.underlying t = some (.slice e)) (hi : P.info? e = some i) (hz : i.zero = some z)
  (hsize : i.size = size) (hby : i.bytes = bytes) (hzs : z.cells.size = size) (hsz : 0 < size)
  (v : Value) (n : Nat) (xs : List Value) (hs : act.eval s = v) (hown : w.ownsRow base e size v n xs)
  (ad : Addr) (m c : Nat) (news : List Value) (hx : act.eval x = .slice (some ad) m c) (hl : news.length = m * size) (hnews : ∀ j u, news[j]? = some u -> w.cell? (ad.add j) = some u) (h1 : ∀ u ∈ news, u.oneCell' = true)
  (h63 : n + m <= maxLen) (hbytes : (n + m) * bytes <= 140737488355328) (hbase : base <= w.heap.size)
  (h : ∀ v' w', w'.ownsRow base e size v' (n + m) (xs ++ news) -> w.grownBy w' v.ownBlock -> (∀ b, v'.ownBlock = some b -> v.ownBlock = some b ∨ w.heap.size <= b) -> K (act.put o.dst v') w') : o.wp P act w K Q := by
 obtain ⟨v', w', hr, h2, h3, h4⟩ := run_append_ownF (P := P) w base t o.type e i z size bytes ht hi hz hsize hby hzs hsz v n xs hown ad m c news hl hnews h1 h63 hbytes hbase
 unfold Oper.wp execOp
 simp only [ho, resolve, invoke, builtin, Sem.run_bind, Sem.run_pure, Result.andThen_ok, List.map_toArray, List.map_cons, List.map_nil, hs, hx, hr]
 exact h v' w' h2 h3 h4
end
end Go.Proofs.YtknpkndiflodbaaGreatDoor.Mx
namespace Go.Proofs.YtknpkndiflodbaaGreatDoor.Mx
open Go Go.RowKit
section
variable {P : Program} {md : Region.Mode}
def concDsts (l : List Oper) (n : Nat) : List Nat := (l.take n).filterMap (·.dst)
def concB (md : Region.Mode) (l : List Oper) (n : Nat) : Bool :=
 decide (n <= l.length) && (l.take n).all (fun o => o.guard.isNone && o.dst.isSome) && decide (concDsts l n).Nodup &&
 ((List.range n).all fun i => ((l[i]?).map fun o => o.after.all fun e => decide (e.on < i)).getD false) &&
 ((List.range l.length).all fun j => decide (j < n) || ((List.range n).all fun i => ((l[j]?).map fun o => o.after.any fun e => Region.binds md e && e.on == i).getD false))
structure ConcOk (md : Region.Mode) (l : List Oper) (n : Nat) : Prop where
 le : n <= l.length
 guard : ∀ (i : Nat) (o : Oper), i < n -> l[i]? = some o -> o.guard = none
 dst : ∀ (i : Nat) (o : Oper), i < n -> l[i]? = some o -> ∃ s, o.dst = some s
 apart : ∀ (i j : Nat) (oi oj : Oper) (s : Nat), i < n -> j < n -> l[i]? = some oi -> l[j]? = some oj -> oi.dst = some s -> oj.dst = some s -> i = j
 back : ∀ (i : Nat) (o : Oper), i < n -> l[i]? = some o -> ∀ e ∈ o.after, e.on < i
 waits : ∀ (j : Nat) (o : Oper), n <= j -> l[j]? = some o -> ∀ i, i < n -> ∃ e ∈ o.after, Region.binds md e = true /\ e.on = i
theorem nodup_filterMap {l : List Oper} : ∀ {i j : Nat} {oi oj : Oper} {s : Nat}, (l.filterMap (·.dst)).Nodup -> l[i]? = some oi -> l[j]? = some oj -> oi.dst = some s -> oj.dst = some s -> i = j := by
 induction l with
 | nil => intro i j oi oj s _ h; simp at h
 | cons o t ih =>
  intro i j oi oj s hn hi hj hsi hsj
  have hmem : ∀ (k : Nat) (ok : Oper), t[k]? = some ok -> ok.dst = some s -> s ∈ t.filterMap (·.dst) := fun k ok hk hs => List.mem_filterMap.2 ⟨ok, List.mem_of_getElem? hk, hs⟩
  rw [List.filterMap_cons] at hn
  cases i with
  | zero =>
   cases j with
   | zero => rfl
   | succ j =>
    simp at hi hj
    subst hi
    rw [hsi] at hn
    exact absurd (hmem j oj hj hsj) (List.nodup_cons.1 hn).1
  | succ i =>
   cases j with
   | zero =>
    simp at hi hj
    subst hj
    rw [hsj] at hn
    exact absurd (hmem i oi hi hsi) (List.nodup_cons.1 hn).1
   | succ j =>
    simp at hi hj
    have hn2 : (t.filterMap (·.dst)).Nodup := by
     cases ho : o.dst with
     | none => rw [ho] at hn; exact hn
     | some d => rw [ho] at hn; exact (List.nodup_cons.1 hn).2
    rw [ih hn2 hi hj hsi hsj]
theorem concB_ok {l : List Oper} {n : Nat} (h : concB md l n = true) : ConcOk md l n := by
 unfold concB at h
 simp only [Bool.and_eq_true, decide_eq_true_eq, List.all_eq_true, Bool.or_eq_true] at h
 obtain ⟨⟨⟨⟨h1, h2⟩, h3⟩, h4⟩, h5⟩ := h
 have tk : ∀ (i : Nat) (o : Oper), i < n -> l[i]? = some o -> (l.take n)[i]? = some o := fun i o hi ho => by rw [List.getElem?_take_of_lt hi]; exact ho
 refine ⟨h1, ?_, ?_, ?_, ?_, ?_⟩
 ·intro i o hi ho
  have := (h2 o (List.mem_of_getElem? (tk i o hi ho))).1
  simpa using this
 ·intro i o hi ho
  have := (h2 o (List.mem_of_getElem? (tk i o hi ho))).2
  exact Option.isSome_iff_exists.1 this
 ·intro i j oi oj s hi hj hoi hoj hsi hsj
  exact nodup_filterMap h3 (tk i oi hi hoi) (tk j oj hj hoj) hsi hsj
 ·intro i o hi ho e he
  have := h4 i (List.mem_range.2 hi)
  rw [ho] at this
  simp only [Option.map_some, Option.getD_some, Array.all_eq_true_iff_forall_mem, decide_eq_true_eq] at this
  exact this e he
 ·intro j o hj ho i hi
  have hjl := (List.getElem?_eq_some_iff.1 ho).1
  have := (h5 j (List.mem_range.2 hjl)).resolve_left (by omega) i (List.mem_range.2 hi)
  rw [ho] at this
  simp only [Option.map_some, Option.getD_some] at this
  rw [Array.any_eq_true] at this
  obtain ⟨k, hk, h⟩ := this
  simp only [Bool.and_eq_true, beq_iff_eq] at h
  exact ⟨_, Array.getElem_mem hk, h.1, h.2⟩
def ConcOb (P : Program) (md : Region.Mode) (l : List Oper) (n : Nat) (R : Nat -> Value -> World -> Prop) (G : World -> World -> Prop) (J : Array Bool -> World -> Prop) (Q : Exit -> Act -> World -> Prop) (a0 : Act) (w0 : World) (i : Nat) (o : Oper) : Prop :=
 ∀ (L : Array Bool) (T : Array Value) (w : World), G w0 w -> J L w -> L.size = l.length -> L.getD i true = false -> (∀ e ∈ o.after, Region.binds md e = true -> L.getD e.on false = true) ->
  (∀ s, s ∉ concDsts l n -> T.getD s undef = a0.tmps.getD s undef) ->
  (∀ e ∈ o.after, Region.binds md e = true -> ∀ s, (l[e.on]?).bind (·.dst) = some s -> R e.on (T.getD s undef) w) ->
  ∀ K : Act -> World -> Prop, (∀ v w', G w w' -> (∀ j u, j < n -> j ≠ i -> L.getD j false = true -> R j u w -> R j u w') -> J (L.setIfInBounds i true) w' -> R i v w' -> K (Act.put { tmps := T, defers := a0.defers } o.dst v) w') -> o.wp P { tmps := T, defers := a0.defers } w K Q
def ConcObs (P : Program) (md : Region.Mode) (l : List Oper) (n : Nat) (R : Nat -> Value -> World -> Prop) (G : World -> World -> Prop) (J : Array Bool -> World -> Prop) (Q : Exit -> Act -> World -> Prop) (a0 : Act) (w0 : World) : List Oper -> Nat -> Prop
 | [], _ => True
 | o :: r, i => ConcOb P md l n R G J Q a0 w0 i o /\ ConcObs P md l n R G J Q a0 w0 r (i + 1)
theorem concObs_at {l : List Oper} {n : Nat} {R : Nat -> Value -> World -> Prop} {G : World -> World -> Prop} {J : Array Bool -> World -> Prop} {Q : Exit -> Act -> World -> Prop} {a0 : Act} {w0 : World} :
  ∀ (r : List Oper) (k : Nat), ConcObs P md l n R G J Q a0 w0 r k -> ∀ (i : Nat) (o : Oper), r[i]? = some o -> ConcOb P md l n R G J Q a0 w0 (k + i) o
 | [], k, _, i, o, h => by simp at h
 | x :: r, k, hobs, 0, o, h => by
  simp at h; subst h; exact hobs.1
 | x :: r, k, hobs, i + 1, o, h => by
  have := concObs_at r (k + 1) hobs.2 i o (by simpa using h)
  rw [show k + (i + 1) = k + 1 + i by omega]; exact this
structure ConcInv (md : Region.Mode) (l : List Oper) (n : Nat) (R : Nat -> Value -> World -> Prop) (G : World -> World -> Prop) (J : Array Bool -> World -> Prop) (a0 : Act) (w0 : World) (L : Array Bool) (a : Act) (w : World) : Prop where
 size : L.size = l.length
 tail : ∀ j, n <= j -> L.getD j false = false
 grow : G w0 w
 inv : J L w
 defers : a.defers = a0.defers
 tmps : a.tmps.size = a0.tmps.size
 frame : ∀ s, s ∉ concDsts l n -> a.tmps.getD s undef = a0.tmps.getD s undef
 vals : ∀ i, L.getD i false = true -> ∀ s, (l[i]?).bind (·.dst) = some s -> R i (a.tmps.getD s undef) w
theorem getD_set_self {L : Array Bool} {i : Nat} (h : i < L.size) : (L.setIfInBounds i true).getD i false = true := by simp [h]
theorem getD_flip {L : Array Bool} {i : Nat} (h : i < L.size) : L.getD i true = L.getD i false := by simp [h]
theorem conc_rebuild : ∀ (ds : List Nat) (t u : Array Value), t.size = u.size -> (∀ s, s ∉ ds -> t.getD s undef = u.getD s undef) -> t = ds.foldl (fun x s => x.setIfInBounds s (t.getD s undef)) u
 | [], t, u, hs, h => by
  apply Array.ext hs
  intro i h1 h2
  have := h i (by simp)
  simpa [h1, h2] using this
 | d :: ds, t, u, hs, h => by
  rw [List.foldl_cons]
  refine conc_rebuild ds t _ (by simp [hs]) (fun s hsd => ?_)
  by_cases e : s = d
  ·subst e
   by_cases hlt : s < u.size
   ·simp [hlt]
   ·simp [Array.getElem?_eq_none (show t.size <= s by omega)]
  ·rw [h s (by simp [e, hsd])]
   simp [Array.getElem?_setIfInBounds_ne (Ne.symm e)]
theorem wpAny_conc {l : List Oper} {n : Nat} {R : Nat -> Value -> World -> Prop} {G : World -> World -> Prop} {J : Array Bool -> World -> Prop} {Q : Exit -> Act -> World -> Prop} {a0 : Act} {w0 : World}
  (hB : concB md l n = true) (hsz : ∀ s ∈ concDsts l n, s < a0.tmps.size) (htrans : ∀ {w1 w2 : World}, G w0 w1 -> G w1 w2 -> G w0 w2)
  (hop : ConcObs P md l n R G J Q a0 w0 (l.take n) 0)
  (hend : ∀ (f : Nat -> Value) (w : World), G w0 w -> J ((Array.replicate n true) ++ (Array.replicate (l.length - n) false)) w -> (∀ i s, i < n -> (l[i]?).bind (·.dst) = some s -> R i (f s) w) ->
   wpAny P md l.toArray Q (l.length - n) ((Array.replicate n true) ++ (Array.replicate (l.length - n) false)) { tmps := (concDsts l n).foldl (fun x s => x.setIfInBounds s (f s)) a0.tmps, defers := a0.defers } w) :
  ∀ (m : Nat) (L : Array Bool) (a : Act) (w : World), ConcInv md l n R G J a0 w0 L a w -> (List.range n).countP (fun i => !L.getD i true) = m -> wpAny P md l.toArray Q (m + (l.length - n)) L a w := by
 have ok := concB_ok hB
 have hle := ok.le
 intro m
 induction m with
 | zero =>
  intro L a w inv hc
  have hall : ∀ i, i < n -> L.getD i false = true := fun i hi => by
   rw [List.countP_eq_zero] at hc
   have := hc i (List.mem_range.2 hi)
   rw [getD_flip (by rw [inv.size]; omega)] at this
   simpa using this
  have hL : L = (Array.replicate n true) ++ (Array.replicate (l.length - n) false) := by
   apply Array.ext (by simp [inv.size]; omega)
   intro i h1 h2
   by_cases hi : i < n
   ·have := hall i hi
    simp [h1] at this
    rw [this, Array.getElem_append_left (by simpa using hi)]; simp
   ·have := inv.tail i (by omega)
    simp [h1] at this
    rw [this, Array.getElem_append_right (by simp; omega)]; simp
  rw [Nat.zero_add]
  have h1 := hend (fun s => a.tmps.getD s undef) w inv.grow (hL ▸ inv.inv) (fun i s hi hs => inv.vals i (hall i hi) s hs)
  rw [hL]
  have ha : a = { tmps := (concDsts l n).foldl (fun x s => x.setIfInBounds s (a.tmps.getD s undef)) a0.tmps, defers := a0.defers } := by
   obtain ⟨t, d⟩ := a
   have e1 : d = a0.defers := inv.defers
   subst e1
   congr 1
   exact conc_rebuild _ _ _ inv.tmps inv.frame
  rw [ha]
  exact h1
 | succ m ih =>
  intro L a w inv hc
  obtain ⟨k, hk, hkL⟩ : ∃ k, k < n /\ L.getD k true = false := by
   have : 0 < (List.range n).countP (fun i => !L.getD i true) := by omega
   rw [List.countP_pos_iff] at this
   obtain ⟨k, h1, h2⟩ := this
   exact ⟨k, List.mem_range.1 h1, by simpa using h2⟩
  rw [show m + 1 + (l.length - n) = (m + (l.length - n)) + 1 by omega, wpAny]
  constructor
  ·intro hr
   exfalso
   obtain ⟨i, hin, hiL, hmin⟩ : ∃ i, i < n /\ L.getD i true = false /\ ∀ j, j < i -> L.getD j true = true := by
    have h : ∃ i, i < n /\ L.getD i true = false := ⟨k, hk, hkL⟩
    have : ∀ b i, i <= b -> i < n -> L.getD i true = false -> ∃ i, i < n /\ L.getD i true = false /\ ∀ j, j < i -> L.getD j true = true := by
     intro b
     induction b with
     | zero => intro i hi h1 h2; exact ⟨i, h1, h2, fun j hj => by omega⟩
     | succ b ihb =>
      intro i hi h1 h2
      by_cases hx : ∃ j, j < i /\ L.getD j true = false
      ·obtain ⟨j, hj, h3⟩ := hx
       exact ihb j (by omega) (by omega) h3
      ·refine ⟨i, h1, h2, fun j hj => ?_⟩
       cases h4 : L.getD j true with
       | true => rfl
       | false => exact absurd ⟨j, hj, h4⟩ hx
    exact this k k (Nat.le_refl _) hk hkL
   have hil : i < l.length := by omega
   have ho : l[i]? = some l[i] := List.getElem?_eq_getElem hil
   have hmem : i ∈ Region.ready md l.toArray L := by
    rw [mem_ready]
    refine ⟨hiL, l[i], by simp, fun e he _ => ?_⟩
    have hb := ok.back i _ hin ho e he
    rw [<- getD_flip (by rw [inv.size]; omega)]
    exact hmin e.on hb
   rw [hr] at hmem
   cases hmem
  ·intro i hi
   obtain ⟨hiL, o, ho, hdep⟩ := mem_ready.1 hi
   have ho' : l[i]? = some o := by simpa using ho
   have hin : i < n := by
    rcases Nat.lt_or_ge i n with h | h
    ·exact h
    ·exfalso
     obtain ⟨e, he, hb, hon⟩ := ok.waits i o h ho' k hk
     have := hdep e he hb
     rw [hon, <- getD_flip (by rw [inv.size]; omega)] at this
     rw [hkL] at this
     cases this
   have hob := concObs_at _ 0 hop i o (by rw [List.getElem?_take_of_lt hin]; exact ho')
   rw [Nat.zero_add] at hob
   obtain ⟨d, hd⟩ := ok.dst i o hin ho'
   have hdm : d ∈ concDsts l n := List.mem_filterMap.2 ⟨o, List.mem_of_getElem? (show (l.take n)[i]? = some o by rw [List.getElem?_take_of_lt hin]; exact ho'), hd⟩
   unfold wpOp
   rw [ho]
   have hg := ok.guard i o hin ho'
   have hw : Region.wanted o (yielded l.toArray a.tmps) = true := by unfold Region.wanted; rw [hg]
   simp only [hw, if_true]
   have ea : a = { tmps := a.tmps, defers := a0.defers } := by
    have := inv.defers
    obtain ⟨t, d⟩ := a
    have e1 : d = a0.defers := this
    subst e1
    rfl
   have key := hob L a.tmps w inv.grow inv.inv inv.size hiL hdep inv.frame (fun e he hb s hs => inv.vals e.on (hdep e he hb) s hs) (wpAny P md l.toArray Q (m + (l.length - n)) (L.setIfInBounds i true))
   rw [<- ea] at key
   refine .inl (key ?_)
   intro v w' hG hst hJ hR
   refine ih _ _ _ ⟨by simp [inv.size], ?_, htrans inv.grow hG, hJ, by rw [hd]; exact inv.defers, ?_, ?_, ?_⟩ ?_
   ·intro j hj
    rw [getD_set_ne false (by omega)]; exact inv.tail j hj
   ·rw [hd]; simp [Act.put, inv.tmps]
   ·intro s hs
    have hne : d ≠ s := by rintro rfl; exact hs hdm
    rw [hd]
    show (a.tmps.setIfInBounds d v).getD s undef = _
    rw [<- inv.frame s hs]
    simp [Array.getElem?_setIfInBounds_ne hne]
   ·intro j hj s hs
    rw [hd]
    show R j ((a.tmps.setIfInBounds d v).getD s undef) w'
    by_cases hji : j = i
    ·subst hji
     rw [ho'] at hs
     simp at hs
     rw [hd] at hs
     injection hs with hs
     subst hs
     have hlt : d < a.tmps.size := by rw [inv.tmps]; exact hsz d hdm
     rw [show (a.tmps.setIfInBounds d v).getD d undef = v by simp [hlt]]
     exact hR
    ·have hj' : L.getD j false = true := by rwa [getD_set_ne false (Ne.symm hji)] at hj
     have hjn : j < n := by
      rcases Nat.lt_or_ge j n with h | h
      ·exact h
      ·rw [inv.tail j h] at hj'; cases hj'
     obtain ⟨oj, hoj⟩ : ∃ oj, l[j]? = some oj := ⟨_, List.getElem?_eq_getElem (show j < l.length by omega)⟩
     have hsj : oj.dst = some s := by rw [hoj] at hs; simpa using hs
     have hne : d ≠ s := by
      rintro rfl
      exact hji (ok.apart j i oj o d hjn hin hoj ho' hsj hd)
     have hv := inv.vals j hj' s hs
     have e : (a.tmps.setIfInBounds d v).getD s undef = a.tmps.getD s undef := by simp [Array.getElem?_setIfInBounds_ne hne]
     rw [e]
     exact hst j _ hjn hji hj' hv
   ·have hcnt : ∀ (r : List Nat), r.Nodup -> i ∈ r -> r.countP (fun x => !(L.setIfInBounds i true).getD x true) + 1 = r.countP (fun x => !L.getD x true) := by
     intro r
     induction r with
     | nil => intro _ h; cases h
     | cons x r ihr =>
      intro hn hm
      rw [List.nodup_cons] at hn
      rw [List.countP_cons, List.countP_cons]
      by_cases hx : x = i
      ·subst hx
       have h0 : ∀ y ∈ r, (L.setIfInBounds x true).getD y true = L.getD y true := fun y hy => getD_set_ne true (by rintro rfl; exact hn.1 hy)
       have h1 : r.countP (fun y => !(L.setIfInBounds x true).getD y true) = r.countP (fun y => !L.getD y true) := by
        apply List.countP_congr
        intro y hy
        rw [h0 y hy]
       rw [h1, hiL]
       have h2 : (L.setIfInBounds x true).getD x true = true := by rw [getD_flip (by simp [inv.size]; omega)]; exact getD_set_self (by rw [inv.size]; omega)
       rw [h2]
       simp
      ·have h2 := ihr hn.2 (by rcases List.mem_cons.1 hm with h | h; exact absurd h.symm hx; exact h)
       rw [getD_set_ne true (Ne.symm hx)]
       omega
    have := hcnt (List.range n) List.nodup_range (List.mem_range.2 hin)
    omega
theorem wp_region_conc {id : Nat} {l : List Oper} (n : Nat) {Q : Exit -> Act -> World -> Prop} {a0 : Act} {w : World} (R : Nat -> Value -> World -> Prop) (G : World -> World -> Prop) (J : Array Bool -> World -> Prop)
  (hm : P.follows .mixedOrders = true) (hB : concB .any l n = true) (hS : Region.seqB .any l.toArray (l.length - n) n ((Array.replicate n true) ++ (Array.replicate (l.length - n) false)) = true)
  (hsz : ((concDsts l n).all fun s => decide (s < a0.tmps.size)) = true) (h0 : G w.drew w.drew) (hJ : J (Array.replicate l.length false) w.drew)
  (htrans : ∀ {w1 w2 : World}, G w.drew w1 -> G w1 w2 -> G w.drew w2)
  (hop : ConcObs P .any l n R G J Q a0 w.drew (l.take n) 0)
  (hend : ∀ (f : Nat -> Value) (w1 : World), G w.drew w1 -> J ((Array.replicate n true) ++ (Array.replicate (l.length - n) false)) w1 -> (∀ i s, i < n -> (l[i]?).bind (·.dst) = some s -> R i (f s) w1) ->
   wpList P l.toArray Q (l.drop n) { tmps := (concDsts l n).foldl (fun x s => x.setIfInBounds s (f s)) a0.tmps, defers := a0.defers } w1) :
  (Code.region id l.toArray true).wp P Q a0 w := by
 refine wp_region_any hm ?_
 have hle := (concB_ok hB).le
 have hrep : ∀ j, (Array.replicate l.length false).getD j false = false := fun j => by
  by_cases h : j < l.length <;> simp [h]
 have hd : (l.drop n).length = l.length - n := by simp
 have key := wpAny_conc (P := P) (md := .any) (Q := Q) (a0 := a0) (w0 := w.drew) hB (by simpa using hsz) htrans hop (fun f w1 h1 h2 h3 => by
  have := wpAny_of_seq (P := P) (md := .any) (Q' := Q) (l.drop n) n _ _ w1 (fun j => by simp [List.getElem?_drop]) (by rw [hd]; exact hS) (hend f w1 h1 h2 h3)
  rwa [hd] at this) n (Array.replicate l.length false) a0 w.drew
  ⟨by simp, fun j _ => hrep j, h0, hJ, rfl, rfl, fun _ _ => rfl, fun i hi => by rw [hrep] at hi; cases hi⟩ (by
   rw [List.countP_eq_length.2 (fun i hi => by
    have h := List.mem_range.1 hi
    rw [getD_flip (by simp; omega), hrep]; rfl)]
   simp)
 have e : n + (l.length - n) = l.toArray.size := by simp; omega
 rw [e] at key
 have e2 : l.toArray.size = l.length := by simp
 rw [<- e2] at key
 exact key
end
end Go.Proofs.YtknpkndiflodbaaGreatDoor.Mx
namespace Go.Proofs.YtknpkndiflodbaaGreatDoor.Tb
open Go Go.RowKit Go.Proofs Mx
def encIt (x : It) : List Value := [.int .i64 (x.1 : Int), .int .i64 (x.2 : Int)]
theorem encIt_len (x : It) : (encIt x).length = 2 := rfl
theorem encIt_one (x : It) : ∀ v ∈ encIt x, v.oneCell' = true := by intro v hv; simp [encIt] at hv; rcases hv with rfl | rfl <;> rfl
def wd (M j : Nat) : Int := ((M / 2 ^ (64 * j) % 18446744073709551616 : Nat) : Int)
def setV (M : Nat) : Value := .agg #[.int .u64 (wd M 0), .int .u64 (wd M 1), .int .u64 (wd M 2), .int .u64 (wd M 3)]
def setC (M : Nat) : Array Value := #[.int .u64 (wd M 0), .int .u64 (wd M 1), .int .u64 (wd M 2), .int .u64 (wd M 3)]
def encSet (M : Nat) : List Value := [.int .u64 (wd M 0), .int .u64 (wd M 1), .int .u64 (wd M 2), .int .u64 (wd M 3)]
theorem encSet_len (M : Nat) : (encSet M).length = 4 := rfl
def encSy (s : Sy) : List Value := [.int .i64 s.kind, .int .u64 (wd s.set 0), .int .u64 (wd s.set 1), .int .u64 (wd s.set 2), .int .u64 (wd s.set 3), .int .i64 s.sort]
theorem encSy_len (s : Sy) : (encSy s).length = 6 := rfl
def encPr (x : Value × Pr) : List Value := [.int .i64 x.2.left, x.1, .string ⟨x.2.cons.toArray⟩, .int .i64 x.2.role, .bool x.2.prefer, .bool x.2.avoid, .int .i64 x.2.made]
theorem encPr_len (x : Value × Pr) : (encPr x).length = 7 := rfl
structure ProdsL (D : Nat -> Prop) (w : World) (v : Value) (l : List (Value × Pr)) : Prop where
 row : SliceK D encPr 7 w v l
 right : ∀ x ∈ l, SliceK D encSy 6 w x.1 x.2.right
def ProdsAt (D : Nat -> Prop) (w : World) (v : Value) (ps : List Pr) : Prop := ∃ l, ProdsL D w v l /\ l.map (·.2) = ps
def encN (n : Nat) : List Value := [.int .i64 (n : Int)]
theorem encN_len (n : Nat) : (encN n).length = 1 := rfl
def encOf (x : Value × List Nat) : List Value := [x.1]
structure OfL (D : Nat -> Prop) (w : World) (v : Value) (l : List (Value × List Nat)) : Prop where
 row : SliceK D encOf 1 w v l
 each : ∀ x ∈ l, SliceK D encN 1 w x.1 x.2
def OfAt (D : Nat -> Prop) (w : World) (v : Value) (g : Gr) : Prop := ∃ l, OfL D w v l /\ l.length = g.sorts.length /\ ∀ (s : Nat) (x : Value × List Nat), l[s]? = some x -> x.2 = ofS g (s : Int)
structure MkR (D : Nat -> Prop) (w : World) (mb : Nat) (g : Gr) : Prop where
 lt : mb < w.heap.size
 prods : ∃ vp, w.cell? ⟨mb, 1, none⟩ = some vp /\ ProdsAt D w vp g.prods
 of : ∃ vo, w.cell? ⟨mb, 5, none⟩ = some vo /\ OfAt D w vo g
structure Good (g : Gr) : Prop where
 prods : g.prods.length <= 100
 sorts : g.sorts.length <= 1000
 start : 0 <= g.start /\ g.start < g.sorts.length
 left : ∀ p ∈ g.prods, 0 <= p.left /\ p.left < g.sorts.length
 right : ∀ p ∈ g.prods, p.right.length <= 30
 sym : ∀ p ∈ g.prods, ∀ s ∈ p.right, (s.kind = 0 /\ s.sort = 0 /\ s.set ≠ 0 /\ s.set < 2 ^ 256) ∨ (s.kind = 1 /\ s.set = 0 /\ 0 <= s.sort /\ s.sort < g.sorts.length)
theorem compactIt_nodup : ∀ l : List It, l.Pairwise (fun a b => itLe a b = true) -> (compactIt l).Nodup
 | [], _ => List.nodup_nil
 | [x], _ => by simp [compactIt]
 | x :: y :: t, h => by
  rw [compactIt_cons]
  obtain ⟨h1, h2⟩ := List.pairwise_cons.1 h
  have ih := compactIt_nodup (y :: t) h2
  by_cases e : x = y
  ·rw [if_pos e]; exact ih
  ·rw [if_neg e]
   refine List.nodup_cons.2 ⟨fun hm => ?_, ih⟩
   have hm2 := compactIt_mem _ _ hm
   rcases List.mem_cons.1 hm2 with h3 | h3
   ·exact e h3
   ·exact e (itLe_anti (h1 y (by simp)) ((List.pairwise_cons.1 h2).1 x h3))
theorem closedF_small {g : Gr} (hg : Good g) {l : List It} (h : ∀ x ∈ l, itemOk g x = true) : (closedF g l).length <= 3100 := by
 have h1 : (closedF g l).Nodup := compactIt_nodup _ (sortIt_sorted _)
 have h2 := nodup_le (closedF g l) ((List.range 100).flatMap fun n => (List.range 31).map fun d => (n, d)) h1 (fun x hx => by
  have hok := (itemOk_iff g x).1 ((closedF_fits h).2 x hx)
  have h3 : (rightOf g x.1).length <= 30 := by
   unfold rightOf
   rw [List.getElem?_eq_getElem hok.1]
   exact hg.right _ (List.getElem_mem _)
  have h4 := hg.prods
  rw [List.mem_flatMap]
  exact ⟨x.1, by simp; omega, by rw [List.mem_map]; exact ⟨x.2, by simp; omega, rfl⟩⟩)
 refine Nat.le_trans h2 ?_
 decide +kernel
section
variable {D D' : Nat → Prop} {w w' : World} {v : Value} {mb : Nat} {g : Gr}
theorem ProdsL.keep {l : List (Value × Pr)} (h : ProdsL D w v l) (hD : ∀ g, D g -> g < w.heap.size -> D' g /\ w'.heap[g]? = w.heap[g]?) : ProdsL D' w' v l :=
 ⟨h.row.keep hD, fun x hx => (h.right x hx).keep hD⟩
theorem OfL.keep {l : List (Value × List Nat)} (h : OfL D w v l) (hD : ∀ g, D g -> g < w.heap.size -> D' g /\ w'.heap[g]? = w.heap[g]?) : OfL D' w' v l :=
 ⟨h.row.keep hD, fun x hx => (h.each x hx).keep hD⟩
theorem ProdsAt.keep {ps : List Pr} (h : ProdsAt D w v ps) (hD : ∀ g, D g -> g < w.heap.size -> D' g /\ w'.heap[g]? = w.heap[g]?) : ProdsAt D' w' v ps := by
 obtain ⟨l, hl, e⟩ := h; exact ⟨l, hl.keep hD, e⟩
theorem OfAt.keep (h : OfAt D w v g) (hD : ∀ g, D g -> g < w.heap.size -> D' g /\ w'.heap[g]? = w.heap[g]?) : OfAt D' w' v g := by
 obtain ⟨l, hl, e⟩ := h; exact ⟨l, hl.keep hD, e⟩
theorem MkR.keep (h : MkR D w mb g) (hD : ∀ g, D g -> g < w.heap.size -> D' g /\ w'.heap[g]? = w.heap[g]?) (hm : w'.heap.size ≥ w.heap.size) (h1 : w'.cell? ⟨mb, 1, none⟩ = w.cell? ⟨mb, 1, none⟩) (h5 : w'.cell? ⟨mb, 5, none⟩ = w.cell? ⟨mb, 5, none⟩) : MkR D' w' mb g := by
 obtain ⟨hl, ⟨vp, p1, p2⟩, ⟨vo, o1, o2⟩⟩ := h
 exact ⟨Nat.lt_of_lt_of_le hl hm, ⟨vp, h1.trans p1, p2.keep hD⟩, ⟨vo, h5.trans o1, o2.keep hD⟩⟩
theorem MkR.below (h : MkR D w mb g) (hb : Below w.heap.size w w') : MkR D w' mb g :=
 h.keep (fun g hg hl => ⟨hg, hb.block g hl⟩) hb.size (World.cell?_of_block (hb.block mb h.lt)) (World.cell?_of_block (hb.block mb h.lt))
theorem MkR.prod (h : MkR D w mb g) {n : Nat} {p : Pr} (hp : g.prods[n]? = some p) : ∃ a cap b o vr, w.cell? ⟨mb, 1, none⟩ = some (.slice (some ⟨b, o, none⟩) g.prods.length cap) /\ a = b /\ SliceK D encSy 6 w vr p.right /\
  (∀ j u, (encPr (vr, p))[j]? = some u -> w.cell? ⟨b, o + n * 7 + j, none⟩ = some u) := by
 obtain ⟨vp, p1, l, hl, e⟩ := h.prods
 have hlen : l.length = g.prods.length := by rw [<- e]; simp
 have hn := (List.getElem?_eq_some_iff.1 hp).1
 have hx : ∃ vr, l[n]? = some (vr, p) := by
  rw [<- e, List.getElem?_map] at hp
  cases hq : l[n]? with
  | none => rw [hq] at hp; simp at hp
  | some q => rw [hq] at hp; simp at hp; exact ⟨q.1, by rw [<- hp]⟩
 obtain ⟨vr, hx⟩ := hx
 obtain ⟨a, cap, rfl, hc1, hc2, hK⟩ := hl.row
 obtain ⟨b, o, rfl, hDb, hr⟩ := hK (by rintro rfl; simp at hx)
 rw [hlen] at p1
 exact ⟨b, cap, b, o, vr, p1, rfl, hl.right _ (List.mem_of_getElem? hx), fun j u hu => hr.cells n _ hx j u hu⟩
end
end Go.Proofs.YtknpkndiflodbaaGreatDoor.Tb
