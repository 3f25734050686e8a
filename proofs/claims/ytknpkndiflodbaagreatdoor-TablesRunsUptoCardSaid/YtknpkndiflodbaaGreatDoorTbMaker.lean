/-
  THE MAKER IN MEMORY: its states, its map.
-/
import Derived.Test.YtknpkndiflodbaaGreatDoorTbMem
import Derived.Test.YtknpkndiflodbaaGreatDoorTbPureA
import Derived.Test.YtknpkndiflodbaaGreatDoorMapA
import Derived.Test.YtknpkndiflodbaaGreatDoorTbOrderA
set_option linter.unusedVariables false
namespace Go.Proofs.YtknpkndiflodbaaGreatDoor.Tb
open Go Go.RowKit Go.Proofs Mx
/-- A state in memory: where its parts lie, and what they are. -/
structure SM where
  vi : Value
  ve : Value
  vd : Value
  items : List It
  edges : List (Sy × Nat)
  next : Nat
  done : List Nat
def encSM (s : SM) : List Value := [s.vi, s.ve, .int .u64 (wd s.next 0), .int .u64 (wd s.next 1), .int .u64 (wd s.next 2), .int .u64 (wd s.next 3), s.vd]
theorem encSM_len (s : SM) : (encSM s).length = 7 := rfl
def encEd (e : Sy × Nat) : List Value := encSy e.1 ++ [.int .i64 (e.2 : Int)]
theorem encEd_len (e : Sy × Nat) : (encEd e).length = 7 := rfl
structure SMok (g : Gr) (B : Nat) (w : World) (s : SM) : Prop where
  items : SliceK (TyD B 53 w) encIt 2 w s.vi s.items
  edges : SliceK (TyD B 125 w) encEd 7 w s.ve s.edges
  done : SliceK (TyD B 3 w) encN 1 w s.vd s.done
  ok : ∀ x ∈ s.items, itemOk g x = true
  len : s.items.length ≤ 10000
/-- B: all that lies from there on was made since the maker was; mb: its block, bm: its map's. -/
structure MkW (g : Gr) (B mb bm : Nat) (sm : List SM) (w : World) : Prop where
  mlt : mb < B
  blt : bm < B
  ne : mb ≠ bm
  size : B ≤ w.heap.size
  gr : MkR (fun b => b < B ∧ b ≠ mb ∧ b ≠ bm) w mb g
  met : w.cell? ⟨mb, 6, none⟩ = some (.map (some bm))
  fz : ∀ i, w.frozen? ⟨mb, i, none⟩ = false
  all : ∃ va, w.cell? ⟨mb, 7, none⟩ = some va ∧ w.ownsRow B 104 7 va sm.length (flatK encSM sm)
  each : ∀ s ∈ sm, SMok g B w s
  map : ∃ f, MapV Tryz.prog 9 w bm sm.length f ∧ ∀ l, f (.string (keyF l)) = ((sm.map (·.items)).findIdx? (· == l)).map fun (n : Nat) => Value.int .i64 (n : Int)
  many : sm.length ≤ 16384
/-- All else stands as it stood. -/
structure KeepM (mb bm : Nat) (w w' : World) : Prop where
  os : w'.os = w.os
  tape : w'.tape = w.tape
  output : w'.output = w.output
  size : w.heap.size ≤ w'.heap.size
  block : ∀ b, b < w.heap.size → b ≠ mb → b ≠ bm → (∀ c fz, w.heap[b]? ≠ some (.cells c 104 fz)) → w'.heap[b]? = w.heap[b]?
  low : ∀ b, b < mb → b < w.heap.size → b ≠ bm → w'.heap[b]? = w.heap[b]?
theorem KeepM.of {mb bm : Nat} {w w' : World} (h : Below w.heap.size w w') : KeepM mb bm w w' := ⟨h.os, h.tape, h.output, h.size, fun b hb _ _ _ => h.block b hb, fun b _ hb _ => h.block b hb⟩
theorem KeepM.trans {mb bm : Nat} {w w' w'' : World} (h : KeepM mb bm w w') (k : KeepM mb bm w' w'') : KeepM mb bm w w'' :=
  ⟨k.os.trans h.os, k.tape.trans h.tape, k.output.trans h.output, Nat.le_trans h.size k.size, fun b hb h1 h2 h3 => by
    have e := h.block b hb h1 h2 h3
    rw [← e]
    exact k.block b (Nat.lt_of_lt_of_le hb h.size) h1 h2 (by rw [e]; exact h3), fun b h0 hb h1 => (k.low b h0 (Nat.lt_of_lt_of_le hb h.size) h1).trans (h.low b h0 hb h1)⟩
theorem KeepM.refl (mb bm : Nat) (w : World) : KeepM mb bm w w := ⟨rfl, rfl, rfl, Nat.le_refl _, fun _ _ _ _ _ => rfl, fun _ _ _ _ => rfl⟩
theorem KeepM.ty {mb bm B : Nat} {w w' : World} (h : KeepM mb bm w w') {t : TypeId} (ht : t ≠ 104) (hm : mb < B) (hb : bm < B) : ∀ g c fz, w.heap[g]? = some (.cells c t fz) → B ≤ g → w'.heap[g]? = w.heap[g]? := by
  intro g c fz e hB
  have hg : g < w.heap.size := (Array.getElem?_eq_some_iff.1 e).1
  refine h.block g hg (by omega) (by omega) (fun c' fz' e' => ?_)
  rw [e] at e'
  injection e' with e'
  injection e' with _ e' _
  exact ht e'
theorem SMok.keep {g : Gr} {B mb bm : Nat} {w w' : World} {s : SM} (h : SMok g B w s) (k : KeepM mb bm w w') (hm : mb < B) (hb : bm < B) : SMok g B w' s :=
  ⟨h.items.ty (k.ty (by decide) hm hb), h.edges.ty (k.ty (by decide) hm hb), h.done.ty (k.ty (by decide) hm hb), h.ok, h.len⟩
section
variable {g : Gr} {B mb bm : Nat} {sm : List SM} {w w' : World}
theorem MkW.below (h : MkW g B mb bm sm w) (hb : Below w.heap.size w w') : MkW g B mb bm sm w' := by
  have hml : mb < w.heap.size := Nat.lt_of_lt_of_le h.mlt h.size
  have hbl : bm < w.heap.size := Nat.lt_of_lt_of_le h.blt h.size
  obtain ⟨va, a1, a2⟩ := h.all
  obtain ⟨f, f1, f2⟩ := h.map
  exact ⟨h.mlt, h.blt, h.ne, Nat.le_trans h.size hb.size, h.gr.below hb, (World.cell?_of_block (hb.block mb hml)).trans h.met, fun i => (World.frozen?_of_block (hb.block mb hml)).trans (h.fz i),
    ⟨va, (World.cell?_of_block (hb.block mb hml)).trans a1, a2.kept (row := none) ⟨hb.os, hb.tape, hb.output, hb.size, fun k hk _ => hb.block k hk⟩ (by cases hv : va.ownBlock <;> simp)⟩,
    fun s hs => (h.each s hs).keep (KeepM.of (mb := mb) (bm := bm) hb) h.mlt h.blt, ⟨f, f1.below hb hbl, f2⟩, h.many⟩
end
def freshSM (v : Value) (l : List It) : SM := ⟨v, .slice none 0 0, .slice none 0 0, l, [], 0, []⟩
def fullP : List PanicEntry := [{ v := .iface 89 (.agg #[]), recovered := false }]
theorem alloc_cells (w : World) (t : TypeId) (cs : List Value) : ∀ j u, cs[j]? = some u → (w.alloc (.cells cs.toArray t)).cell? ((⟨w.heap.size, 0, none⟩ : Addr).add j) = some u := by
  intro j u hj
  have hb : Blk (w.alloc (.cells cs.toArray t)) w.heap.size t cs.toArray := Blk.new w _ _
  rw [addr_add, Nat.zero_add, hb.cell j]
  simpa using hj
theorem encSM_one (s : SM) (h1 : s.vi.oneCell' = true) (h2 : s.ve.oneCell' = true) (h3 : s.vd.oneCell' = true) : ∀ u ∈ encSM s, u.oneCell' = true := by
  intro u hu
  simp [encSM] at hu
  rcases hu with rfl | rfl | rfl | rfl | rfl | rfl | rfl <;> first | assumption | rfl
theorem encFresh (v : Value) (l : List It) : encSM (freshSM v l) = [v, .slice none 0 0, .int .u64 0, .int .u64 0, .int .u64 0, .int .u64 0, .slice none 0 0] := by simp [encSM, freshSM, wd]
theorem KeepM.grown {mb bm : Nat} {w w' : World} {row : Option Nat} (h : w.grownBy w' row) (hr : ∀ r, row = some r → r = mb ∨ r = bm ∨ mb < r ∧ ∃ c fz, w.heap[r]? = some (.cells c 104 fz)) : KeepM mb bm w w' :=
  ⟨h.os, h.tape, h.output, h.size, fun b hb h1 h2 h3 => h.block b hb (fun e => by
    rcases hr b e.symm with h4 | h4 | ⟨_, c, fz, h4⟩
    · exact h1 h4
    · exact h2 h4
    · exact h3 c fz h4), fun b h0 hb h1 => h.block b hb (fun e => by
    rcases hr b e.symm with h4 | h4 | ⟨h4, _⟩
    · omega
    · exact h1 h4
    · omega)⟩
theorem grown_trans_opt {w w' w'' : World} {row : Option Nat} (h : w.grownBy w' row) (k : w'.grownBy w'' row) : w.grownBy w'' row :=
  ⟨k.os.trans h.os, k.tape.trans h.tape, k.output.trans h.output, Nat.le_trans h.size k.size, fun i hi hne => (k.block i (Nat.lt_of_lt_of_le hi h.size) hne).trans (h.block i hi hne)⟩
theorem infoState : (Tryz.prog.info? 104).map (fun i => (i.zero, i.size, i.bytes)) = some (some (.agg #[.slice none 0 0, .slice none 0 0, .int .u64 0, .int .u64 0, .int .u64 0, .int .u64 0, .slice none 0 0]), 7, 104) := by kernel_rfl
theorem own_ty {w : World} {B : Nat} {e : TypeId} {z : Nat} {v : Value} {n : Nat} {xs : List Value} (h : w.ownsRow B e z v n xs) : ∀ r, v.ownBlock = some r → B ≤ r ∧ ∃ c fz, w.heap[r]? = some (.cells c e fz) := by
  intro r hr
  rcases h.2 with ⟨rfl, _⟩ | ⟨g, cap, cur, rfl, hB, hh, _⟩
  · cases hr
  · injection hr with hr
    subst hr
    exact ⟨hB, cur, _, hh⟩
theorem find_push (L : List (List It)) (K l : List It) (h : L.findIdx? (· == K) = none) : (L ++ [K]).findIdx? (· == l) = if l = K then some L.length else L.findIdx? (· == l) := by
  rw [List.findIdx?_append]
  by_cases e : l = K
  · subst e
    rw [h, if_pos rfl]
    simp
  · rw [if_neg e]
    have : ([K] : List (List It)).findIdx? (· == l) = none := by simp [Ne.symm e]
    rw [this]
    cases L.findIdx? (· == l) <;> rfl
section
variable {g : Gr} {B mb bm : Nat} {sm : List SM} {w w5 w7 : World}
/-- One state more. -/
theorem MkW.push (h : MkW g B mb bm sm w) {K : List It} {v1 va v' : Value} {f : Lit → Option Value} (hK : ∀ x ∈ K, itemOk g x = true) (hKl : K.length ≤ 10000) (h16 : sm.length < 16384)
    (hf : ∀ l, f (.string (keyF l)) = ((sm.map (·.items)).findIdx? (· == l)).map fun (n : Nat) => Value.int .i64 (n : Int)) (hnone : (sm.map (·.items)).findIdx? (· == K) = none)
    (k5 : KeepM mb bm w w5) (h5 : ∀ b, b < B → b ≠ bm → w5.heap[b]? = w.heap[b]?) (hv1 : SliceK (TyD B 53 w5) encIt 2 w5 v1 K)
    (hmap : MapV Tryz.prog 9 w5 bm (sm.length + 1) (putV f (.string (keyF K)) (.int .i64 (sm.length : Int))))
    (hva : w5.ownsRow B 104 7 va sm.length (flatK encSM sm)) (hg7 : w5.grownBy w7 va.ownBlock)
    (hrow : w7.ownsRow B 104 7 v' (sm.length + 1) (flatK encSM sm ++ encSM (freshSM v1 K))) :
    MkW g B mb bm (sm ++ [freshSM v1 K]) (w7.setCell ⟨mb, 7, none⟩ v') ∧ KeepM mb bm w (w7.setCell ⟨mb, 7, none⟩ v') := by
  have hml : mb < w.heap.size := Nat.lt_of_lt_of_le h.mlt h.size
  have hrb : ∀ r, va.ownBlock = some r → B ≤ r := fun r hr => (own_ty hva r hr).1
  have k7 : KeepM mb bm w5 w7 := KeepM.grown hg7 (fun r hr => .inr (.inr ⟨by have := (own_ty hva r hr).1; have := h.mlt; omega, (own_ty hva r hr).2⟩))
  have h7 : ∀ b, b < B → b ≠ bm → w7.heap[b]? = w.heap[b]? := fun b hb hne => (hg7.block b (by have := h.size; have := k5.size; omega) (by intro e; have := hrb b e.symm; omega)).trans (h5 b hb hne)
  have ks : KeepM mb bm w7 (w7.setCell ⟨mb, 7, none⟩ v') := KeepM.grown (grown_set (grown_refl w7 (some mb)) (p := ⟨mb, 7, none⟩) rfl v') (fun r hr => by injection hr with hr; exact .inl hr.symm)
  have kw := (k5.trans k7).trans ks
  have e7 : w7.heap[mb]? = w.heap[mb]? := h7 mb h.mlt h.ne
  have hother : ∀ i, i ≠ 7 → (w7.setCell ⟨mb, 7, none⟩ v').cell? ⟨mb, i, none⟩ = w.cell? ⟨mb, i, none⟩ := fun i hi => by
    rw [← World.cell?_of_block (w := w) (w' := w7) (a := ⟨mb, i, none⟩) e7]
    apply World.cell?_setCell_other
    intro e
    injection e with _ e
    exact hi e.symm
  obtain ⟨vo, a1, _⟩ := h.all
  have hsz : (w7.setCell ⟨mb, 7, none⟩ v').heap.size = w7.heap.size := by simp [World.setCell]
  refine ⟨⟨h.mlt, h.blt, h.ne, Nat.le_trans h.size kw.size, ?_, (hother 6 (by decide)).trans h.met, fun i => ?_, ⟨v', ?_, ?_⟩, ?_, ⟨putV f (.string (keyF K)) (.int .i64 (sm.length : Int)), ?_, ?_⟩, ?_⟩, kw⟩
  · exact h.gr.keep (fun b hb _ => ⟨hb, (Below.heap_setCell w7 ⟨mb, 7, none⟩ v' b hb.2.1).trans (h7 b hb.1 hb.2.2)⟩) kw.size (hother 1 (by decide)) (hother 5 (by decide))
  · rw [World.frozen?_setCell, World.frozen?_of_block (w := w) (a := ⟨mb, i, none⟩) e7]; exact h.fz i
  · exact World.cell?_setCell_same' _ _ _ (by rw [World.cell?_of_block (w := w) (a := ⟨mb, 7, none⟩) e7, a1]; rfl)
  · have h1 : (w7.setCell ⟨mb, 7, none⟩ v').ownsRow B 104 7 v' (sm.length + 1) (flatK encSM sm ++ encSM (freshSM v1 K)) :=
      hrow.kept (row := some mb) (grown_set (grown_refl w7 (some mb)) (p := ⟨mb, 7, none⟩) rfl v') (by
        cases e : v'.ownBlock with
        | none => exact .inl rfl
        | some b => exact .inr (by have := (own_ty hrow b e).1; have := h.mlt; intro e2; injection e2 with e2; omega))
    rw [flatK_snoc] at h1
    simpa using h1
  · intro s hs
    rcases List.mem_append.1 hs with hs | hs
    · exact (h.each s hs).keep kw h.mlt h.blt
    · rw [List.mem_singleton] at hs
      subst hs
      exact ⟨hv1.ty ((k7.trans ks).ty (by decide) h.mlt h.blt), SliceK.nil, SliceK.nil, hK, hKl⟩
  · have h1 := (hmap.grown hg7 (by intro e; have := hrb bm e.symm; have := h.blt; omega)).setCell (p := ⟨mb, 7, none⟩) (Ne.symm h.ne) v'
    simpa using h1
  · intro l
    rw [putV_string, List.map_append, List.map_singleton]
    show _ = Option.map (fun (n : Nat) => Value.int .i64 (n : Int)) ((sm.map (·.items) ++ [K]).findIdx? (· == l))
    rw [find_push _ _ _ hnone]
    by_cases e : l = K
    · subst e
      rw [if_pos rfl, if_pos rfl, List.length_map]; rfl
    · rw [if_neg (fun e2 => e (key_inj _ _ e2)), if_neg e]
      exact hf l
  · simp; omega
end
end Go.Proofs.YtknpkndiflodbaaGreatDoor.Tb
