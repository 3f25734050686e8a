/- Walks and plain laws that the last text stands on: TbRefM. -/
import Derived.Test.YtknpkndiflodbaaGreatDoorTs24
import Derived.Test.YtknpkndiflodbaaGreatDoorTs5
import Derived.Test.YtknpkndiflodbaaGreatDoorTs16
set_option linter.unusedVariables false
set_option linter.unusedSimpArgs false
set_option maxRecDepth 100000
set_option maxHeartbeats 16000000
namespace Go.Proofs.YtknpkndiflodbaaGreatDoor.Tb
open Go Go.RowKit Go.Proofs Mx
structure RS where
 vi : Value
 ve : Value
 items : List It
 edges : List (Sy × Nat)
def encRS (s : RS) : List Value := [s.vi, s.ve]
theorem encRS_len (s : RS) : (encRS s).length = 2 := rfl
theorem infoRState : (Tryz.prog.info? 62).map (fun i => (i.zero, i.size, i.bytes)) = some (some (.agg #[.slice none 0 0, .slice none 0 0]), 2, 48) := by kernel_rfl
theorem infoREdge : (Tryz.prog.info? 64).map (fun i => (i.zero, i.size, i.bytes)) = some (some (.agg #[.int .i64 0, .int .u64 0, .int .u64 0, .int .u64 0, .int .u64 0, .int .i64 0, .int .i64 0]), 7, 56) := by kernel_rfl
structure RSok (g : Gr) (B : Nat) (w : World) (s : RS) : Prop where
 items : SliceK (TyD B 53 w) encIt 2 w s.vi s.items
 ok : ∀ x ∈ s.items, itemOk g x = true
 len : s.items.length <= 3100
structure RefM (g : Gr) (B C n m : Nat) (v : Value) (sm : List RS) (w : World) : Prop where
 row : w.ownsRow B 62 2 v sm.length (flatK encRS sm)
 each : ∀ s ∈ sm, RSok g B w s
 old : ∀ i s, i < n -> sm[i]? = some s -> SliceK (fun b => TyD B 64 w b /\ b < C) encEd 7 w s.ve s.edges
 new : ∀ i s, m <= i -> sm[i]? = some s -> s.ve = .slice none 0 0 /\ s.edges = []
section
variable {g : Gr} {B C n m : Nat} {v : Value} {sm : List RS} {w w' : World}
theorem RSok.same {s : RS} (h : RSok g B w s) (hb : ∀ b c fz, w.heap[b]? = some (.cells c 53 fz) -> B <= b -> w'.heap[b]? = w.heap[b]?) : RSok g B w' s :=
 ⟨h.items.ty hb, h.ok, h.len⟩
theorem edges_same {l : List (Sy × Nat)} {u : Value} (h : SliceK (fun b => TyD B 64 w b /\ b < C) encEd 7 w u l) (hb : ∀ b c fz, w.heap[b]? = some (.cells c 64 fz) -> B <= b -> b < C -> w'.heap[b]? = w.heap[b]?) :
  SliceK (fun b => TyD B 64 w' b /\ b < C) encEd 7 w' u l :=
 h.keep fun b hD hl => by
  obtain ⟨⟨h1, c, fz, h2⟩, h3⟩ := hD
  have e := hb b c fz h2 h1 h3
  exact ⟨⟨⟨h1, c, fz, e ▸ h2⟩, h3⟩, e⟩
theorem lt_of_cells {b : Nat} {c : Array Value} {t : TypeId} {fz : Nat × Nat} (h : w.heap[b]? = some (.cells c t fz)) : b < w.heap.size := (Array.getElem?_eq_some_iff.1 h).1
theorem RefM.below (h : RefM g B C n m v sm w) (hb : Below w.heap.size w w') : RefM g B C n m v sm w' :=
 ⟨row_below h.row hb, fun s hs => (h.each s hs).same fun b c fz e _ => hb.block b (lt_of_cells e), fun i s hi hs => edges_same (h.old i s hi hs) fun b c fz e _ _ => hb.block b (lt_of_cells e), h.new⟩
theorem RefM.grown {row : Option Nat} (h : RefM g B C n m v sm w) (hg : w.grownBy w' row) (hr : ∀ b, row = some b -> C <= b /\ ∀ c t fz, w.heap[b]? = some (.cells c t fz) -> t = 64) : RefM g B C n m v sm w' := by
 refine ⟨h.row.kept hg ?_, fun s hs => (h.each s hs).same fun b c fz e _ => hg.block b (lt_of_cells e) ?_, fun i s hi hs => edges_same (h.old i s hi hs) fun b c fz e _ hC => hg.block b (lt_of_cells e) ?_, h.new⟩
 ·cases hv : v.ownBlock with
  | none => exact .inl rfl
  | some b =>
   refine .inr fun e => ?_
   obtain ⟨_, c, fz, hc⟩ := own_ty h.row b hv
   exact absurd ((hr b e.symm).2 _ _ _ hc) (by decide)
 ·exact fun e1 => absurd ((hr b e1.symm).2 _ _ _ e) (by decide)
 ·exact fun e1 => by have := (hr b e1.symm).1; omega
theorem RefM.rowed {v' : Value} {sm' : List RS} (h : RefM g B C n m v sm w) (hg : w.grownBy w' v.ownBlock) (hrow : w'.ownsRow B 62 2 v' sm'.length (flatK encRS sm'))
  (heach : ∀ s ∈ sm', (∃ t ∈ sm, s.vi = t.vi /\ s.items = t.items) ∨ RSok g B w' s) (hold : ∀ i, i < n -> sm'[i]? = sm[i]?) (hnew : ∀ i s, m <= i -> sm'[i]? = some s -> s.ve = .slice none 0 0 /\ s.edges = []) : RefM g B C n m v' sm' w' := by
 have hty : ∀ (b : Nat) (c : Array Value) (t : TypeId) (fz : Nat × Nat), w.heap[b]? = some (.cells c t fz) -> t ≠ 62 -> w'.heap[b]? = w.heap[b]? := fun b c t fz e ht => hg.block b (lt_of_cells e) fun e1 => by
  obtain ⟨_, c', fz', hc⟩ := own_ty h.row b e1.symm
  rw [e] at hc
  injection hc with hc
  injection hc with _ hc _
  exact ht hc
 refine ⟨hrow, fun s hs => ?_, fun i s hi hs => ?_, hnew⟩
 ·rcases heach s hs with ⟨t, ht, e1, e2⟩ | h1
  ·have := (h.each t ht).same fun b c fz e _ => hty b c _ fz e (by decide)
   exact ⟨e1 ▸ e2 ▸ this.items, e2 ▸ this.ok, e2 ▸ this.len⟩
  ·exact h1
 ·rw [hold i hi] at hs
  exact edges_same (h.old i s hi hs) fun b c fz e _ _ => hty b c _ fz e (by decide)
theorem RefM.lift {C' n' m' : Nat} (h : RefM g B C n m v sm w) (hold : ∀ i s, i < n' -> sm[i]? = some s -> SliceK (fun b => TyD B 64 w b /\ b < C') encEd 7 w s.ve s.edges) (hnew : m <= m') : RefM g B C' n' m' v sm w :=
 ⟨h.row, h.each, hold, fun i s hi hs => h.new i s (Nat.le_trans hnew hi) hs⟩
theorem RefM.low {B' : Nat} (h : RefM g B C n m v sm w) (hB : B' <= B) : RefM g B' C n m v sm w :=
 ⟨own_low h.row hB, fun s hs => ⟨(h.each s hs).items.tyLow hB, (h.each s hs).ok, (h.each s hs).len⟩, fun i s hi hs => (h.old i s hi hs).imp fun b hb _ => ⟨hb.1.low hB, hb.2⟩, h.new⟩
theorem RefM.widen {C' m' : Nat} (h : RefM g B C n m v sm w) (hC : C <= C') (hm : m <= m') : RefM g B C' n m' v sm w :=
 h.lift (fun i s hi hs => (h.old i s hi hs).imp fun b hb _ => ⟨hb.1, Nat.lt_of_lt_of_le hb.2 hC⟩) hm
end
theorem own_cellK {α : Type} {enc : α -> List Value} {k : Nat} (hk : ∀ x, (enc x).length = k) {w : World} {B : Nat} {e : TypeId} {g n n' cap : Nat} {l : List α} (h : w.ownsRow B e k (.slice (some ⟨g, 0, none⟩) n' cap) n (flatK enc l)) {i : Nat} {x : α} (hx : l[i]? = some x) (j : Nat) {u : Value} (hj : (enc x)[j]? = some u) : w.cell? ⟨g, i * k + j, none⟩ = some u := by
 have h1 := h.cells (g := g) rfl (i * k + j) u (flatK_get hk l i x j u hx hj)
 rw [addr_add_, Nat.zero_add] at h1
 exact h1
theorem flatRS_set : ∀ (sj : List RS) (n : Nat) (s s' : RS), sj[n]? = some s -> s'.vi = s.vi -> (flatK encRS sj).set (n * 2 + 1) s'.ve = flatK encRS (sj.set n s')
 | [], n, s, s', h, _ => by simp at h
 | x :: t, 0, s, s', h, hv => by
  simp at h
  subst h
  simp [flatK, encRS, hv]
 | x :: t, n + 1, s, s', h, hv => by
  have := flatRS_set t n s s' (by simpa using h) hv
  rw [List.set_cons_succ, flatK_cons, flatK_cons, <- this, show (n + 1) * 2 + 1 = (n * 2 + 1) + 1 + 1 by omega]
  simp [encRS]
theorem own_only {w : World} {B : Nat} {e : TypeId} {z : Nat} {v : Value} {n : Nat} {xs : List Value} (h : w.ownsRow B e z v n xs) : ∀ b, v.ownBlock = some b -> B <= b /\ ∀ c t fz, w.heap[b]? = some (.cells c t fz) -> t = e := fun b hb => by
 obtain ⟨h1, c, fz, h2⟩ := own_ty h b hb
 refine ⟨h1, fun c' t fz' h3 => ?_⟩
 rw [h2] at h3
 injection h3 with h3
 injection h3 with _ h3 _
 exact h3.symm
theorem own_frozenV {w : World} {B : Nat} {e : TypeId} {z : Nat} {v : Value} {n : Nat} {xs : List Value} (h : w.ownsRow B e z v n xs) {g n' c : Nat} (hv : v = .slice (some ⟨g, 0, none⟩) n' c) (i : Nat) : w.frozen? ⟨g, i, none⟩ = false := by
 subst hv
 rcases h.2 with ⟨h1, _⟩ | ⟨g', cap, cur, h1, _, h2, _⟩
 ·cases h1
 ·injection h1 with h1 _ _
  injection h1 with h1
  injection h1 with h1
  subst h1
  simp [World.frozen?, h2]
theorem map_set_same {α β : Type} (f : α -> β) {l : List α} {n : Nat} {s s' : α} (h : l[n]? = some s) (hf : f s' = f s) : (l.set n s').map f = l.map f := by
 apply List.ext_getElem?
 intro i
 rw [List.getElem?_map, List.getElem?_map]
 by_cases e : n = i
 ·subst e
  rw [List.getElem?_set_self (List.getElem?_eq_some_iff.1 h).1, h]
  simp [hf]
 ·rw [List.getElem?_set_ne e]
section
variable {g : Gr} {B C n : Nat} {v : Value} {sm : List RS} {w w' : World}
theorem RefM.edge {xv ve vi : Value} {l : List It} {e : List (Sy × Nat)} {y : Sy} {tn gb gcap SL : Nat} (hSL : SL = sm.length) (h : RefM g B C n (n + 1) (.slice (some ⟨gb, 0, none⟩) SL gcap) sm w) (hat : sm[n]? = some ⟨vi, ve, l, e⟩) (hown : w.ownsRow C 64 7 ve e.length (flatK encEd e))
  (hg : w.grownBy w' ve.ownBlock) (hx : w'.ownsRow C 64 7 xv (e.length + 1) (flatK encEd e ++ encEd (y, tn))) :
  RefM g B C n (n + 1) (.slice (some ⟨gb, 0, none⟩) SL gcap) (sm.set n ⟨vi, xv, l, e ++ [(y, tn)]⟩) (w'.setCell ⟨gb, n * 2 + 1, none⟩ xv) /\ (w'.setCell ⟨gb, n * 2 + 1, none⟩ xv).ownsRow C 64 7 xv (e ++ [(y, tn)]).length (flatK encEd (e ++ [(y, tn)])) := by
 subst hSL
 have h1 := h.grown hg (own_only hown)
 have hlt : n < sm.length := (List.getElem?_eq_some_iff.1 hat).1
 have hgr : w'.grownBy (w'.setCell ⟨gb, n * 2 + 1, none⟩ xv) (Value.slice (some ⟨gb, 0, none⟩) sm.length gcap).ownBlock := grown_set (grown_refl w' (some gb)) (p := ⟨gb, n * 2 + 1, none⟩) rfl xv
 refine ⟨h1.rowed hgr ?_ ?_ ?_ ?_, ?_⟩
 ·have h2 := own_put h1.row (n * 2 + 1) (by omega) xv
  have h3 := flatRS_set sm n _ ⟨vi, xv, l, e ++ [(y, tn)]⟩ hat rfl
  rw [List.length_set, <- h3]
  exact h2
 ·intro s hs
  rcases List.mem_or_eq_of_mem_set hs with h2 | rfl
  ·exact .inl ⟨s, h2, rfl, rfl⟩
  ·exact .inl ⟨_, List.mem_of_getElem? hat, rfl, rfl⟩
 ·intro i hi
  exact List.getElem?_set_ne (by omega)
 ·intro i s hi hs
  rw [List.getElem?_set_ne (by omega)] at hs
  exact h1.new i s hi hs
 ·have h2 := hx.kept hgr (own_ne hx h1.row (by decide))
  rw [flatK_snoc] at h2
  rw [List.length_append]
  exact h2
theorem RefM.push {u v' : Value} {L : List It} (h : RefM g B C n (n + 1) v sm w) (hn : n < sm.length) (hg : w.grownBy w' v.ownBlock) (hrow : w'.ownsRow B 62 2 v' (sm.length + 1) (flatK encRS sm ++ [u, .slice none 0 0])) (hit : RSok g B w' ⟨u, .slice none 0 0, L, []⟩) :
  RefM g B C n (n + 1) v' (sm ++ [⟨u, .slice none 0 0, L, []⟩]) w' := by
 refine h.rowed hg ?_ ?_ ?_ ?_
 ·rw [List.length_append, <- flatK_snoc]
  exact hrow
 ·intro s hs
  rcases List.mem_append.1 hs with h1 | h1
  ·exact .inl ⟨s, h1, rfl, rfl⟩
  ·rw [List.mem_singleton] at h1
   subst h1
   exact .inr hit
 ·intro i hi
  rw [List.getElem?_append_left (by omega)]
 ·intro i s hi hs
  by_cases h1 : i < sm.length
  ·rw [List.getElem?_append_left h1] at hs
   exact h.new i s hi hs
  ·have h2 := (List.getElem?_eq_some_iff.1 hs).1
   rw [List.length_append, List.length_singleton] at h2
   have h3 : i = sm.length := by omega
   subst h3
   simp at hs
   subst hs
   exact ⟨rfl, rfl⟩
end
def FoundAt (all : List (List It)) (l : List It) (k : Nat) (t : Int) : Prop := (t = -1 /\ ∀ j, j < k -> all[j]? ≠ some l) ∨ ∃ j : Nat, t = (j : Int) /\ j < k /\ all[j]? = some l
theorem FoundAt.start (all : List (List It)) (l : List It) : FoundAt all l 0 (-1) := .inl ⟨rfl, fun j hj => absurd hj (Nat.not_lt_zero _)⟩
theorem FoundAt.hit {all : List (List It)} {l : List It} {k : Nat} (h : all[k]? = some l) : FoundAt all l (k + 1) (k : Int) := .inr ⟨k, rfl, Nat.lt_succ_self _, h⟩
theorem FoundAt.miss {all : List (List It)} {l : List It} {k : Nat} {t : Int} (h : FoundAt all l k t) (hk : all[k]? ≠ some l) : FoundAt all l (k + 1) t := by
 rcases h with ⟨h1, h2⟩ | ⟨j, h1, h2, h3⟩
 ·refine .inl ⟨h1, fun j hj => ?_⟩
  by_cases e : j = k
  ·subst e; exact hk
  ·exact h2 j (by omega)
 ·exact .inr ⟨j, h1, by omega, h3⟩
theorem numbersC_append (C : Nat) : ∀ (L M : List (Sy × List It)) (all : List (List It)), numbersC C all (L ++ M) =
  match numbersC C all L with
  | none => none
  | some (e, a) => match numbersC C a M with
   | none => none
   | some (e', a') => some (e ++ e', a')
 | [], M, all => by
  rw [numbersC, List.nil_append]
  dsimp only
  cases numbersC C all M with
  | none => rfl
  | some r => rfl
 | (s, l) :: t, M, all => by
  rw [List.cons_append, numbersC, numbersC]
  cases numberC C all l with
  | none => rfl
  | some r =>
   obtain ⟨n, a1⟩ := r
   dsimp only
   rw [numbersC_append C t M a1]
   cases numbersC C a1 t with
   | none => rfl
   | some r =>
    obtain ⟨e, a2⟩ := r
    dsimp only
    cases numbersC C a2 M with
    | none => rfl
    | some r => rfl
theorem numbersC_len {C : Nat} : ∀ {L : List (Sy × List It)} {all a : List (List It)} {e : List (Sy × Nat)}, numbersC C all L = some (e, a) -> e.length = L.length
 | [], all, a, e, h => by
  rw [numbersC] at h
  injection h with h
  injection h with h1 h2
  subst h1
  rfl
 | (s, l) :: t, all, a, e, h => by
  rw [numbersC] at h
  cases h1 : numberC C all l with
  | none => rw [h1] at h; cases h
  | some r =>
   obtain ⟨n, a1⟩ := r
   rw [h1] at h
   dsimp only at h
   cases h2 : numbersC C a1 t with
   | none => rw [h2] at h; cases h
   | some r =>
    obtain ⟨e2, a2⟩ := r
    rw [h2] at h
    injection h with h
    injection h with h3 h4
    subst h3
    rw [List.length_cons, List.length_cons, numbersC_len h2]
theorem ledR_len (g : Gr) (l : List It) : ((symsR g l).map fun y => (y, closedF g (movedR g l y))).length = (symsR g l).length := List.length_map ..
theorem numbersC_one (C : Nat) (all : List (List It)) (s : Sy) (l : List It) : numbersC C all [(s, l)] = match numberC C all l with | none => none | some (n, a) => some ([(s, n)], a) := by
 rw [numbersC]
 cases numberC C all l with
 | none => rfl
 | some r => rfl
theorem find_there {all : List (List It)} (hn : all.Nodup) {l : List It} {j : Nat} (h : all[j]? = some l) : all.findIdx? (· == l) = some j := by
 obtain ⟨hj, hl⟩ := List.getElem?_eq_some_iff.1 h
 rw [List.findIdx?_eq_some_iff_getElem]
 refine ⟨hj, by simp [hl], fun k hk => ?_⟩
 have hne : all[k] ≠ l := fun e => by
  have := List.pairwise_iff_getElem.1 hn k j (by omega) hj hk
  exact this (e.trans hl.symm)
 simpa using hne
theorem find_none {all : List (List It)} {l : List It} (h : ∀ j, j < all.length -> all[j]? ≠ some l) : all.findIdx? (· == l) = none /\ l ∉ all := by
 have hm : l ∉ all := fun hm => by
  obtain ⟨j, hj, e⟩ := List.mem_iff_getElem.1 hm
  exact h j hj (by rw [List.getElem?_eq_getElem hj, e])
 refine ⟨?_, hm⟩
 rw [List.findIdx?_eq_none_iff]
 intro x hx
 have : x ≠ l := by rintro rfl; exact hm hx
 simpa using this
theorem numberC_there {C : Nat} {all : List (List It)} (hn : all.Nodup) {l : List It} {j : Nat} (h : all[j]? = some l) : numberC C all l = some (j, all) := by
 unfold numberC; rw [find_there hn h]
theorem numberC_new {C : Nat} {all : List (List It)} {l : List It} (h : ∀ j, j < all.length -> all[j]? ≠ some l) : numberC C all l = if C <= all.length then none else some (all.length, all ++ [l]) := by
 unfold numberC; rw [(find_none h).1]
def ledR (g : Gr) (l : List It) : List (Sy × List It) := (symsR g l).map fun y => (y, closedF g (movedR g l y))
theorem ledR_take_succ (g : Gr) (l : List It) (i : Nat) {y : Sy} (h : (symsR g l)[i]? = some y) : (ledR g l).take (i + 1) = (ledR g l).take i ++ [(y, closedF g (movedR g l y))] := by
 unfold ledR
 rw [List.take_add_one, List.getElem?_map, h]
 rfl
theorem ledR_split (g : Gr) (l : List It) (i : Nat) {y : Sy} (h : (symsR g l)[i]? = some y) : ∃ M, ledR g l = (ledR g l).take i ++ ((y, closedF g (movedR g l y)) :: M) := by
 refine ⟨(ledR g l).drop (i + 1), ?_⟩
 have h1 := List.take_append_drop (i + 1) (ledR g l)
 rw [ledR_take_succ g l i h, List.append_assoc] at h1
 exact h1.symm
theorem led_step {C : Nat} {g : Gr} {l : List It} {all a1 a2 : List (List It)} {e : List (Sy × Nat)} {i n : Nat} {y : Sy} (h : numbersC C all ((ledR g l).take i) = some (e, a1)) (hy : (symsR g l)[i]? = some y) (hn : numberC C a1 (closedF g (movedR g l y)) = some (n, a2)) :
  numbersC C all ((ledR g l).take (i + 1)) = some (e ++ [(y, n)], a2) := by
 rw [ledR_take_succ g l i hy, numbersC_append, h]
 dsimp only
 rw [numbersC_one, hn]
theorem led_stop {C : Nat} {g : Gr} {l : List It} {all a1 : List (List It)} {e : List (Sy × Nat)} {i : Nat} {y : Sy} (h : numbersC C all ((ledR g l).take i) = some (e, a1)) (hy : (symsR g l)[i]? = some y) (hn : numberC C a1 (closedF g (movedR g l y)) = none) :
  numbersC C all (ledR g l) = none := by
 obtain ⟨M, hM⟩ := ledR_split g l i hy
 rw [hM, numbersC_append, h]
 dsimp only
 rw [numbersC, hn]
def StatesAt (C : Nat) (g : Gr) (n : Nat) (all : List (List It)) (sts : List St) : Prop := makeC C g = (statesC C g (16385 - n) n all).map (sts ++ ·)
theorem statesAt_start (C : Nat) (g : Gr) : StatesAt C g 0 [closedF g ((ofS g g.start).map (·, 0))] [] := by
 unfold StatesAt makeC
 cases statesC C g 16385 0 [closedF g ((ofS g g.start).map (·, 0))] <;> rfl
theorem statesAt_step {C : Nat} {g : Gr} {n : Nat} {all all' : List (List It)} {sts : List St} {l : List It} {e : List (Sy × Nat)} (hn : n <= 16384) (h : StatesAt C g n all sts) (hl : all[n]? = some l) (he : numbersC C all (leadsF g l) = some (e, all')) :
  StatesAt C g (n + 1) all' (sts ++ [⟨l, e, doneF g l⟩]) := by
 unfold StatesAt at h ⊢
 rw [h, show 16385 - n = (16385 - (n + 1)) + 1 by omega, statesC, hl]
 dsimp only
 rw [he]
 dsimp only
 cases statesC C g (16385 - (n + 1)) (n + 1) all' with
 | none => rfl
 | some t => simp
theorem statesAt_stop {C : Nat} {g : Gr} {n : Nat} {all : List (List It)} {sts : List St} {l : List It} (hn : n <= 16384) (h : StatesAt C g n all sts) (hl : all[n]? = some l) (he : numbersC C all (leadsF g l) = none) : makeC C g = none := by
 unfold StatesAt at h
 rw [h, show 16385 - n = (16385 - (n + 1)) + 1 by omega, statesC, hl]
 dsimp only
 rw [he]
 rfl
theorem statesAt_end {C : Nat} {g : Gr} {n : Nat} {all : List (List It)} {sts : List St} (hn : n <= 16384) (h : StatesAt C g n all sts) (hl : all.length <= n) : makeC C g = some sts := by
 unfold StatesAt at h
 rw [h, show 16385 - n = (16385 - (n + 1)) + 1 by omega, statesC, List.getElem?_eq_none hl]
 simp
theorem symsR_lt {g : Gr} {l : List It} {y : Sy} (h : y ∈ symsR g l) : y.set < 2 ^ 256 := by
 unfold symsR at h
 rcases List.mem_append.1 h with h | h
 ·obtain ⟨n, _, rfl⟩ := List.mem_map.1 h
  exact Nat.pow_pos (by decide)
 ·obtain ⟨c, hc, rfl⟩ := List.mem_map.1 h
  exact refSplit_lt (List.mem_filter.1 hc).1
theorem symsR_lenM (g : Gr) (l : List It) : (symsR g l).length <= g.sorts.length + 256 := by
 rw [symsR_parts, List.length_append]
 have h1 := sortsN_len g l g.sorts.length
 have h2 := partsN_len (setsOf g l) (refSplit (setsOf g l)).length
 have h3 := refSplit_len (setsOf g l)
 omega
end Go.Proofs.YtknpkndiflodbaaGreatDoor.Tb
