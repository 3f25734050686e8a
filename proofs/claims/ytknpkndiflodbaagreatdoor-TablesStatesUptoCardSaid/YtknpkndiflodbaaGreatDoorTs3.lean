/- Walks and plain laws that the last text stands on: RangeA. -/
import Derived.Scope
import Derived.WalkMore
import Derived.RangeFuncNested
import Derived.RangeFuncBound
import Derived.RangeFuncCalls
import Derived.RangeFuncLeaves
import Derived.RangeFuncFrom
import Derived.Test.YtknpkndiflodbaaGreatDoorTs2
import Derived.Sort.QuietIn
import Derived.OwnWalkIn
import Derived.StillTail
import Derived.StillTactics
import Derived.Sort.Grow
import Derived.Deep.LoopGhost
import Derived.RangeFuncRecord
import Derived.RangeFuncWrites
import Derived.StillTailTactics
import Derived.OrdersHeld
set_option linter.unusedVariables false
set_option linter.unusedSimpArgs false
set_option maxRecDepth 100000
set_option maxHeartbeats 16000000
namespace Go.Proofs.YtknpkndiflodbaaGreatDoor.Mx
open Go Go.RowKit

def SeqO (F : Fence) (n : Nat) (P : Program) (g : Nat) (lb : Array Value) (encs : Nat -> Array Value) (Kp : World -> World -> Prop) (N : Nat) (w : World) : Prop :=
 ∀ (l : Nat) (J Jx : Nat -> World -> Prop) (W : World), Below w.heap.size w W -> AbidesFrom W.heap.size J -> AbidesFrom W.heap.size Jx ->
  (∀ k W1, J k W1 -> k < N -> YieldAt F (n - 1) P l (encs k) W1 fun e W' =>
   (e = .returned (.bool true) /\ J (k + 1) W' /\ Kp W1 W') ∨ (e = .returned (.bool false) /\ Jx (k + 1) W')) ->
  J 0 W ->
  CallsIn F n P g (#[.func (.yield l) #[] #[]] ++ lb) W fun e W' => (∃ v, e = .returned v) /\ (J N W' ∨ (∃ k, k <= N /\ Jx k W'))

def ownPostO (Kp : World -> World -> Prop) (I : Nat -> World -> Prop) (Ix : Code -> Nat -> World -> Prop) (k : Nat) (W : World) : Exit -> Act -> World -> Prop
 | .normal, _, W' => KeepsOthers W W' /\ Kp W W' /\ I k W'
 | .ret, _, W' => KeepsOthers W W' /\ Ix .ret k W'
 | .exit id, _, W' => KeepsOthers W W' /\ Ix (.exit id) k W'
 | .goto t, _, W' => KeepsOthers W W' /\ Ix (.goto t) k W'
 | .panic _, _, _ => False
 | .outgrown, _, _ => False

variable {F : Fence} {n : Nat} {P : Program}

end Go.Proofs.YtknpkndiflodbaaGreatDoor.Mx
namespace Go.Proofs.YtknpkndiflodbaaGreatDoor.Mx
open Go Go.RowKit
section
variable {F : Fence} {n : Nat} {P : Program} {ops : Array Oper} {md : Region.Mode} {C : World → Prop}
def noDefer (l : List Oper) : Bool := l.all fun o => match o.op with | .defer _ => false | _ => true
theorem noDefer_spec {l : List Oper} (h : noDefer l = true) {i : Nat} {o : Oper} (ho : l[i]? = some o) : ∀ c, o.op ≠ .defer c := by
 intro c hc
 have := List.all_eq_true.1 h o (List.mem_of_getElem? ho)
 rw [hc] at this
 cases this
theorem wpIn_of_quiet_ {o : Oper} {a : Act} {K : Act -> Prop} {K' : Act -> World -> Prop} {Q' : Exit -> Act -> World -> Prop} {w : World} (hd : ∀ c, o.op ≠ .defer c) (hw : C w) (h : ∀ a w', C w' -> K a -> K' a w')
  (ha : o.askedIn F P a C) (hh : o.quietIn F n P a C K) : o.wpIn F n P a w K' Q' := by
 obtain ⟨v, h1, h2⟩ := hh
 have h3 := h1 w hw
 unfold Oper.quietAtIn at h3
 unfold Oper.wpIn
 refine ⟨ha w hw, ?_⟩
 rw [Oper.semAt_plain F _ _ hd]
 generalize (execOp a.eval o).run P w = r at *
 cases r with
 | ok x w' =>
  cases x <;> simp only [Oper.quietUponIn] at h3 <;> simp only [Oper.uponIn]
  case value u =>
   obtain ⟨e1, e2⟩ := h3
   rw [e1, e2]
   exact h _ _ hw h2
  case skip =>
   obtain ⟨e1, e2⟩ := h3
   rw [e1, <- e2]
   exact h _ _ hw h2
  case enter f args =>
   obtain ⟨e1, hd, hc⟩ := h3
   rw [e1]
   exact ⟨hd, hc.mono fun e w'' ⟨he, hw''⟩ => by subst he; exact h _ _ hw'' h2⟩
 | halt x w' => simp only [Oper.quietUponIn] at h3
theorem wpOpIn_of_qOpIn_ {i : Nat} {a : Act} {K : Act -> Prop} {K' : Act -> World -> Prop} {Q' : Exit -> Act -> World -> Prop} {w : World} (hd : ∀ (i : Nat) (o : Oper), ops[i]? = some o -> ∀ c, o.op ≠ .defer c) (hC : C w) (h : ∀ a w', C w' -> K a -> K' a w')
  (hh : qOpIn F n P ops C i K a) : wpOpIn F n P ops Q' i K' a w := by
 unfold qOpIn at hh
 unfold wpOpIn
 split
 ·rename_i ho; simp only [ho] at hh; exact h _ _ hC hh
 ·rename_i o ho
  simp only [ho] at hh
  obtain ⟨ha, hh⟩ := hh
  split
  ·rename_i hw; simp only [hw, if_true] at hh; exact wpIn_of_quiet_ (hd _ _ ho) hC h ha hh
  ·rename_i hw; simp only [hw] at hh; exact ⟨ha w hC, h _ _ hC hh⟩
theorem wpAnyIn_of_quiet_ {Q : Act -> Prop} {Q' : Exit -> Act -> World -> Prop} (hd : ∀ (i : Nat) (o : Oper), ops[i]? = some o -> ∀ c, o.op ≠ .defer c) (hQ : ∀ a w, C w -> Q a -> Q' .normal a w) : ∀ (fuel : Nat) (listed : Array Bool) (a : Act) (w : World), C w ->
  wpAnyQIn F n P md ops C Q fuel listed a -> wpAnyIn F n P md ops Q' fuel listed a w
 | 0, _, _, _, hw, h => ⟨h.1, hQ _ _ hw h.2⟩
 | fuel + 1, _, _, _, hw, h => ⟨fun h0 => hQ _ _ hw (h.1 h0), fun i hi => wpOpIn_of_qOpIn_ hd hw (fun a' w' hw' => wpAnyIn_of_quiet_ hd hQ fuel _ a' w' hw') (h.2 i hi)⟩
theorem wpIn_region_quiet_round {id : Nat} {Q : Exit -> Act -> World -> Prop} {a : Act} {w : World} {l : List Oper} (hn : noDefer l = true) (hm : P.follows .mixedOrders = true) (hB : Region.lexB .any l.toArray = true)
  (h : wpQuietIn F n P l.toArray (fun w' => ∃ n, w' = w.drewN n) (fun a' => ∀ w', (∃ n, w' = w.drewN n) -> Q .normal a' w') l a) : (Code.region id l.toArray true).wpIn F n P Q a w := by
 simp only [Region.lexB, Bool.and_eq_true] at hB
 refine wpIn_region_any hm (wpAnyIn_of_quiet_ (C := fun w' => ∃ n, w' = w.drewN n) (Q := fun a' => ∀ w', (∃ n, w' = w.drewN n) -> Q .normal a' w') (fun i o ho => noDefer_spec hn (by simpa using ho)) (fun _ w' hw' h => h w' hw') _ _ _ _ ⟨1, rfl⟩ ?_)
 have := wpAnyQIn_lex (F := F) (n := n) (C := fun w' => ∃ n, w' = w.drewN n) (md := .any) hB.1 l 0 (Array.replicate l.toArray.size false) a (by simp) (by simpa using hB.2) h
 simpa using this
end
end Go.Proofs.YtknpkndiflodbaaGreatDoor.Mx
namespace Go.Proofs.YtknpkndiflodbaaGreatDoor.Mx
open Go Go.RowKit
variable {F : Fence} {n : Nat} {P : Program}
end Go.Proofs.YtknpkndiflodbaaGreatDoor.Mx
namespace Go.Proofs.YtknpkndiflodbaaGreatDoor.Mx
open Go
end Go.Proofs.YtknpkndiflodbaaGreatDoor.Mx
namespace Go.Proofs.YtknpkndiflodbaaGreatDoor.Mx
open Go Go.RowKit
def SeqP (F : Fence) (n : Nat) (P : Program) (g : Nat) (lb : Array Value) (encs : Nat -> Array Value) (Kp : World -> World -> Prop) (N : Nat) (w : World) : Prop :=
 ∀ (l : Nat) (J Jx : Nat -> World -> Prop) (W : World), Below w.heap.size w W ->
  (∀ k W1, J k W1 -> k < N -> YieldAt F (n - 1) P l (encs k) W1 fun e W' =>
   (e = .returned (.bool true) /\ J (k + 1) W' /\ Kp W1 W') ∨ (e = .returned (.bool false) /\ Jx (k + 1) W')) ->
  J 0 W ->
  CallsIn F n P g (#[.func (.yield l) #[] #[]] ++ lb) W fun e W' => (∃ v, e = .returned v) /\ (J N W' ∨ (∃ k, k <= N /\ Jx k W'))
structure OwnP {β : Type} (B : Nat) (I : β -> World -> Prop) : Prop where
 alloc : ∀ {s : β} {W : World} (o : Obj), I s W -> I s (W.alloc o)
 putObj : ∀ {s : β} {W : World} {l : Nat} {o : Obj} (o' : Obj), I s W -> B <= l -> W.heap[l]? = some o -> o.isCells = false -> I s (W.putObj l o')
def Grew (w w' : World) : Prop := ∃ q os, w' = Sort.grow (w.drewN q) os
section
variable {w w' w'' : World}
theorem Grew.refl (w : World) : Grew w w := ⟨0, #[], by rw [Sort.grow_empty]; rfl⟩
theorem Grew.trans (h : Grew w w') (k : Grew w' w'') : Grew w w'' := by
 obtain ⟨q, os, rfl⟩ := h
 obtain ⟨q', os', rfl⟩ := k
 refine ⟨q + q', os ++ os', ?_⟩
 show Sort.grow (Sort.grow ((w.drewN q).drewN q') os) os' = _
 rw [Sort.grow_grow]
 show Sort.grow { w with drawn := w.drawn + q + q' } _ = Sort.grow { w with drawn := w.drawn + (q + q') } _
 rw [Nat.add_assoc]
theorem Grew.alloc (h : Grew w w') (o : Obj) : Grew w (w'.alloc o) := h.trans ⟨0, #[o], by rw [Sort.alloc_eq_grow]; rfl⟩
theorem Grew.below (h : Grew w w') : Below w.heap.size w w' := by
 obtain ⟨q, os, rfl⟩ := h
 refine ⟨rfl, rfl, rfl, by simp [Sort.grow, World.drewN], fun k hk => ?_⟩
 show (w.heap ++ os)[k]? = _
 rw [Array.getElem?_append_left hk]
theorem Grew.modify (h : Grew w w') (l : Nat) (hl : w.heap.size <= l) (f : Obj -> Obj) : Grew w { w' with heap := w'.heap.modify l f } := by
 obtain ⟨q, os, rfl⟩ := h
 refine ⟨q, os.modify (l - w.heap.size) f, ?_⟩
 show ({ w with heap := (w.heap ++ os).modify l f, drawn := _ } : World) = { w with heap := w.heap ++ os.modify (l - w.heap.size) f, drawn := _ }
 congr 1
 apply Array.ext_getElem?
 intro i
 rw [Array.getElem?_modify]
 by_cases hi : i < w.heap.size
 ·rw [Array.getElem?_append_left hi, Array.getElem?_append_left hi, if_neg (by omega)]
 ·rw [Array.getElem?_append_right (by omega), Array.getElem?_append_right (by omega), Array.getElem?_modify]
  by_cases e : l = i
  ·subst e; simp
  ·rw [if_neg e, if_neg (by omega)]
theorem Grew.setCell (h : Grew w w') {p : Addr} (hp : w.heap.size <= p.block) (u : Value) : Grew w (w'.setCell p u) := h.modify p.block hp _
theorem Grew.putObj (h : Grew w w') {l : Nat} (hl : w.heap.size <= l) (o : Obj) : Grew w (w'.putObj l o) := by
 have e : w'.heap.setIfInBounds l o = w'.heap.modify l (fun _ => o) := by
  apply Array.ext_getElem?
  intro i
  rw [Array.getElem?_modify, Array.getElem?_setIfInBounds]
  by_cases hi : l = i
  ·subst hi
   by_cases hs : l < w'.heap.size
   ·rw [if_pos rfl, if_pos hs, if_pos rfl, Array.getElem?_eq_getElem hs]; rfl
   ·rw [if_pos rfl, if_neg hs, if_pos rfl, Array.getElem?_eq_none (by omega)]; rfl
  ·rw [if_neg hi, if_neg hi]
 have k := h.modify l hl (fun _ => o)
 unfold World.putObj
 rw [e]
 exact k
theorem Blk.putObj {g l : Nat} {t : TypeId} {cs : Array Value} (h : Blk w g t cs) (hl : g ≠ l) (o : Obj) : Blk (w.putObj l o) g t cs := (World.putObj_heap_other hl).trans h
end
section
variable {F : Fence} {n : Nat} {P : Program}
theorem wpIn_rangeFunc_ownP {g : Operand} {ps : Array Tmp} {assign body : Code} {Q : Exit -> Act -> World -> Prop} {a : Act} {w : World}
  (hro : F.round = none) (h1 : 1 <= n) {gf : Nat} {lb : Array Value} (hg : a.eval g = .func (.func gf) #[] lb) (hFg : F.fn gf) (eg : ∀ args w, (callFunc gf args).run P w = .ok (.enter gf args) w)
  {encs : Nat -> Array Value} {Kp : World -> World -> Prop} {N : Nat} {w0 : World} (hseq : SeqP F (n - 1) P gf lb encs Kp N w0)
  (hKt : ∀ {A B C : World}, Kp A B -> Kp B C -> Kp A C) (hKb : ∀ (W : World) (l : Nat) (o o' : Obj), w.heap.size <= l -> W.heap[l]? = some o -> o.isCells = false -> o.isWalk = false -> Kp W (W.putObj l o')) (hb0 : Below w0.heap.size w0 w) (hps : ∀ k, k < N -> (encs k).size = ps.size)
  (I : Nat -> World -> Prop) (Ix : Code -> Nat -> World -> Prop) (hI : OwnP w.heap.size I) (hIx : ∀ c, OwnP w.heap.size (Ix c)) (h0 : I 0 w) (a₁ : Nat -> Act)
  (hassign : ∀ (l : Nat) (x : Nat) (W : World) (K : Act -> World -> Prop), x < N -> K (a₁ x) W ->
   assign.wpIn (F.inRound l) (n - 1 - 1) P (Exit.then K (fun _ _ _ => False)) { tmps := (ps.zip (encs x)).foldl (fun t (p, v) => t.setIfInBounds p v) a.tmps, defers := [] } W)
  (hbody : ∀ (l : Nat) (k : Nat) (W : World), I k W -> k < N -> body.wpIn (F.inRound l) (n - 1 - 1) P (ownPostO Kp I Ix (k + 1) W) (a₁ k) W)
  (hdone : ∀ (D : Nat) (W : World), w.heap.size <= D -> I N W -> W.heap[D]? = some (.deferred (some [])) -> Q .normal { a with defers := { target := .collected D, args := #[] } :: a.defers } W)
  (hstop : ∀ (D : Nat) (c : Code) (k : Nat) (W : World), w.heap.size <= D -> k <= N -> Ix c k W -> W.heap[D]? = some (.deferred (some [])) -> c.wpIn F n P Q { a with defers := { target := .collected D, args := #[] } :: a.defers } W) :
  (Code.rangeFunc g ps assign body).wpIn F n P Q a w := by
 refine wpIn_rangeFunc ?_
 intro fn hfn
 rw [hro]
 obtain ⟨rec, hrec⟩ : ∃ rec : LoopState -> Option Code -> Loop, rec = fun st pe => { state := st, pending := pe, fn, tmps := a.tmps, params := ps, assign, body, defers := w.heap.size } := ⟨_, rfl⟩
 obtain ⟨W1, hW1⟩ : ∃ W1, (w.alloc (.deferred (some []))).alloc (.loop (rec .ready none)) = W1 := ⟨_, rfl⟩
 have hL1 : W1.heap[w.heap.size + 1]? = some (.loop (rec .ready none)) := by
  rw [<- hW1]; have := World.alloc_heap_new (w.alloc (.deferred (some []))) (.loop (rec .ready none)); rwa [World.size_alloc] at this
 have hK1 : W1.heap[w.heap.size]? = some (.deferred (some [])) := by
  rw [<- hW1]; exact (Below.heap_alloc _ _ _ (by simp)).trans (World.alloc_heap_new w _)
 have hI1 : I 0 W1 := by rw [<- hW1]; exact hI.alloc _ (hI.alloc _ h0)
 have hb1 : Below w0.heap.size w0 W1 := by
  rw [<- hW1]; exact hb0.trans ((((Below.refl _ w).alloc (Nat.le_refl _) _).alloc (by simp) _).mono hb0.size)
 refine ⟨w.heap.size + 1, [{ target := .collected w.heap.size, args := #[] }], W1, { target := .fn (.func gf) lb, args := #[.func (.yield (w.heap.size + 1)) #[] #[]] }, W1, gf,
  #[.func (.yield (w.heap.size + 1)) #[] #[]] ++ lb, W1, ?_, ?_, ?_, ?_, fun _ => h1, ?_⟩
 ·rw [<- hW1, hrec]; exact run_enterLoop_outer _ _ _ _ _
 ·simp only [resolve, hg]
  simp [go_sem]
 ·intro f' hf'; simp [Target.leads] at hf'; subst hf'; exact hFg
 ·simp [invoke, go_sem, eg]
 ·-- THE ITERATOR's CONTRACT, AT THE CALLER's INVARIANT WITH THE TWO FACTS OF BOOK-KEEPING BESIDE IT
  refine (hseq (w.heap.size + 1)
   (fun pre W => I pre W /\ W.heap[w.heap.size + 1]? = some (.loop (rec .ready none)) /\ W.heap[w.heap.size]? = some (.deferred (some [])))
   (fun pre W => ∃ c, Ix c pre W /\ W.heap[w.heap.size + 1]? = some (.loop (rec .done (some c))) /\ W.heap[w.heap.size]? = some (.deferred (some [])))
   W1 hb1
   ?_ ⟨hI1, hL1, hK1⟩).mono ?_
  ·-- ONE ROUND
   rintro k W ⟨hi, hl, hk⟩ hlen
   have hlt : w.heap.size + 1 < W.heap.size := (Array.getElem?_eq_some_iff.1 hl).1
   have hy := run_yield (P := P) (args := encs k) hl (by rw [hrec]; exact hps k hlen)
   rw [hrec] at hy
   refine ⟨fn, _, assign, body, hy, roundIn_of_wpIn hfn (hassign _ k W _ hlen ⟨_, run_beginRound hl (by rw [hrec]), ?_⟩)⟩
   have hl2 : (W.putObj (w.heap.size + 1) (.loop { rec .ready none with state := .busy })).heap[w.heap.size + 1]? = some (.loop { rec .ready none with state := .busy }) := World.putObj_heap_same hlt
   have hk2 : (W.putObj (w.heap.size + 1) (.loop { rec .ready none with state := .busy })).heap[w.heap.size]? = some (.deferred (some [])) := (World.putObj_heap_other (by omega)).trans hk
   have hw2 : Kp W (W.putObj (w.heap.size + 1) (.loop { rec .ready none with state := .busy })) := hKb _ _ _ _ (by omega) hl rfl rfl
   refine wpIn_mono (hbody _ k _ (hI.putObj _ hi (by omega) hl rfl) hlen) ?_
   have fin : ∀ (jump : Option Code) (W3 : World), KeepsOthers (W.putObj (w.heap.size + 1) (.loop { rec .ready none with state := .busy })) W3 ->
     (Instr.endRound (w.heap.size + 1) jump).run P W3 = .ok (.bool jump.isNone) (W3.putObj (w.heap.size + 1) (.loop (rec (if jump.isNone then .ready else .done) jump))) /\
     W3.heap[w.heap.size + 1]? = some (.loop { rec .ready none with state := .busy }) /\
     (W3.putObj (w.heap.size + 1) (.loop (rec (if jump.isNone then .ready else .done) jump))).heap[w.heap.size + 1]? = some (.loop (rec (if jump.isNone then .ready else .done) jump)) /\
     (W3.putObj (w.heap.size + 1) (.loop (rec (if jump.isNone then .ready else .done) jump))).heap[w.heap.size]? = some (.deferred (some [])) := fun jump W3 hk3 => by
    have hl3 := hk3.same _ _ hl2 rfl
    have := run_endRound (P := P) jump hl3
    rw [hrec] at this ⊢
    exact ⟨this, by rw [hrec] at hl3; exact hl3, World.putObj_heap_same (Array.getElem?_eq_some_iff.1 hl3).1, (World.putObj_heap_other (by omega)).trans (hk3.same _ _ hk2 rfl)⟩
   rintro e a3 W3 hp
   cases e with
   | normal =>
    obtain ⟨hk3, hkp3, hi3⟩ := hp
    obtain ⟨hr, hl3, hl4, hk4⟩ := fin none W3 hk3
    exact ⟨_, _, hr, .inl ⟨rfl, ⟨hI.putObj _ hi3 (by omega) hl3 rfl, hl4, hk4⟩, hKt (hKt hw2 hkp3) (hKb _ _ _ _ (by omega) hl3 rfl rfl)⟩⟩
   | ret =>
    obtain ⟨hk3, hi3⟩ := hp
    obtain ⟨hr, hl3, hl4, hk4⟩ := fin (some .ret) W3 hk3
    exact ⟨_, _, hr, .inr ⟨rfl, .ret, (hIx _).putObj _ hi3 (by omega) hl3 rfl, hl4, hk4⟩⟩
   | exit id =>
    obtain ⟨hk3, hi3⟩ := hp
    obtain ⟨hr, hl3, hl4, hk4⟩ := fin (some (.exit id)) W3 hk3
    exact ⟨_, _, hr, .inr ⟨rfl, .exit id, (hIx _).putObj _ hi3 (by omega) hl3 rfl, hl4, hk4⟩⟩
   | goto t =>
    obtain ⟨hk3, hi3⟩ := hp
    obtain ⟨hr, hl3, hl4, hk4⟩ := fin (some (.goto t)) W3 hk3
    exact ⟨_, _, hr, .inr ⟨rfl, .goto t, (hIx _).putObj _ hi3 (by omega) hl3 rfl, hl4, hk4⟩⟩
   | panic ch => exact hp.elim
   | outgrown => exact hp.elim
  ·-- BEHIND THE ITERATOR
   rintro e W2 ⟨⟨v, rfl⟩, (⟨hi, hl, hk⟩ | ⟨k, hkN, c, hi, hl, hk⟩)⟩
   ·exact ⟨none, _, by have := run_endLoop (P := P) hl (by rw [hrec]; simp); rw [hrec] at this; exact this, hdone _ _ (Nat.le_refl _) (hI.putObj _ hi (by omega) hl rfl) ((World.putObj_heap_other (by omega)).trans hk)⟩
   ·exact ⟨some c, _, by have := run_endLoop (P := P) hl (by rw [hrec]; simp); rw [hrec] at this; exact this, hstop _ c k _ (Nat.le_refl _) hkN ((hIx c).putObj _ hi (by omega) hl rfl) ((World.putObj_heap_other (by omega)).trans hk)⟩
end
end Go.Proofs.YtknpkndiflodbaaGreatDoor.Mx
namespace Go.Proofs.YtknpkndiflodbaaGreatDoor.Mx
open Go Go.RowKit
def ownPostN (B : Nat) (Kp : World -> World -> Prop) (I : Nat -> World -> Prop) (Ix : Code -> Nat -> World -> Prop) (k : Nat) (W : World) : Exit -> Act -> World -> Prop
 | .normal, _, W' => KeepsFrom B W W' /\ Kp W W' /\ I k W'
 | .ret, _, W' => KeepsFrom B W W' /\ Ix .ret k W'
 | .exit id, _, W' => KeepsFrom B W W' /\ Ix (.exit id) k W'
 | .goto t, _, W' => KeepsFrom B W W' /\ Ix (.goto t) k W'
 | .panic _, _, _ => False
 | .outgrown, _, _ => False
section
variable {F : Fence} {n : Nat} {P : Program}
theorem wpIn_rangeFunc_ownN {g : Operand} {ps : Array Tmp} {assign body : Code} {Q : Exit -> Act -> World -> Prop} {a : Act} {w : World}
  (hro : F.round = none) (h1 : 1 <= n) {gf : Nat} {lb : Array Value} (hg : a.eval g = .func (.func gf) #[] lb) (hFg : F.fn gf) (eg : ∀ args w, (callFunc gf args).run P w = .ok (.enter gf args) w)
  {encs : Nat -> Array Value} {Kp : World -> World -> Prop} {N : Nat} {w0 : World} (hseq : SeqO F (n - 1) P gf lb encs Kp N w0)
  (hKt : ∀ {A B C : World}, Kp A B -> Kp B C -> Kp A C) (hKb : ∀ (W : World) (l : Nat) (o o' : Obj), w.heap.size <= l -> W.heap[l]? = some o -> o.isCells = false -> o.isWalk = false -> Kp W (W.putObj l o')) (hb0 : Below w0.heap.size w0 w) (hps : ∀ k, k < N -> (encs k).size = ps.size)
  (I : Nat -> World -> Prop) (Ix : Code -> Nat -> World -> Prop) (hI : OwnFrom w.heap.size I) (hIx : ∀ c, OwnFrom w.heap.size (Ix c)) (h0 : I 0 w) (I₁ : Nat -> Act -> World -> Prop) (hI₁ : ∀ a', OwnFrom w.heap.size (fun k W => I₁ k a' W))
  (hassign : ∀ (l : Nat) (x : Nat) (W : World) (K : Act -> World -> Prop), x < N -> I x W -> (∀ a' W', KeepsFrom w.heap.size W W' -> Kp W W' -> I₁ x a' W' -> K a' W') ->
   assign.wpIn (F.inRound l) (n - 1 - 1) P (Exit.then K (fun _ _ _ => False)) { tmps := (ps.zip (encs x)).foldl (fun t (p, v) => t.setIfInBounds p v) a.tmps, defers := [] } W)
  (hbody : ∀ (l : Nat) (k : Nat) (a' : Act) (W : World), I₁ k a' W -> k < N -> body.wpIn (F.inRound l) (n - 1 - 1) P (ownPostN w.heap.size Kp I Ix (k + 1) W) a' W)
  (hdone : ∀ (D : Nat) (W : World), w.heap.size <= D -> I N W -> W.heap[D]? = some (.deferred (some [])) -> Q .normal { a with defers := { target := .collected D, args := #[] } :: a.defers } W)
  (hstop : ∀ (D : Nat) (c : Code) (k : Nat) (W : World), w.heap.size <= D -> k <= N -> Ix c k W -> W.heap[D]? = some (.deferred (some [])) -> c.wpIn F n P Q { a with defers := { target := .collected D, args := #[] } :: a.defers } W) :
  (Code.rangeFunc g ps assign body).wpIn F n P Q a w := by
 refine wpIn_rangeFunc ?_
 intro fn hfn
 rw [hro]
 obtain ⟨rec, hrec⟩ : ∃ rec : LoopState -> Option Code -> Loop, rec = fun st pe => { state := st, pending := pe, fn, tmps := a.tmps, params := ps, assign, body, defers := w.heap.size } := ⟨_, rfl⟩
 obtain ⟨W1, hW1⟩ : ∃ W1, (w.alloc (.deferred (some []))).alloc (.loop (rec .ready none)) = W1 := ⟨_, rfl⟩
 have hL1 : W1.heap[w.heap.size + 1]? = some (.loop (rec .ready none)) := by
  rw [<- hW1]; have := World.alloc_heap_new (w.alloc (.deferred (some []))) (.loop (rec .ready none)); rwa [World.size_alloc] at this
 have hK1 : W1.heap[w.heap.size]? = some (.deferred (some [])) := by
  rw [<- hW1]; exact (Below.heap_alloc _ _ _ (by simp)).trans (World.alloc_heap_new w _)
 have hI1 : I 0 W1 := by rw [<- hW1]; exact hI.alloc _ (hI.alloc _ h0)
 have hb1 : Below w0.heap.size w0 W1 := by
  rw [<- hW1]; exact hb0.trans ((((Below.refl _ w).alloc (Nat.le_refl _) _).alloc (by simp) _).mono hb0.size)
 refine ⟨w.heap.size + 1, [{ target := .collected w.heap.size, args := #[] }], W1, { target := .fn (.func gf) lb, args := #[.func (.yield (w.heap.size + 1)) #[] #[]] }, W1, gf,
  #[.func (.yield (w.heap.size + 1)) #[] #[]] ++ lb, W1, ?_, ?_, ?_, ?_, fun _ => h1, ?_⟩
 ·rw [<- hW1, hrec]; exact run_enterLoop_outer _ _ _ _ _
 ·simp only [resolve, hg]
  simp [go_sem]
 ·intro f' hf'; simp [Target.leads] at hf'; subst hf'; exact hFg
 ·simp [invoke, go_sem, eg]
 ·-- THE ITERATOR's CONTRACT, AT THE CALLER's INVARIANT WITH THE TWO FACTS OF BOOK-KEEPING BESIDE IT
  have hnw : ∀ {A B : World} {row : Option Nat}, (∀ r, row = some r -> W1.heap.size <= r /\ ∃ o : Obj, A.heap[r]? = some o /\ o.isWalk = true) -> (∀ r, row = some r -> w.heap.size <= r /\ ∃ o : Obj, A.heap[r]? = some o /\ o.isCells = false) :=
   fun hr r e => by obtain ⟨hB, o, ho, hw⟩ := hr r e; exact ⟨by rw [<- hW1] at hB; simp at hB; omega, o, ho, Obj.not_cells_of_walk hw⟩
  refine (hseq (w.heap.size + 1)
   (fun pre W => I pre W /\ W.heap[w.heap.size + 1]? = some (.loop (rec .ready none)) /\ W.heap[w.heap.size]? = some (.deferred (some [])))
   (fun pre W => ∃ c, Ix c pre W /\ W.heap[w.heap.size + 1]? = some (.loop (rec .done (some c))) /\ W.heap[w.heap.size]? = some (.deferred (some [])))
   W1 hb1
   (fun s A B row hs hg' hr => ⟨hI s A B row hs.1 hg' (hnw (B := B) hr), (grownBy_keeps hg' (fun r e => (hr r e).2) hs.2.1 rfl).trans hs.2.1, (grownBy_keeps hg' (fun r e => (hr r e).2) hs.2.2 rfl).trans hs.2.2⟩)
   (fun s A B row hs hg' hr => by
    obtain ⟨c, hc, hl, hk⟩ := hs
    exact ⟨c, hIx c s A B row hc hg' (hnw (B := B) hr), (grownBy_keeps hg' (fun r e => (hr r e).2) hl rfl).trans hl, (grownBy_keeps hg' (fun r e => (hr r e).2) hk rfl).trans hk⟩)
   ?_ ⟨hI1, hL1, hK1⟩).mono ?_
  ·-- ONE ROUND
   rintro k W ⟨hi, hl, hk⟩ hlen
   have hlt : w.heap.size + 1 < W.heap.size := (Array.getElem?_eq_some_iff.1 hl).1
   have hy := run_yield (P := P) (args := encs k) hl (by rw [hrec]; exact hps k hlen)
   rw [hrec] at hy
   refine ⟨fn, _, assign, body, hy, roundIn_of_wpIn hfn (hassign _ k W _ hlen hi ?_)⟩
   intro a' Wa hka hkpa hia
   have hla := hka.same _ _ (by omega) hl rfl
   have hkk := hka.same _ _ (Nat.le_refl _) hk rfl
   have hlta : w.heap.size + 1 < Wa.heap.size := (Array.getElem?_eq_some_iff.1 hla).1
   refine ⟨_, run_beginRound hla (by rw [hrec]), ?_⟩
   have hl2 : (Wa.putObj (w.heap.size + 1) (.loop { rec .ready none with state := .busy })).heap[w.heap.size + 1]? = some (.loop { rec .ready none with state := .busy }) := World.putObj_heap_same hlta
   have hk2 : (Wa.putObj (w.heap.size + 1) (.loop { rec .ready none with state := .busy })).heap[w.heap.size]? = some (.deferred (some [])) := (World.putObj_heap_other (by omega)).trans hkk
   have hw2 : Kp W (Wa.putObj (w.heap.size + 1) (.loop { rec .ready none with state := .busy })) := hKt hkpa (hKb _ _ _ _ (by omega) hla rfl rfl)
   refine wpIn_mono (hbody _ k _ _ ((hI₁ a').putObj _ hia (by omega) hla rfl) hlen) ?_
   have fin : ∀ (jump : Option Code) (W3 : World), KeepsFrom w.heap.size (Wa.putObj (w.heap.size + 1) (.loop { rec .ready none with state := .busy })) W3 ->
     (Instr.endRound (w.heap.size + 1) jump).run P W3 = .ok (.bool jump.isNone) (W3.putObj (w.heap.size + 1) (.loop (rec (if jump.isNone then .ready else .done) jump))) /\
     W3.heap[w.heap.size + 1]? = some (.loop { rec .ready none with state := .busy }) /\
     (W3.putObj (w.heap.size + 1) (.loop (rec (if jump.isNone then .ready else .done) jump))).heap[w.heap.size + 1]? = some (.loop (rec (if jump.isNone then .ready else .done) jump)) /\
     (W3.putObj (w.heap.size + 1) (.loop (rec (if jump.isNone then .ready else .done) jump))).heap[w.heap.size]? = some (.deferred (some [])) := fun jump W3 hk3 => by
    have hl3 := hk3.same _ _ (by omega) hl2 rfl
    have := run_endRound (P := P) jump hl3
    rw [hrec] at this ⊢
    exact ⟨this, by rw [hrec] at hl3; exact hl3, World.putObj_heap_same (Array.getElem?_eq_some_iff.1 hl3).1, (World.putObj_heap_other (by omega)).trans (hk3.same _ _ (Nat.le_refl _) hk2 rfl)⟩
   rintro e a3 W3 hp
   cases e with
   | normal =>
    obtain ⟨hk3, hkp3, hi3⟩ := hp
    obtain ⟨hr, hl3, hl4, hk4⟩ := fin none W3 hk3
    exact ⟨_, _, hr, .inl ⟨rfl, ⟨hI.putObj _ hi3 (by omega) hl3 rfl, hl4, hk4⟩, hKt (hKt hw2 hkp3) (hKb _ _ _ _ (by omega) hl3 rfl rfl)⟩⟩
   | ret =>
    obtain ⟨hk3, hi3⟩ := hp
    obtain ⟨hr, hl3, hl4, hk4⟩ := fin (some .ret) W3 hk3
    exact ⟨_, _, hr, .inr ⟨rfl, .ret, (hIx _).putObj _ hi3 (by omega) hl3 rfl, hl4, hk4⟩⟩
   | exit id =>
    obtain ⟨hk3, hi3⟩ := hp
    obtain ⟨hr, hl3, hl4, hk4⟩ := fin (some (.exit id)) W3 hk3
    exact ⟨_, _, hr, .inr ⟨rfl, .exit id, (hIx _).putObj _ hi3 (by omega) hl3 rfl, hl4, hk4⟩⟩
   | goto t =>
    obtain ⟨hk3, hi3⟩ := hp
    obtain ⟨hr, hl3, hl4, hk4⟩ := fin (some (.goto t)) W3 hk3
    exact ⟨_, _, hr, .inr ⟨rfl, .goto t, (hIx _).putObj _ hi3 (by omega) hl3 rfl, hl4, hk4⟩⟩
   | panic ch => exact hp.elim
   | outgrown => exact hp.elim
  ·-- BEHIND THE ITERATOR
   rintro e W2 ⟨⟨v, rfl⟩, (⟨hi, hl, hk⟩ | ⟨k, hkN, c, hi, hl, hk⟩)⟩
   ·exact ⟨none, _, by have := run_endLoop (P := P) hl (by rw [hrec]; simp); rw [hrec] at this; exact this, hdone _ _ (Nat.le_refl _) (hI.putObj _ hi (by omega) hl rfl) ((World.putObj_heap_other (by omega)).trans hk)⟩
   ·exact ⟨some c, _, by have := run_endLoop (P := P) hl (by rw [hrec]; simp); rw [hrec] at this; exact this, hstop _ c k _ (Nat.le_refl _) hkN ((hIx c).putObj _ hi (by omega) hl rfl) ((World.putObj_heap_other (by omega)).trans hk)⟩
theorem wpIn_rangeFunc_ownT {g : Operand} {ps : Array Tmp} {assign body : Code} {Q : Exit -> Act -> World -> Prop} {tm : Array Value} {ds : List Deferred} {w : World}
  (hro : F.round = none) (h1 : 1 <= n) {gf : Nat} {lb : Array Value} (hg : ({ tmps := tm, defers := ds } : Act).eval g = .func (.func gf) #[] lb) (hFg : F.fn gf) (eg : ∀ args w, (callFunc gf args).run P w = .ok (.enter gf args) w)
  {encs : Nat -> Array Value} {Kp : World -> World -> Prop} {N : Nat} {w0 : World} (hseq : SeqO F (n - 1) P gf lb encs Kp N w0)
  (hKt : ∀ {A B C : World}, Kp A B -> Kp B C -> Kp A C) (hKb : ∀ (W : World) (l : Nat) (o o' : Obj), w.heap.size <= l -> W.heap[l]? = some o -> o.isCells = false -> o.isWalk = false -> Kp W (W.putObj l o')) (hb0 : Below w0.heap.size w0 w) (hps : ∀ k, k < N -> (encs k).size = ps.size)
  (I : Nat -> World -> Prop) (Ix : Code -> Nat -> World -> Prop) (hI : OwnFrom w.heap.size I) (hIx : ∀ c, OwnFrom w.heap.size (Ix c)) (h0 : I 0 w) (I₁ : Array Value -> Nat -> Act -> World -> Prop) (hI₁ : ∀ a', OwnFrom w.heap.size (fun k W => I₁ tm k a' W))
  (hassign : ∀ (l : Nat) (x : Nat) (W : World) (K : Act -> World -> Prop), x < N -> I x W -> (∀ a' W', KeepsFrom w.heap.size W W' -> Kp W W' -> I₁ tm x a' W' -> K a' W') ->
   assign.wpIn (F.inRound l) (n - 1 - 1) P (Exit.then K (fun _ _ _ => False)) { tmps := (ps.zip (encs x)).foldl (fun t (p, v) => t.setIfInBounds p v) tm, defers := [] } W)
  (hbody : ∀ (l : Nat) (k : Nat) (a' : Act) (W : World), I₁ tm k a' W -> k < N -> body.wpIn (F.inRound l) (n - 1 - 1) P (ownPostN w.heap.size Kp I Ix (k + 1) W) a' W)
  (hdone : ∀ (D : Nat) (W : World), w.heap.size <= D -> I N W -> W.heap[D]? = some (.deferred (some [])) -> Q .normal { tmps := tm, defers := { target := .collected D, args := #[] } :: ds } W)
  (hstop : ∀ (D : Nat) (c : Code) (k : Nat) (W : World), w.heap.size <= D -> k <= N -> Ix c k W -> W.heap[D]? = some (.deferred (some [])) -> c.wpIn F n P Q { tmps := tm, defers := { target := .collected D, args := #[] } :: ds } W) :
  (Code.rangeFunc g ps assign body).wpIn F n P Q { tmps := tm, defers := ds } w :=
 wpIn_rangeFunc_ownN hro h1 hg hFg eg hseq hKt hKb hb0 hps I Ix hI hIx h0 (I₁ tm) hI₁ hassign hbody hdone hstop
theorem KeepsFrom.grown {B : Nat} {W W' : World} {row : Option Nat} (hg : W.grownBy W' row) (hrow : ∀ j, row = some j -> j < B ∨ ∃ c t fz, W.heap[j]? = some (.cells c t fz)) : KeepsFrom B W W' :=
 ⟨hg.size, fun k o hB hk ho => (hg.block k (Array.getElem?_eq_some_iff.1 hk).1 (fun e => by
  rcases hrow k e.symm with h | ⟨c, t, fz, h⟩
  ·omega
  ·rw [hk] at h; injection h with h; subst h; cases ho)).trans hk⟩
end
def laidF (tm : Array Value) (S : List Nat) (u : Nat -> Value) : Array Value := S.foldl (fun t i => t.setIfInBounds i (u i)) tm
theorem wp_loop_free {P : Program} {Q : Exit -> Act -> World -> Prop} {tm : Array Value} {ds : List Deferred} {w : World} {c : Code} (S : List Nat) (rel : Nat -> (Nat -> Value) -> List Deferred -> World -> Prop) (n₀ : Nat)
  (h₀ : rel n₀ (fun i => tm.getD i undef) ds w /\ tm = laidF tm S (fun i => tm.getD i undef))
  (round : ∀ n u ds w, rel n u ds w -> ∀ (J : Nat -> Act -> World -> Prop) (K : Act -> World -> Prop), (∀ k a' w', rel k (fun i => a'.tmps.getD i undef) a'.defers w' -> a'.tmps = laidF tm S (fun i => a'.tmps.getD i undef) -> J k a' w') -> (∀ a' w', Handed J n a' w' -> K a' w') ->
   c.wp P (Exit.then K Q) { tmps := laidF tm S u, defers := ds } w) : (Code.loop c).wp P Q { tmps := tm, defers := ds } w :=
 wp_loop_ghost_k (fun k a w => ∃ u ds, rel k u ds w /\ a = { tmps := laidF tm S u, defers := ds }) n₀ ⟨_, ds, h₀.1, by rw [<- h₀.2]⟩ fun n a w h J K hJ hK => by
  obtain ⟨u, ds, hr, rfl⟩ := h
  exact round n u ds w hr J K (fun k a' w' h1 h2 => hJ k a' w' ⟨_, _, h1, by rw [<- h2]⟩) hK
def marksD (ds : List Nat) : List Deferred := ds.map fun D => { target := .collected D, args := #[] }
structure MarksAt (ds : List Nat) (w : World) : Prop where
 here : ∀ D ∈ ds, w.heap[D]? = some (.deferred (some []))
 apart : ds.Nodup
theorem MarksAt.nil (w : World) : MarksAt [] w := ⟨by simp, List.nodup_nil⟩
theorem MarksAt.cons {ds : List Nat} {w : World} (h : MarksAt ds w) {D : Nat} (hD : w.heap[D]? = some (.deferred (some []))) (hn : D ∉ ds) : MarksAt (D :: ds) w :=
 ⟨fun E hE => (List.mem_cons.1 hE).elim (fun e => by rw [e]; exact hD) (h.here E), List.nodup_cons.2 ⟨hn, h.apart⟩⟩
structure ShutD (ds : List Nat) (w w' : World) : Prop where
 os : w'.os = w.os
 tape : w'.tape = w.tape
 output : w'.output = w.output
 size : w'.heap.size = w.heap.size
 block : ∀ b, b ∉ ds -> w'.heap[b]? = w.heap[b]?
theorem leaves_marks {F : Fence} {n : Nat} {P : Program} {fn : Func} {tmps : Array Value} {R : Ending -> World -> Prop} {u : FrameMode} (hu : u ≠ .run) : ∀ (ds : List Nat) (w : World), MarksAt ds w ->
  (∀ w', ShutD ds w w' -> LeavesIn F n P fn tmps R [] u w') -> LeavesInM F n P fn tmps R (marksD ds) u w
 | [], w, _, h => h w ⟨rfl, rfl, rfl, rfl, fun _ _ => rfl⟩
 | D :: ds, w, hm, h => by
  have hD := hm.here D (by simp)
  have hnd := List.nodup_cons.1 hm.apart
  refine ⟨hu, .inl ⟨D, _, rfl, run_takeDeferred hD, ?_⟩⟩
  refine leaves_marks hu ds _ ⟨fun E hE => ?_, hnd.2⟩ (fun w' hw' => h w' ⟨hw'.os, hw'.tape, hw'.output, hw'.size.trans (by simp [World.putObj]), fun b hb => ?_⟩)
  ·rw [World.putObj_heap_other (by rintro rfl; exact hnd.1 hE)]
   exact hm.here E (by simp [hE])
  ·simp only [List.mem_cons, not_or] at hb
   rw [hw'.block b hb.2, World.putObj_heap_other hb.1]
def PostL (P : Program) (fn : Func) (R : Ending -> World -> Prop) : Exit -> Act -> World -> Prop
 | .normal, a, w => ∃ ds, a.defers = marksD ds /\ MarksAt ds w /\ ∀ w', ShutD ds w w' -> ∃ v, (results fn a.tmps).run P w' = .ok v w' /\ R (.returned v) w'
 | .ret, a, w => ∃ ds, a.defers = marksD ds /\ MarksAt ds w /\ ∀ w', ShutD ds w w' -> ∃ v, (results fn a.tmps).run P w' = .ok v w' /\ R (.returned v) w'
 | .panic chain, a, w => ∃ ds, a.defers = marksD ds /\ MarksAt ds w /\ ∀ w', ShutD ds w w' -> R (.panicked chain) w'
 | _, _, _ => False
theorem calls_of_wp_post {P : Program} {f : FuncId} {fn : Func} {c : Code} {args : Array Value} {w : World} {R : Ending -> World -> Prop} (hf : P.funcs[f]? = some fn) (hb : fn.body = some c)
  (h : c.wp P (PostL P fn R) { tmps := args ++ Array.replicate (fn.ntmps - args.size) undef, defers := [] } w) : Calls P f args w R := by
 refine (callsIn_wide (n := 5)).1 (callsIn_of_wp_marks hf hb trivial (wpIn_wide.2 (wp_mono h ?_)) rfl)
 rintro e a w hq
 cases e with
 | normal =>
  obtain ⟨ds, h1, h2, h3⟩ := hq
  show LeavesInM _ _ _ _ _ _ a.defers _ _
  rw [h1]
  exact leaves_marks (by intro h; cases h) ds w h2 h3
 | ret =>
  obtain ⟨ds, h1, h2, h3⟩ := hq
  show LeavesInM _ _ _ _ _ _ a.defers _ _
  rw [h1]
  exact leaves_marks (by intro h; cases h) ds w h2 h3
 | panic chain =>
  obtain ⟨ds, h1, h2, h3⟩ := hq
  show LeavesInM _ _ _ _ _ _ a.defers _ _
  rw [h1]
  exact leaves_marks (by intro h; cases h) ds w h2 h3
 | exit _ => exact hq.elim
 | goto _ => exact hq.elim
 | outgrown => exact hq.elim
end Go.Proofs.YtknpkndiflodbaaGreatDoor.Mx
namespace Go.Proofs.YtknpkndiflodbaaGreatDoor.Mx
open Go Go.RowKit
structure WideF (F : Fence) : Prop where
 fn : ∀ f, F.fn f
 dep : F.depth = none
 calls : ∀ {n : Nat} {P : Program} {f : FuncId} {args : Array Value} {w : World} {R : Ending -> World -> Prop}, Calls P f args w R -> CallsIn F n P f args w R
 rows : ∀ {n : Nat} {P : Program} {row : String} {args : Array Value} {w : World} {R : Value -> World -> Prop}, Rows P row args w R -> RowsIn F n P row args w R
theorem wideF_wide : WideF Fence.wide :=
 ⟨fun _ => trivial, rfl, fun h => callsIn_wide.2 h, fun h c cs _ => by
  obtain ⟨v, w', r, s⟩ := h c cs
  exact ⟨v, w', r, stepsIn_wide.2 s⟩⟩
theorem WideF.inRound {F : Fence} (h : WideF F) (l : Nat) : WideF (F.inRound l) := ⟨h.fn, h.dep, fun hc => h.calls hc, fun hr => h.rows hr⟩
section
variable {F : Fence} {n : Nat} {P : Program} {ops : Array Oper} {md : Region.Mode} {w : World}
theorem wpIn_of_wp_ (hF : WideF F) {o : Oper} {a : Act} {K : Act -> World -> Prop} {Q : Exit -> Act -> World -> Prop} (hd : ∀ c, o.op ≠ .defer c) (h : o.wp P a w K Q) : o.wpIn F n P a w K Q := by
 have hdep : F.depth.isSome = true -> 1 <= n := by rw [hF.dep]; intro h; cases h
 unfold Oper.wp at h
 unfold Oper.wpIn
 refine ⟨fun f _ => hF.fn f, ?_⟩
 rw [Oper.semAt_plain F _ _ hd]
 generalize (execOp a.eval o).run P w = r at *
 cases r with
 | ok x w' =>
  cases x <;> simp only [Oper.upon] at h <;> simp only [Oper.uponIn]
  case value u => exact h
  case skip => exact h
  case defer d => exact h
  case enter f args => exact ⟨hdep, hF.calls h⟩
  case row row args => exact ⟨hdep, hF.rows h⟩
 | halt x w' =>
  cases x <;> simp only [Oper.upon] at h <;> simp only [Oper.uponIn]
  case panic v => exact h
theorem wpOpIn_of_wpOp (hF : WideF F) {Q : Exit -> Act -> World -> Prop} (hd : ∀ (i : Nat) (o : Oper), ops[i]? = some o -> ∀ c, o.op ≠ .defer c) (hQ : ¬ LetsOut Q) {i : Nat} {K K' : Act -> World -> Prop} {a : Act} (h : ∀ a w, K a w -> K' a w) (hh : wpOp P ops Q i K a w) : wpOpIn F n P ops Q i K' a w := by
 unfold wpOp at hh
 unfold wpOpIn
 cases ho : ops[i]? with
 | none => simp only [ho] at hh ⊢; exact h _ _ hh
 | some o =>
  simp only [ho] at hh ⊢
  cases hw : Region.wanted o (yielded ops a.tmps) with
  | true =>
   simp only [hw, if_true] at hh ⊢
   rcases hh with hh | hh
   ·exact wpIn_of_wp_ hF (hd i o ho) (Oper.wp_mono h hh)
   ·exact absurd hh.2 hQ
  | false =>
   simp only [hw, Bool.false_eq_true, if_false] at hh ⊢
   exact ⟨fun f _ => hF.fn f, h _ _ hh⟩
theorem wpAnyIn_of_wpAny (hF : WideF F) {Q : Exit -> Act -> World -> Prop} (hd : ∀ (i : Nat) (o : Oper), ops[i]? = some o -> ∀ c, o.op ≠ .defer c) (hQ : ¬ LetsOut Q) : ∀ (fuel : Nat) (listed : Array Bool) (a : Act) (w : World), wpAny P md ops Q fuel listed a w -> wpAnyIn F n P md ops Q fuel listed a w
 | 0, _, _, _, h => h
 | fuel + 1, _, _, _, h => ⟨h.1, fun i hi => wpOpIn_of_wpOp hF hd hQ (fun a w => wpAnyIn_of_wpAny hF hd hQ fuel _ a w) (h.2 i hi)⟩
theorem wpIn_region_out (hF : WideF F) {id : Nat} {Q : Exit -> Act -> World -> Prop} {a : Act} {l : List Oper} (hm : P.follows .mixedOrders = true) (hn : noDefer l = true) (hQ : ¬ LetsOut Q) (h : wpAny P .any l.toArray Q l.toArray.size (Array.replicate l.toArray.size false) a w.drew) :
  (Code.region id l.toArray true).wpIn F n P Q a w :=
 wpIn_region_any hm (wpAnyIn_of_wpAny hF (fun i o ho => noDefer_spec hn (by simpa using ho)) hQ _ _ _ _ h)
theorem wpOpIn_of_stOp (hF : WideF F) {Q : Exit -> Act -> World -> Prop} (hd : ∀ (i : Nat) (o : Oper), ops[i]? = some o -> ∀ c, o.op ≠ .defer c) {i : Nat} {K : Act -> Prop} {K' : Act -> World -> Prop} {a : Act} (h : ∀ a, K a -> K' a w) (hh : stOp P ops w i K a) : wpOpIn F n P ops Q i K' a w := by
 unfold stOp at hh
 unfold wpOpIn
 cases ho : ops[i]? with
 | none => simp only [ho] at hh ⊢; exact h _ hh
 | some o =>
  simp only [ho] at hh ⊢
  cases hw : Region.wanted o (yielded ops a.tmps) with
  | true =>
   simp only [hw, if_true] at hh ⊢
   exact wpIn_of_wp_ hF (hd i o ho) (Oper.wp_of_still h hh)
  | false =>
   simp only [hw, Bool.false_eq_true, if_false] at hh ⊢
   exact ⟨fun f _ => hF.fn f, h _ hh⟩
theorem wpAnyIn_of_head (hF : WideF F) {m g : Nat} {L : Array Bool -> Act -> Prop} {Q' : Exit -> Act -> World -> Prop} (hd : ∀ (i : Nat) (o : Oper), ops[i]? = some o -> ∀ c, o.op ≠ .defer c) (hL : ∀ listed a, L listed a -> wpAnyIn F n P md ops Q' g listed a w) :
  ∀ (f : Nat) (listed : Array Bool) (a : Act), wpAnyL P md ops w m L f listed a -> wpAnyIn F n P md ops Q' (f + g) listed a w
 | 0, listed, a, h => by rw [Nat.zero_add]; exact hL _ _ h
 | f + 1, listed, a, h => by
  rw [show f + 1 + g = (f + g) + 1 by omega]
  exact ⟨fun h0 => absurd h0 h.1, fun i hi => wpOpIn_of_stOp hF hd (fun a' h' => wpAnyIn_of_head hF hd hL f _ a' h') (h.2 i hi).2⟩
theorem wpAnyIn_of_seq {Q' : Exit -> Act -> World -> Prop} : ∀ (l : List Oper) (k : Nat) (listed : Array Bool) (a : Act) (w : World), (∀ j, l[j]? = ops[k + j]?) ->
  Region.seqB md ops l.length k listed = true -> wpListIn F n P ops Q' l a w -> wpAnyIn F n P md ops Q' l.length listed a w
 | [], _, _, _, _, _, hB, h => ⟨by simpa [Region.seqB] using hB, h⟩
 | o :: l, k, listed, a, w, hl, hB, h => by
  have h0 : ops[k]? = some o := by simpa using (hl 0).symm
  simp only [List.length_cons, Region.seqB, Bool.and_eq_true, decide_eq_true_eq] at hB
  refine ⟨fun h1 => (by rw [hB.1] at h1; cases h1), fun i hi => ?_⟩
  rw [hB.1] at hi
  have hik : i = k := by simpa using hi
  subst hik
  have hw : wpOpIn F n P ops Q' i (wpListIn F n P ops Q' l) a w := by unfold wpOpIn; simp only [h0]; exact h
  exact wpOpIn_mono (fun a' w' h' => wpAnyIn_of_seq l (i + 1) _ a' w' (fun j => by have := hl (j + 1); simpa [Nat.add_assoc, Nat.add_comm 1 j] using this) hB.2 h') hw
theorem wpIn_region_still_tail (hF : WideF F) {id : Nat} {Q : Exit -> Act -> World -> Prop} {a : Act} {l : List Oper} (m : Nat) (hm : P.follows .mixedOrders = true) (hnd : noDefer l = true) (hB : Region.lexTailB .any l.toArray m = true)
  (h : wpStill P l.toArray w.drew (fun a' => wpListIn F n P l.toArray Q (l.drop m) a' w.drew) (l.take m) a) : (Code.region id l.toArray true).wpIn F n P Q a w := by
 simp only [Region.lexTailB, Bool.and_eq_true, decide_eq_true_eq] at hB
 obtain ⟨⟨⟨⟨hsel, hn⟩, hs⟩, hc⟩, hlex⟩ := hB
 have hn' : m < l.length := by simpa using hn
 have htl : (l.take m).length = m := by simp; omega
 have hdl : (l.drop m).length = l.toArray.size - m := by simp
 have hd : ∀ (i : Nat) (o : Oper), l.toArray[i]? = some o -> ∀ c, o.op ≠ .defer c := fun i o ho => noDefer_spec hnd (by simpa using ho)
 have inv0 : HeadInv .any l.toArray m (Array.replicate l.toArray.size false) :=
  ⟨by simp, fun j oj _ hl => (by rw [getD_replicate_false] at hl; cases hl), fun t _ ht => getD_in (by simpa using ht) (getD_replicate_false _ _)⟩
 have H := wpAnyL_lex (md := .any) (g := l.toArray.size - m) hsel hs hc hn (l.take m) 0 _ a (fun j hj => by
  have hj' : j < m := by rw [htl] at hj; exact hj
  simp [hj']) (by simpa using htl) inv0 (by rw [htl]; exact hlex) h
 refine wpIn_region_any hm ?_
 have := wpAnyIn_of_head hF (n := n) (Q' := Q) (g := l.toArray.size - m) hd (fun listed a' hL => by
  have := wpAnyIn_of_seq (F := F) (n := n) (P := P) (md := .any) (Q' := Q) (l.drop m) m listed a' w.drew (fun j => by simp [List.getElem?_drop]) (by rw [hdl]; exact hL.1) hL.2
  rwa [hdl] at this) _ _ _ H
 rw [htl, show m + (l.toArray.size - m) = l.toArray.size by omega] at this
 exact this
/-! Moves of a walk by hand in a region whose readers yield the same in every world that meets S. -/
theorem wanted_none {o : Oper} (h : o.guard = none) (b : Nat -> Option Bool) : Region.wanted o b = true := by simp [Region.wanted, h]
theorem held_take {S : World -> Prop} {Q : Exit -> Act -> World -> Prop} {i : Nat} {oi : Oper} {v : Value} {fuel : Nat} {listed : Array Bool} {a : Act} {w : World} (hi : ops[i]? = some oi)
  (hc : (Region.noSelect ops && Region.free md ops listed i && (Region.ready md ops listed).contains i) = true) (hg : oi.guard = none)
  (hQ : ∀ c a w, Q (.panic c) (a.put oi.dst v) w -> Q (.panic c) a w) (hy : ∀ W, S W -> (execOp a.eval oi).run P W = .ok (.value v) W) (hS : S w)
  (h : wpAnyH P md ops Q S fuel (listed.setIfInBounds i true) (a.put oi.dst v) w) : wpAnyH P md ops Q S (fuel + 1) listed a w := by
 simp only [Bool.and_eq_true] at hc
 exact wpAnyH_take hi hc.1.1 hc.1.2 hc.2 hQ (.inl ⟨wanted_none hg _, hy⟩) hS h
theorem wpOp_do {Q : Exit -> Act -> World -> Prop} {i : Nat} {o : Oper} {K : Act -> World -> Prop} {a : Act} {w : World} (hi : ops[i]? = some o) (hg : o.guard = none) (h : o.wp P a w K Q) : wpOp P ops Q i K a w := by
 unfold wpOp
 simp only [hi, wanted_none hg, if_true]
 exact .inl h
theorem held_one {S : World -> Prop} {Q : Exit -> Act -> World -> Prop} {i : Nat} {o : Oper} {fuel : Nat} {listed : Array Bool} {a : Act} {w : World} (hr : Region.ready md ops listed = [i]) (hi : ops[i]? = some o) (hg : o.guard = none)
  (h : ∀ K : Act -> World -> Prop, (∀ a' w', S w' -> wpAnyH P md ops Q S fuel (listed.setIfInBounds i true) a' w' -> K a' w') -> o.wp P a w K Q) : wpAnyH P md ops Q S (fuel + 1) listed a w :=
 wpAnyH_all hr (by simp) (fun j hj => by rw [List.mem_singleton] at hj; subst hj; exact wpOp_do hi hg (h _ fun _ _ h1 h2 => ⟨h1, h2⟩))
theorem held_two {S : World -> Prop} {Q : Exit -> Act -> World -> Prop} {i j : Nat} {o o' : Oper} {fuel : Nat} {listed : Array Bool} {a : Act} {w : World} (hr : Region.ready md ops listed = [i, j]) (hi : ops[i]? = some o) (hg : o.guard = none) (hj : ops[j]? = some o') (hg' : o'.guard = none)
  (h : ∀ K : Act -> World -> Prop, (∀ a' w', S w' -> wpAnyH P md ops Q S fuel (listed.setIfInBounds i true) a' w' -> K a' w') -> o.wp P a w K Q)
  (h' : ∀ K : Act -> World -> Prop, (∀ a' w', S w' -> wpAnyH P md ops Q S fuel (listed.setIfInBounds j true) a' w' -> K a' w') -> o'.wp P a w K Q) : wpAnyH P md ops Q S (fuel + 1) listed a w :=
 wpAnyH_all hr (by simp) (fun k hk => by
  rcases List.mem_cons.1 hk with rfl | hk
  ·exact wpOp_do hi hg (h _ fun _ _ h1 h2 => ⟨h1, h2⟩)
  ·rw [List.mem_singleton] at hk; subst hk; exact wpOp_do hj hg' (h' _ fun _ _ h1 h2 => ⟨h1, h2⟩))
end
end Go.Proofs.YtknpkndiflodbaaGreatDoor.Mx
