/- Walks and plain laws that the last text stands on: ConcF, TbRef2, TbRef2S, ConcT. -/
import Derived.Test.YtknpkndiflodbaaGreatDoorTs2
import Derived.Test.YtknpkndiflodbaaGreatDoorTs3
import Derived.Orders
import Derived.Test.YtknpkndiflodbaaGreatDoorTs7
import Derived.Test.YtknpkndiflodbaaGreatDoorTs19
import Derived.Deep.RegionHeld3
import Derived.Deep.CutRange
import Derived.Deep.RegionWith
import Derived.OwnWalk
import Derived.BigQuiet
import Derived.WalkMore
import Derived.Test.YtknpkndiflodbaaGreatDoorTs9
set_option linter.unusedVariables false
set_option linter.unusedSimpArgs false
set_option maxRecDepth 100000
set_option maxHeartbeats 16000000
namespace Go.Proofs.YtknpkndiflodbaaGreatDoor.Mx
open Go.RowKit
section
variable {P : Program} {md : Region.Mode}
def lateL (len n s : Nat) : Array Bool := ((Array.replicate n true) ++ (Array.replicate (len - n) false)).setIfInBounds s false
def concFB (md : Region.Mode) (l : List Oper) (n s : Nat) : Bool :=
 decide (n <= l.length) && (l.take n).all (fun o => o.guard.isNone && o.dst.isSome) && decide (concDsts l n).Nodup &&
 ((List.range n).all fun i => ((l[i]?).map fun o => o.after.all fun e => !Region.binds md e || decide (e.on < i)).getD false) &&
 ((List.range l.length).all fun j => decide (j < n) || ((List.range n).all fun i => i == s || ((l[j]?).map fun o => o.after.any fun e => Region.binds md e && e.on == i).getD false)) &&
 (decide (s < n) && Region.noSelect l.toArray && Region.free md l.toArray (lateL l.length n s) s && (Region.ready md l.toArray (lateL l.length n s)).contains s)
structure ConcFOk (md : Region.Mode) (l : List Oper) (n s : Nat) : Prop where
 le : n <= l.length
 guard : ∀ (i : Nat) (o : Oper), i < n -> l[i]? = some o -> o.guard = none
 dst : ∀ (i : Nat) (o : Oper), i < n -> l[i]? = some o -> ∃ s, o.dst = some s
 apart : ∀ (i j : Nat) (oi oj : Oper) (s : Nat), i < n -> j < n -> l[i]? = some oi -> l[j]? = some oj -> oi.dst = some s -> oj.dst = some s -> i = j
 back : ∀ (i : Nat) (o : Oper), i < n -> l[i]? = some o -> ∀ e ∈ o.after, Region.binds md e = true -> e.on < i
 waits : ∀ (j : Nat) (o : Oper), n <= j -> l[j]? = some o -> ∀ i, i < n -> i ≠ s -> ∃ e ∈ o.after, Region.binds md e = true /\ e.on = i
 lt : s < n
 noSel : Region.noSelect l.toArray = true
 free : Region.free md l.toArray (lateL l.length n s) s = true
 rdy : (Region.ready md l.toArray (lateL l.length n s)).contains s = true
theorem concFB_ok {l : List Oper} {n s : Nat} (h : concFB md l n s = true) : ConcFOk md l n s := by
 unfold concFB at h
 simp only [Bool.and_eq_true, decide_eq_true_eq, List.all_eq_true, Bool.or_eq_true] at h
 obtain ⟨⟨⟨⟨⟨h1, h2⟩, h3⟩, h4⟩, h5⟩, ⟨⟨h6, h7⟩, h8⟩, h9⟩ := h
 have tk : ∀ (i : Nat) (o : Oper), i < n -> l[i]? = some o -> (l.take n)[i]? = some o := fun i o hi ho => by rw [List.getElem?_take_of_lt hi]; exact ho
 refine ⟨h1, ?_, ?_, ?_, ?_, ?_, h6, h7, h8, h9⟩
 ·intro i o hi ho
  have := (h2 o (List.mem_of_getElem? (tk i o hi ho))).1
  simpa using this
 ·intro i o hi ho
  have := (h2 o (List.mem_of_getElem? (tk i o hi ho))).2
  exact Option.isSome_iff_exists.1 this
 ·intro i j oi oj s' hi hj hoi hoj hsi hsj
  exact nodup_filterMap h3 (tk i oi hi hoi) (tk j oj hj hoj) hsi hsj
 ·intro i o hi ho e he
  have := h4 i (List.mem_range.2 hi)
  rw [ho] at this
  simp only [Option.map_some, Option.getD_some, Array.all_eq_true_iff_forall_mem, decide_eq_true_eq, Bool.or_eq_true, Bool.not_eq_true'] at this
  intro hb
  rcases this e he with h | h
  ·rw [hb] at h; cases h
  ·exact h
 ·intro j o hj ho i hi his
  have hjl := (List.getElem?_eq_some_iff.1 ho).1
  have := ((h5 j (List.mem_range.2 hjl)).resolve_left (by omega) i (List.mem_range.2 hi)).resolve_left (by simpa using his)
  rw [ho] at this
  simp only [Option.map_some, Option.getD_some] at this
  rw [Array.any_eq_true] at this
  obtain ⟨k, hk, h⟩ := this
  simp only [Bool.and_eq_true, beq_iff_eq] at h
  exact ⟨_, Array.getElem_mem hk, h.1, h.2⟩
theorem wpAny_concF {l : List Oper} {n s : Nat} {R : Nat -> Value -> World -> Prop} {G : World -> World -> Prop} {Q : Exit -> Act -> World -> Prop} {a0 : Act} {w0 : World}
  (hB : concFB md l n s = true) (hsz : ∀ s ∈ concDsts l n, s < a0.tmps.size) (htrans : ∀ {w1 w2 : World}, G w0 w1 -> G w1 w2 -> G w0 w2)
  (hop : ConcObs P md l n R G (fun _ _ => True) Q a0 w0 (l.take n) 0)
  (hQ : ∀ c a v w, Q (.panic c) (Act.put a ((l[s]?).bind (·.dst)) v) w -> Q (.panic c) a w)
  (hpure : ∀ (os : Oper) (T : Array Value) (w : World), l[s]? = some os -> (∀ e ∈ os.after, Region.binds md e = true -> ∀ s', (l[e.on]?).bind (·.dst) = some s' -> R e.on (T.getD s' undef) w) -> ∃ v, Yields P l.toArray os v { tmps := T, defers := a0.defers } /\ R s v w)
  (hend : ∀ (f : Nat -> Value) (w : World), G w0 w -> (∀ i s, i < n -> (l[i]?).bind (·.dst) = some s -> R i (f s) w) ->
   wpAny P md l.toArray Q (l.length - n) ((Array.replicate n true) ++ (Array.replicate (l.length - n) false)) { tmps := (concDsts l n).foldl (fun x s => x.setIfInBounds s (f s)) a0.tmps, defers := a0.defers } w) :
  ∀ (m : Nat) (L : Array Bool) (a : Act) (w : World), ConcInv md l n R G (fun _ _ => True) a0 w0 L a w -> (List.range n).countP (fun i => !L.getD i true) = m -> wpAny P md l.toArray Q (m + (l.length - n)) L a w := by
 have ok := concFB_ok hB
 have hle := ok.le
 intro m
 induction m with
 | zero =>
  intro L a w inv hc
  have hall : ∀ i, i < n -> L.getD i false = true := fun i hi => by
   rw [List.countP_eq_zero] at hc
   have := hc i (List.mem_range.2 hi)
   rw [getD_flip (by rw [inv.size]; omega)] at this
   simpa using this
  have hL : L = (Array.replicate n true) ++ (Array.replicate (l.length - n) false) := by
   apply Array.ext (by simp [inv.size]; omega)
   intro i h1 h2
   by_cases hi : i < n
   ·have := hall i hi
    simp [h1] at this
    rw [this, Array.getElem_append_left (by simpa using hi)]; simp
   ·have := inv.tail i (by omega)
    simp [h1] at this
    rw [this, Array.getElem_append_right (by simp; omega)]; simp
  rw [Nat.zero_add]
  have h1 := hend (fun s => a.tmps.getD s undef) w inv.grow (fun i s hi hs => inv.vals i (hall i hi) s hs)
  rw [hL]
  have ha : a = { tmps := (concDsts l n).foldl (fun x s => x.setIfInBounds s (a.tmps.getD s undef)) a0.tmps, defers := a0.defers } := by
   obtain ⟨t, d⟩ := a
   have e1 : d = a0.defers := inv.defers
   subst e1
   congr 1
   exact conc_rebuild _ _ _ inv.tmps inv.frame
  rw [ha]
  exact h1
 | succ m ih =>
  intro L a w inv hc
  by_cases hlate : ∀ k, k < n -> k ≠ s -> L.getD k true = true
  ·-- all but the late one
   have hsL : L.getD s true = false := by
    have : 0 < (List.range n).countP (fun i => !L.getD i true) := by omega
    rw [List.countP_pos_iff] at this
    obtain ⟨k, h1, h2⟩ := this
    have h2 : L.getD k true = false := by simpa using h2
    by_cases hks : k = s
    ·rw [<- hks]; exact h2
    ·rw [hlate k (List.mem_range.1 h1) hks] at h2; cases h2
   have hsn := ok.lt
   have hLe : L = lateL l.length n s := by
    unfold lateL
    apply Array.ext (by simp [inv.size]; omega)
    intro i h1 h2
    have hsz2 : i < (Array.replicate n true ++ Array.replicate (l.length - n) false).size := by simp; have := inv.size; omega
    rw [Array.getElem_setIfInBounds hsz2]
    by_cases his : s = i
    ·subst his
     rw [if_pos rfl]
     simp [h1] at hsL
     exact hsL
    ·rw [if_neg his]
     by_cases hi : i < n
     ·have := hlate i hi (Ne.symm his)
      simp [h1] at this
      rw [this, Array.getElem_append_left (by simpa using hi)]; simp
     ·have := inv.tail i (by omega)
      simp [h1] at this
      rw [this, Array.getElem_append_right (by simp; omega)]; simp
   obtain ⟨os, hos⟩ : ∃ os, l[s]? = some os := ⟨_, List.getElem?_eq_getElem (show s < l.length by omega)⟩
   obtain ⟨d, hd⟩ := ok.dst s os hsn hos
   have hdone : ∀ e ∈ os.after, Region.binds md e = true -> L.getD e.on false = true := fun e he hbd => by
    have hb := ok.back s os hsn hos e he hbd
    rw [<- getD_flip (by rw [inv.size]; omega)]
    exact hlate e.on (by omega) (by omega)
   obtain ⟨v, hy, hRv⟩ := hpure os a.tmps w hos (fun e he hb s' hs' => inv.vals e.on (hdone e he hb) s' hs')
   have ea : a = { tmps := a.tmps, defers := a0.defers } := by
    have := inv.defers
    obtain ⟨t, d⟩ := a
    have e1 : d = a0.defers := this
    subst e1
    rfl
   rw [<- ea] at hy
   have hdm : d ∈ concDsts l n := List.mem_filterMap.2 ⟨os, List.mem_of_getElem? (show (l.take n)[s]? = some os by rw [List.getElem?_take_of_lt hsn]; exact hos), hd⟩
   rw [show m + 1 + (l.length - n) = (m + (l.length - n)) + 1 by omega]
   refine wpAny_take (oi := os) (v := v) (by simpa using hos) ok.noSel (hLe ▸ ok.free) (hLe ▸ ok.rdy) (fun c a w h => hQ c a v w (by rw [hos]; exact h)) hy ?_
   refine ih _ _ _ ⟨by simp [inv.size], ?_, inv.grow, trivial, by rw [hd]; exact inv.defers, ?_, ?_, ?_⟩ ?_
   ·intro j hj
    rw [getD_set_ne false (by omega)]; exact inv.tail j hj
   ·rw [hd]; simp [Act.put, inv.tmps]
   ·intro s' hs
    have hne : d ≠ s' := by rintro rfl; exact hs hdm
    rw [hd]
    show (a.tmps.setIfInBounds d v).getD s' undef = _
    rw [<- inv.frame s' hs]
    simp [Array.getElem?_setIfInBounds_ne hne]
   ·intro j hj s' hs
    rw [hd]
    show R j ((a.tmps.setIfInBounds d v).getD s' undef) w
    by_cases hji : j = s
    ·subst hji
     rw [hos] at hs
     simp at hs
     rw [hd] at hs
     injection hs with hs
     subst hs
     have hlt : d < a.tmps.size := by rw [inv.tmps]; exact hsz d hdm
     rw [show (a.tmps.setIfInBounds d v).getD d undef = v by simp [hlt]]
     exact hRv
    ·have hj' : L.getD j false = true := by rwa [getD_set_ne false (Ne.symm hji)] at hj
     have hjn : j < n := by
      rcases Nat.lt_or_ge j n with h | h
      ·exact h
      ·rw [inv.tail j h] at hj'; cases hj'
     obtain ⟨oj, hoj⟩ : ∃ oj, l[j]? = some oj := ⟨_, List.getElem?_eq_getElem (show j < l.length by omega)⟩
     have hsj : oj.dst = some s' := by rw [hoj] at hs; simpa using hs
     have hne : d ≠ s' := by
      rintro rfl
      exact hji (ok.apart j s oj os d hjn hsn hoj hos hsj hd)
     have hv := inv.vals j hj' s' hs
     have e : (a.tmps.setIfInBounds d v).getD s' undef = a.tmps.getD s' undef := by simp [Array.getElem?_setIfInBounds_ne hne]
     rw [e]
     exact hv
   ·have h0 : (List.range n).countP (fun x => !(L.setIfInBounds s true).getD x true) = 0 := by
     rw [List.countP_eq_zero]
     intro x hx
     by_cases hxs : x = s
     ·subst hxs
      rw [getD_flip (by simp [inv.size]; omega), getD_set_self (by rw [inv.size]; omega)]; simp
     ·rw [getD_set_ne true (Ne.symm hxs), hlate x (List.mem_range.1 hx) hxs]; simp
    have h1 : (List.range n).countP (fun x => !L.getD x true) = 1 := by
     rw [List.countP_congr (q := fun x => x == s) (fun x hx => by
      by_cases hxs : x = s
      ·subst hxs; rw [hsL]; simp
      ·rw [hlate x (List.mem_range.1 hx) hxs]; simp [hxs])]
     have := List.Nodup.count (a := s) (List.nodup_range (n := n))
     rw [if_pos (List.mem_range.2 hsn)] at this
     simpa [List.count] using this
    omega
  ·obtain ⟨k, hk, hks, hkL⟩ : ∃ k, k < n /\ k ≠ s /\ L.getD k true = false := by
    apply Classical.byContradiction
    intro hno
    refine hlate fun k h1 h2 => ?_
    cases h3 : L.getD k true with
    | true => rfl
    | false => exact absurd ⟨k, h1, h2, h3⟩ hno
   rw [show m + 1 + (l.length - n) = (m + (l.length - n)) + 1 by omega, wpAny]
   constructor
   ·intro hr
    exfalso
    obtain ⟨i, hin, hiL, hmin⟩ : ∃ i, i < n /\ L.getD i true = false /\ ∀ j, j < i -> L.getD j true = true := by
     have h : ∃ i, i < n /\ L.getD i true = false := ⟨k, hk, hkL⟩
     have : ∀ b i, i <= b -> i < n -> L.getD i true = false -> ∃ i, i < n /\ L.getD i true = false /\ ∀ j, j < i -> L.getD j true = true := by
      intro b
      induction b with
      | zero => intro i hi h1 h2; exact ⟨i, h1, h2, fun j hj => by omega⟩
      | succ b ihb =>
       intro i hi h1 h2
       by_cases hx : ∃ j, j < i /\ L.getD j true = false
       ·obtain ⟨j, hj, h3⟩ := hx
        exact ihb j (by omega) (by omega) h3
       ·refine ⟨i, h1, h2, fun j hj => ?_⟩
        cases h4 : L.getD j true with
        | true => rfl
        | false => exact absurd ⟨j, hj, h4⟩ hx
     exact this k k (Nat.le_refl _) hk hkL
    have hil : i < l.length := by omega
    have ho : l[i]? = some l[i] := List.getElem?_eq_getElem hil
    have hmem : i ∈ Region.ready md l.toArray L := by
     rw [mem_ready]
     refine ⟨hiL, l[i], by simp, fun e he hbd => ?_⟩
     have hb := ok.back i _ hin ho e he hbd
     rw [<- getD_flip (by rw [inv.size]; omega)]
     exact hmin e.on hb
    rw [hr] at hmem
    cases hmem
   ·intro i hi
    obtain ⟨hiL, o, ho, hdep⟩ := mem_ready.1 hi
    have ho' : l[i]? = some o := by simpa using ho
    have hin : i < n := by
     rcases Nat.lt_or_ge i n with h | h
     ·exact h
     ·exfalso
      obtain ⟨e, he, hb, hon⟩ := ok.waits i o h ho' k hk hks
      have := hdep e he hb
      rw [hon, <- getD_flip (by rw [inv.size]; omega)] at this
      rw [hkL] at this
      cases this
    have hob := concObs_at _ 0 hop i o (by rw [List.getElem?_take_of_lt hin]; exact ho')
    rw [Nat.zero_add] at hob
    obtain ⟨d, hd⟩ := ok.dst i o hin ho'
    have hdm : d ∈ concDsts l n := List.mem_filterMap.2 ⟨o, List.mem_of_getElem? (show (l.take n)[i]? = some o by rw [List.getElem?_take_of_lt hin]; exact ho'), hd⟩
    unfold wpOp
    rw [ho]
    have hg := ok.guard i o hin ho'
    have hw : Region.wanted o (yielded l.toArray a.tmps) = true := by unfold Region.wanted; rw [hg]
    simp only [hw, if_true]
    have ea : a = { tmps := a.tmps, defers := a0.defers } := by
     have := inv.defers
     obtain ⟨t, d⟩ := a
     have e1 : d = a0.defers := this
     subst e1
     rfl
    have key := hob L a.tmps w inv.grow trivial inv.size hiL hdep inv.frame (fun e he hb s' hs => inv.vals e.on (hdep e he hb) s' hs) (wpAny P md l.toArray Q (m + (l.length - n)) (L.setIfInBounds i true))
    rw [<- ea] at key
    refine .inl (key ?_)
    intro v w' hG hst hJ hR
    refine ih _ _ _ ⟨by simp [inv.size], ?_, htrans inv.grow hG, hJ, by rw [hd]; exact inv.defers, ?_, ?_, ?_⟩ ?_
    ·intro j hj
     rw [getD_set_ne false (by omega)]; exact inv.tail j hj
    ·rw [hd]; simp [Act.put, inv.tmps]
    ·intro s' hs
     have hne : d ≠ s' := by rintro rfl; exact hs hdm
     rw [hd]
     show (a.tmps.setIfInBounds d v).getD s' undef = _
     rw [<- inv.frame s' hs]
     simp [Array.getElem?_setIfInBounds_ne hne]
    ·intro j hj s hs
     rw [hd]
     show R j ((a.tmps.setIfInBounds d v).getD s undef) w'
     by_cases hji : j = i
     ·subst hji
      rw [ho'] at hs
      simp at hs
      rw [hd] at hs
      injection hs with hs
      subst hs
      have hlt : d < a.tmps.size := by rw [inv.tmps]; exact hsz d hdm
      rw [show (a.tmps.setIfInBounds d v).getD d undef = v by simp [hlt]]
      exact hR
     ·have hj' : L.getD j false = true := by rwa [getD_set_ne false (Ne.symm hji)] at hj
      have hjn : j < n := by
       rcases Nat.lt_or_ge j n with h | h
       ·exact h
       ·rw [inv.tail j h] at hj'; cases hj'
      obtain ⟨oj, hoj⟩ : ∃ oj, l[j]? = some oj := ⟨_, List.getElem?_eq_getElem (show j < l.length by omega)⟩
      have hsj : oj.dst = some s := by rw [hoj] at hs; simpa using hs
      have hne : d ≠ s := by
       rintro rfl
       exact hji (ok.apart j i oj o d hjn hin hoj ho' hsj hd)
      have hv := inv.vals j hj' s hs
      have e : (a.tmps.setIfInBounds d v).getD s undef = a.tmps.getD s undef := by simp [Array.getElem?_setIfInBounds_ne hne]
      rw [e]
      exact hst j _ hjn hji hj' hv
    ·have hcnt : ∀ (r : List Nat), r.Nodup -> i ∈ r -> r.countP (fun x => !(L.setIfInBounds i true).getD x true) + 1 = r.countP (fun x => !L.getD x true) := by
      intro r
      induction r with
      | nil => intro _ h; cases h
      | cons x r ihr =>
       intro hn hm
       rw [List.nodup_cons] at hn
       rw [List.countP_cons, List.countP_cons]
       by_cases hx : x = i
       ·subst hx
        have h0 : ∀ y ∈ r, (L.setIfInBounds x true).getD y true = L.getD y true := fun y hy => getD_set_ne true (by rintro rfl; exact hn.1 hy)
        have h1 : r.countP (fun y => !(L.setIfInBounds x true).getD y true) = r.countP (fun y => !L.getD y true) := by
         apply List.countP_congr
         intro y hy
         rw [h0 y hy]
        rw [h1, hiL]
        have h2 : (L.setIfInBounds x true).getD x true = true := by rw [getD_flip (by simp [inv.size]; omega)]; exact getD_set_self (by rw [inv.size]; omega)
        rw [h2]
        simp
       ·have h2 := ihr hn.2 (by rcases List.mem_cons.1 hm with h | h; exact absurd h.symm hx; exact h)
        rw [getD_set_ne true (Ne.symm hx)]
        omega
     have := hcnt (List.range n) List.nodup_range (List.mem_range.2 hin)
     omega
theorem wp_region_concF {id : Nat} {l : List Oper} (n s : Nat) {Q : Exit -> Act -> World -> Prop} {a0 : Act} {w : World} (R : Nat -> Value -> World -> Prop) (G : World -> World -> Prop)
  (hm : P.follows .mixedOrders = true) (hB : concFB .any l n s = true) (hS : Region.seqB .any l.toArray (l.length - n) n ((Array.replicate n true) ++ (Array.replicate (l.length - n) false)) = true)
  (hsz : ((concDsts l n).all fun s => decide (s < a0.tmps.size)) = true) (h0 : G w.drew w.drew)
  (htrans : ∀ {w1 w2 : World}, G w.drew w1 -> G w1 w2 -> G w.drew w2)
  (hop : ConcObs P .any l n R G (fun _ _ => True) Q a0 w.drew (l.take n) 0)
  (hQ : ∀ c a v w, Q (.panic c) (Act.put a ((l[s]?).bind (·.dst)) v) w -> Q (.panic c) a w)
  (hpure : ∀ (os : Oper) (T : Array Value) (w : World), l[s]? = some os -> (∀ e ∈ os.after, Region.binds .any e = true -> ∀ s', (l[e.on]?).bind (·.dst) = some s' -> R e.on (T.getD s' undef) w) -> ∃ v, Yields P l.toArray os v { tmps := T, defers := a0.defers } /\ R s v w)
  (hend : ∀ (f : Nat -> Value) (w1 : World), G w.drew w1 -> (∀ i s, i < n -> (l[i]?).bind (·.dst) = some s -> R i (f s) w1) ->
   wpList P l.toArray Q (l.drop n) { tmps := (concDsts l n).foldl (fun x s => x.setIfInBounds s (f s)) a0.tmps, defers := a0.defers } w1) :
  (Code.region id l.toArray true).wp P Q a0 w := by
 refine wp_region_any hm ?_
 have hle := (concFB_ok hB).le
 have hrep : ∀ j, (Array.replicate l.length false).getD j false = false := fun j => by
  by_cases h : j < l.length <;> simp [h]
 have hd : (l.drop n).length = l.length - n := by simp
 have key := wpAny_concF (P := P) (md := .any) (Q := Q) (a0 := a0) (w0 := w.drew) hB (by simpa using hsz) htrans hop hQ hpure (fun f w1 h1 h3 => by
  have := wpAny_of_seq (P := P) (md := .any) (Q' := Q) (l.drop n) n _ _ w1 (fun j => by simp [List.getElem?_drop]) (by rw [hd]; exact hS) (hend f w1 h1 h3)
  rwa [hd] at this) n (Array.replicate l.length false) a0 w.drew
  ⟨by simp, fun j _ => hrep j, h0, trivial, rfl, rfl, fun _ _ => rfl, fun i hi => by rw [hrep] at hi; cases hi⟩ (by
   rw [List.countP_eq_length.2 (fun i hi => by
    have h := List.mem_range.1 hi
    rw [getD_flip (by simp; omega), hrep]; rfl)]
   simp)
 have e : n + (l.length - n) = l.toArray.size := by simp; omega
 rw [e] at key
 have e2 : l.toArray.size = l.length := by simp
 rw [<- e2] at key
 exact key
end
end Go.Proofs.YtknpkndiflodbaaGreatDoor.Mx
namespace Go.Proofs.YtknpkndiflodbaaGreatDoor.Tb
open Go Go.RowKit Go.Proofs Mx
def orTo (p : Nat -> Bool) (n : Nat) : Nat := ((List.range n).filter p).foldl (fun M c => M ||| 2 ^ c) 0
theorem orTo_succ (p : Nat -> Bool) (n : Nat) : orTo p (n + 1) = if p n = true then orTo p n ||| 2 ^ n else orTo p n := by
 unfold orTo
 rw [List.range_succ, List.filter_append]
 by_cases h : p n = true
 ·simp [h]
 ·simp [h]
theorem orTo_bit (p : Nat -> Bool) (n i : Nat) : (orTo p n).testBit i = (decide (i < n) && p i) := by
 unfold orTo
 rw [orAll_bit]
 by_cases h : i < n <;> simp [h]
def bothP (k a b : Nat) (i : Nat) : Bool := if k = 1 then a.testBit i || b.testBit i else a.testBit i && !b.testBit i
theorem bothP_or {a b : Nat} (ha : a < 2 ^ 256) (hb : b < 2 ^ 256) : orTo (bothP 1 a b) 256 = a ||| b := by
 apply Nat.eq_of_testBit_eq
 intro i
 rw [orTo_bit, Nat.testBit_or]
 unfold bothP
 by_cases h : i < 256
 ·simp [h]
 ·have h1 : ∀ x : Nat, x < 2 ^ 256 -> x.testBit i = false := fun x hx => Nat.testBit_lt_two_pow (Nat.lt_of_lt_of_le hx (Nat.pow_le_pow_right (by omega) (by omega)))
  simp [h, h1 a ha, h1 b hb]
theorem bothP_zero {a b : Nat} (ha : a < 2 ^ 256) : (orTo (bothP 2 a b) 256 = 0) ↔ withinF a b = true := by
 rw [within_sub]
 constructor
 ·intro h i hi
  have h1 := congrArg (fun n => Nat.testBit n i) h
  simp only [orTo_bit, Nat.zero_testBit] at h1
  have h2 : i < 256 := by
   rcases Nat.lt_or_ge i 256 with h | h
   ·exact h
   ·rw [Nat.testBit_lt_two_pow (Nat.lt_of_lt_of_le ha (Nat.pow_le_pow_right (by omega) h))] at hi; cases hi
  unfold bothP at h1
  simp [h2, hi] at h1
  exact h1
 ·intro h
  apply Nat.eq_of_testBit_eq
  intro i
  rw [orTo_bit, Nat.zero_testBit]
  unfold bothP
  cases ha : a.testBit i with
  | false => simp
  | true => rw [h i ha]; simp
theorem orTo_lt (p : Nat -> Bool) (n : Nat) (hn : n <= 256) : orTo p n < 2 ^ 256 := by
 apply Nat.lt_pow_two_of_testBit
 intro i hi
 rw [orTo_bit, decide_eq_false (by omega)]; rfl
theorem both_any (a b k : Nat) (hk : k = 1 ∨ k = 2) (w : World) :
  Calls Tryz.prog 51 #[setV a, setV b, .int .i64 (k : Int)] w fun e w' => e = .returned (setV (orTo (bothP k a b) 256)) /\ Below w.heap.size w w' := by
 unfold setV
 have HK := Hd hk
 clear hk
 go_enter Tryz.func51, Tryz.ntmps51
 go_wp2_with fail
 have hA : Blk ((((w.alloc (.cells #[.int .u64 (wd a 0), .int .u64 (wd a 1), .int .u64 (wd a 2), .int .u64 (wd a 3)] 26)).alloc (.cells #[.int .u64 (wd b 0), .int .u64 (wd b 1), .int .u64 (wd b 2), .int .u64 (wd b 3)] 26)).alloc (.cells #[.int .u64 0, .int .u64 0, .int .u64 0, .int .u64 0] 26)).alloc (.cells #[.int .u64 0, .int .u64 0, .int .u64 0, .int .u64 0] 26)) w.heap.size 26 (setC a) := (((Blk.new_ rfl _ _).alloc _).alloc _).alloc _
 have hB : Blk ((((w.alloc (.cells #[.int .u64 (wd a 0), .int .u64 (wd a 1), .int .u64 (wd a 2), .int .u64 (wd a 3)] 26)).alloc (.cells #[.int .u64 (wd b 0), .int .u64 (wd b 1), .int .u64 (wd b 2), .int .u64 (wd b 3)] 26)).alloc (.cells #[.int .u64 0, .int .u64 0, .int .u64 0, .int .u64 0] 26)).alloc (.cells #[.int .u64 0, .int .u64 0, .int .u64 0, .int .u64 0] 26)) (w.heap.size + 1) 26 (setC b) := ((Blk.new_ (by simp) _ _).alloc _).alloc _
 have hR : Blk ((((w.alloc (.cells #[.int .u64 (wd a 0), .int .u64 (wd a 1), .int .u64 (wd a 2), .int .u64 (wd a 3)] 26)).alloc (.cells #[.int .u64 (wd b 0), .int .u64 (wd b 1), .int .u64 (wd b 2), .int .u64 (wd b 3)] 26)).alloc (.cells #[.int .u64 0, .int .u64 0, .int .u64 0, .int .u64 0] 26)).alloc (.cells #[.int .u64 0, .int .u64 0, .int .u64 0, .int .u64 0] 26)) (w.heap.size + 1 + 1) 26 (setC 0) := (Blk.new_ (by simp) _ _).alloc _
 have hS : Blk ((((w.alloc (.cells #[.int .u64 (wd a 0), .int .u64 (wd a 1), .int .u64 (wd a 2), .int .u64 (wd a 3)] 26)).alloc (.cells #[.int .u64 (wd b 0), .int .u64 (wd b 1), .int .u64 (wd b 2), .int .u64 (wd b 3)] 26)).alloc (.cells #[.int .u64 0, .int .u64 0, .int .u64 0, .int .u64 0] 26)).alloc (.cells #[.int .u64 0, .int .u64 0, .int .u64 0, .int .u64 0] 26)) (w.heap.size + 1 + 1 + 1) 26 (setC 0) := Blk.new_ (by simp) _ _
 have hbl : Below w.heap.size w ((((w.alloc (.cells #[.int .u64 (wd a 0), .int .u64 (wd a 1), .int .u64 (wd a 2), .int .u64 (wd a 3)] 26)).alloc (.cells #[.int .u64 (wd b 0), .int .u64 (wd b 1), .int .u64 (wd b 2), .int .u64 (wd b 3)] 26)).alloc (.cells #[.int .u64 0, .int .u64 0, .int .u64 0, .int .u64 0] 26)).alloc (.cells #[.int .u64 0, .int .u64 0, .int .u64 0, .int .u64 0] 26)) := ((((Below.refl w.heap.size w).alloc (Nat.le_refl _) _).alloc (by simp) _).alloc (by simp; omega) _).alloc (by simp; omega) _
 generalize ((((w.alloc (.cells #[.int .u64 (wd a 0), .int .u64 (wd a 1), .int .u64 (wd a 2), .int .u64 (wd a 3)] 26)).alloc (.cells #[.int .u64 (wd b 0), .int .u64 (wd b 1), .int .u64 (wd b 2), .int .u64 (wd b 3)] 26)).alloc (.cells #[.int .u64 0, .int .u64 0, .int .u64 0, .int .u64 0] 26)).alloc (.cells #[.int .u64 0, .int .u64 0, .int .u64 0, .int .u64 0] 26)) = W1 at hA hB hR hS hbl ⊢
 obtain ⟨h0, eh0⟩ : ∃ h, w.heap.size = h := ⟨_, rfl⟩
 rw [eh0] at hA hB hR hS hbl ⊢
 have HW := Hd eh0
 clear eh0
 go_loopg [8] 256 (fun m v wr => ∃ i : Nat, i <= 256 /\ m = 256 - i /\ v = .int .i64 (i : Int) /\ Blk wr h0 26 (setC a) /\ Blk wr (h0 + 1) 26 (setC b) /\ Blk wr (h0 + 1 + 1) 26 (setC 0) /\ Blk wr (h0 + 1 + 1 + 1) 26 (setC (orTo (bothP k a b) i)) /\ Below h0 w wr)
 case atStart => exact ⟨0, by omega, rfl, rfl, hA, hB, hR, hS, hbl⟩
 case round =>
  obtain ⟨i, hi, hm, rfl, gA, gB, gR, gS, gb⟩ := hrel
  clear hA hB hR hS hbl
  by_cases hlt : i < 256
  ·have hi1 : (i : Int) < 256 := by omega
   have hi0 : (0 : Int) <= (i : Int) := by omega
   obtain ⟨x, hx⟩ : ∃ x, a.testBit i = x := ⟨_, rfl⟩
   obtain ⟨y, hy⟩ : ∃ y, b.testBit i = y := ⟨_, rfl⟩
   have ha := fun W => rhas_any a i hlt W
   have hb := fun W => rhas_any b i hlt W
   rw [hx] at ha
   rw [hy] at hb
   have A := Hd (An hm (An gA (An gB (An gR (An gS (An gb (An hx hy)))))))
   have MK := Hd (show ∀ W, Below wr.heap.size wr.drew W -> (W.cell? ⟨h0, 0, none⟩ = some (.int .u64 (wd a 0)) /\ W.cell? ⟨h0, 1, none⟩ = some (.int .u64 (wd a 1)) /\ W.cell? ⟨h0, 2, none⟩ = some (.int .u64 (wd a 2)) /\ W.cell? ⟨h0, 3, none⟩ = some (.int .u64 (wd a 3))) /\
     (W.cell? ⟨h0 + 1, 0, none⟩ = some (.int .u64 (wd b 0)) /\ W.cell? ⟨h0 + 1, 1, none⟩ = some (.int .u64 (wd b 1)) /\ W.cell? ⟨h0 + 1, 2, none⟩ = some (.int .u64 (wd b 2)) /\ W.cell? ⟨h0 + 1, 3, none⟩ = some (.int .u64 (wd b 3))) /\ Below wr.heap.size wr.drew W from fun W h => by
    have a := A.out.2.1.below (show Below wr.heap.size wr W from (show Below wr.heap.size wr wr.drew from (Below.refl _ _).drew).trans h) A.out.2.1.lt
    have b := A.out.2.2.1.below (show Below wr.heap.size wr W from (show Below wr.heap.size wr wr.drew from (Below.refl _ _).drew).trans h) A.out.2.2.1.lt
    exact ⟨⟨a.cell 0, a.cell 1, a.cell 2, a.cell 3⟩, ⟨b.cell 0, b.cell 1, b.cell 2, b.cell 3⟩, h⟩)
   have hca : ∀ W, Below wr.heap.size wr.drew W -> Calls Tryz.prog 53 #[.agg #[.int .u64 (wd a 0), .int .u64 (wd a 1), .int .u64 (wd a 2), .int .u64 (wd a 3)], .int .i64 (i : Int)] W fun e W' => e = .returned (.bool x) /\ Below wr.heap.size wr.drew W' := fun W h => (ha W).mono fun e W' ⟨he, hb⟩ => ⟨he, h.trans (hb.mono h.size)⟩
   have hcb : ∀ W, Below wr.heap.size wr.drew W -> Calls Tryz.prog 53 #[.agg #[.int .u64 (wd b 0), .int .u64 (wd b 1), .int .u64 (wd b 2), .int .u64 (wd b 3)], .int .i64 (i : Int)] W fun e W' => e = .returned (.bool y) /\ Below wr.heap.size wr.drew W' := fun W h => (hb W).mono fun e W' ⟨he, hb⟩ => ⟨he, h.trans (hb.mono h.size)⟩
   have hU : Below wr.heap.size wr.drew wr.drew := Below.refl _ _
   clear hm gA gB gR gS gb ha hb hx hy
   go_upto_region 5 with fail
   apply via
   ·intro KV
    go_region_held3 (fun W => (W.cell? ⟨h0, 0, none⟩ = some (.int .u64 (wd a 0)) /\ W.cell? ⟨h0, 1, none⟩ = some (.int .u64 (wd a 1)) /\ W.cell? ⟨h0, 2, none⟩ = some (.int .u64 (wd a 2)) /\ W.cell? ⟨h0, 3, none⟩ = some (.int .u64 (wd a 3))) /\
      (W.cell? ⟨h0 + 1, 0, none⟩ = some (.int .u64 (wd b 0)) /\ W.cell? ⟨h0 + 1, 1, none⟩ = some (.int .u64 (wd b 1)) /\ W.cell? ⟨h0 + 1, 2, none⟩ = some (.int .u64 (wd b 2)) /\ W.cell? ⟨h0 + 1, 3, none⟩ = some (.int .u64 (wd b 3))) /\ Below wr.heap.size wr.drew W)
     (first
      | exact MK.out _ hU
      | exact MK.out _ (by assumption))
     (first
      | (go_at_call_of 53 (wd a 0); refine (hca _ (by assumption)).mono ?_; rintro e w5 ⟨rfl, hb5⟩)
      | (go_at_call_of 53 (wd b 0); refine (hcb _ (by assumption)).mono ?_; rintro e w5 ⟨rfl, hb5⟩))
    all_goals (try go_simp)
    all_goals revert w5
    all_goals exact KV.out
   ·intro w5 hb5
    intros
    rename_i hheld
    clear hheld hca hcb hU
    have hb5 : Below wr.heap.size wr w5 := (show Below wr.heap.size wr wr.drew from (Below.refl _ _).drew).trans hb5
    have gA := A.out.2.1.below hb5 A.out.2.1.lt
    have gB := A.out.2.2.1.below hb5 A.out.2.2.1.lt
    have gR := A.out.2.2.2.1.below hb5 A.out.2.2.2.1.lt
    have gS := A.out.2.2.2.2.1.below hb5 A.out.2.2.2.2.1.lt
    have hh0 : h0 + 3 < wr.heap.size := A.out.2.2.2.2.1.lt
    have gb : Below h0 w w5 := A.out.2.2.2.2.2.1.trans (hb5.mono (by omega))
    have Q := Hd (An gA (An gB (An gR (An gS (An gb hh0)))))
    obtain ⟨f0, f1, f2, f3, ff⟩ := gS.facts4
    clear hb5 gA gB gR gS gb hh0 MK
    have hp : bothP k a b i = (if k = 1 then x || y else x && !y) := by unfold bothP; rw [A.out.2.2.2.2.2.2.1, A.out.2.2.2.2.2.2.2]
    have hsu := orTo_succ (bothP k a b) i
    rw [hp] at hsu
    obtain ⟨pb, hpb⟩ : ∃ pb, (if k = 1 then x || y else x && !y) = pb := ⟨_, rfl⟩
    rw [hpb] at hsu
    have HP := Hd (An hpb hsu)
    clear hp hpb hsu
    go_upto_region 6 with fail
    go_cut [50] from 22 to 50 (fun s50 wx => s50 = .bool pb /\ w5 = wx)
    case first =>
     rcases HK.out with rfl | rfl <;> cases x <;> cases y
     all_goals (
     go_wp2_with fail
     go_meet
     exact ⟨by rw [<- HP.out.1]; rfl, rfl⟩)
    case rest =>
     obtain ⟨rfl, rfl⟩ := hcut
     cases pb with
     | true =>
      obtain ⟨M, hM⟩ : ∃ M, orTo (bothP k a b) i = M := ⟨_, rfl⟩
      rw [hM] at f0 f1 f2 f3
      have hwi := rwith_any M i hlt
      have HM := Hd hM
      clear hM
      go_wp2_with fail
      refine (hwi _).mono ?_
      rintro e w6 ⟨rfl, hb6⟩
      have gS := Q.out.2.2.2.1.below hb6 Q.out.2.2.2.1.lt
      obtain ⟨f0, f1, f2, f3, ff⟩ := gS.facts4
      have R := Hd (An (Q.out.1.below hb6 Q.out.1.lt) (An (Q.out.2.1.below hb6 Q.out.2.1.lt) (An (Q.out.2.2.1.below hb6 Q.out.2.2.1.lt) (An gS (Q.out.2.2.2.2.1.trans (hb6.mono (by have := Q.out.2.2.2.1.lt; omega)))))))
      clear hwi gS hb6
      unfold setV
      go_wp2_with fail
      go_roundg (256 - (i + 1))
      case measure => have := A.out.1; omega
      case rel =>
       refine ⟨i + 1, by omega, rfl, rfl, ?_, ?_, ?_, ?_, ?_⟩
       ·exact (((R.out.1.far (p := ⟨h0 + 1 + 1 + 1, 0, none⟩) (by simp <;> omega) _).far (p := ⟨h0 + 1 + 1 + 1, 1, none⟩) (by simp <;> omega) _).far (p := ⟨h0 + 1 + 1 + 1, 2, none⟩) (by simp <;> omega) _).far (p := ⟨h0 + 1 + 1 + 1, 3, none⟩) (by simp <;> omega) _
       ·exact (((R.out.2.1.far (p := ⟨h0 + 1 + 1 + 1, 0, none⟩) (by simp <;> omega) _).far (p := ⟨h0 + 1 + 1 + 1, 1, none⟩) (by simp <;> omega) _).far (p := ⟨h0 + 1 + 1 + 1, 2, none⟩) (by simp <;> omega) _).far (p := ⟨h0 + 1 + 1 + 1, 3, none⟩) (by simp <;> omega) _
       ·exact (((R.out.2.2.1.far (p := ⟨h0 + 1 + 1 + 1, 0, none⟩) (by simp) _).far (p := ⟨h0 + 1 + 1 + 1, 1, none⟩) (by simp) _).far (p := ⟨h0 + 1 + 1 + 1, 2, none⟩) (by simp) _).far (p := ⟨h0 + 1 + 1 + 1, 3, none⟩) (by simp) _
       ·rw [HP.out.2, if_pos trivial, HM.out]
        exact (((R.out.2.2.2.1.set_ 0 _).set_ 1 _).set_ 2 _).set_ 3 _
       ·refine (((R.out.2.2.2.2.setCell ?_ _).setCell ?_ _).setCell ?_ _).setCell ?_ _ <;> (simp; try omega)
     | false =>
      go_wp2_with fail
      go_roundg (256 - (i + 1))
      case measure => have := A.out.1; omega
      case rel =>
       refine ⟨i + 1, by omega, rfl, rfl, Q.out.1, Q.out.2.1, Q.out.2.2.1, ?_, Q.out.2.2.2.2.1⟩
       rw [HP.out.2]
       exact Q.out.2.2.2.1
  ·obtain rfl : i = 256 := by omega
   have R := Hd (An gR (An gS gb))
   obtain ⟨f0, f1, f2, f3, ff⟩ := gS.facts4
   obtain ⟨r0, r1, r2, r3, rf⟩ := gR.facts4
   obtain ⟨M, hM⟩ : ∃ M, orTo (bothP k a b) 256 = M := ⟨_, rfl⟩
   rw [hM] at f0 f1 f2 f3
   have HM := Hd hM
   clear hm gA gB gR gS gb hM
   go_wp2_with fail
   have hbk := (((R.out.1.set_ 0 (.int .u64 (wd M 0))).set_ 1 (.int .u64 (wd M 1))).set_ 2 (.int .u64 (wd M 2))).set_ 3 (.int .u64 (wd M 3))
   refine bodyPost_ret (results_cell_row (by rfl) _ _ (h0 + 1 + 1) 26 _ (0, 0) _ (by rfl) hbk Tryz.underlying26 (by rfl) (by kernel_rfl)) rfl ?_
   rw [HM.out, HW.out]
   refine ⟨rfl, (((R.out.2.2.setCell ?_ _).setCell ?_ _).setCell ?_ _).setCell ?_ _⟩ <;> (simp; try omega)
def bitsL (M n : Nat) : List Nat := (List.range n).filter fun i => M.testBit i
theorem bitsL_succ (M n : Nat) : bitsL M (n + 1) = if M.testBit n = true then bitsL M n ++ [n] else bitsL M n := by
 unfold bitsL
 rw [List.range_succ, List.filter_append]
 by_cases h : M.testBit n = true <;> simp [h]
theorem bitsL_mem {M n b : Nat} (h : b ∈ bitsL M n) : b < n /\ M.testBit b = true := by
 unfold bitsL at h
 simpa using h
theorem encB_len (c : Nat) : (encB c).length = 1 := rfl
theorem infoU8 : (Tryz.prog.info? 5).map (fun i => (i.zero, i.size, i.bytes)) = some (some (.int .u8 0), 1, 1) := by kernel_rfl
theorem bitsL_len (M n : Nat) : (bitsL M n).length <= n := by
 unfold bitsL
 exact Nat.le_trans (List.length_filter_le _ _) (by simp)
theorem cells_new2 (w : World) (t : TypeId) (cs : Array Value) : ∀ j u, cs.toList[j]? = some u -> (w.alloc (.cells cs t)).cell? ((⟨w.heap.size, 0, none⟩ : Addr).add j) = some u := by
 intro j u hj
 have hb : Blk (w.alloc (.cells cs t)) w.heap.size t cs := Blk.new w _ _
 rw [addr_add_, Nat.zero_add, hb.cell j]
 simpa using hj
theorem rbytes_any (M : Nat) (w : World) :
  Calls Tryz.prog 52 #[setV M] w fun e w' => ∃ v', e = .returned v' /\ w'.ownsRow w.heap.size 5 1 v' (bitsL M 256).length (flatK encB (bitsL M 256)) /\ Below w.heap.size w w' := by
 unfold setV
 go_enter Tryz.func52, Tryz.ntmps52
 go_wp2_with fail
 have hA : Blk (w.alloc (.cells #[.int .u64 (wd M 0), .int .u64 (wd M 1), .int .u64 (wd M 2), .int .u64 (wd M 3)] 26)) w.heap.size 26 (setC M) := Blk.new_ rfl _ _
 have hbl : Below w.heap.size w (w.alloc (.cells #[.int .u64 (wd M 0), .int .u64 (wd M 1), .int .u64 (wd M 2), .int .u64 (wd M 3)] 26)) := (Below.refl w.heap.size w).alloc (Nat.le_refl _) _
 generalize (w.alloc (.cells #[.int .u64 (wd M 0), .int .u64 (wd M 1), .int .u64 (wd M 2), .int .u64 (wd M 3)] 26)) = W1 at hA hbl ⊢
 have H1 := Hd (An hA hbl)
 clear hA hbl
 go_loopg [3, 4] 256 (fun m v3 v4 wr => ∃ i : Nat, i <= 256 /\ m = 256 - i /\ v4 = .int .i64 (i : Int) /\ wr.ownsRow (w.heap.size + 1) 5 1 v3 (bitsL M i).length (flatK encB (bitsL M i)) /\ Blk wr w.heap.size 26 (setC M) /\ Below w.heap.size w wr)
 case atStart => exact ⟨0, by omega, rfl, rfl, World.ownsRow_nil _ _ _ _, H1.out.1, H1.out.2⟩
 case round =>
  obtain ⟨i, hi, hm, rfl, hown, gA, gb⟩ := hrel
  obtain ⟨sa, sc, rfl⟩ := own_shape hown
  have hlen := bitsL_len M i
  by_cases hlt : i < 256
  ·have hi1 : (i : Int) < 256 := by omega
   have hi0 : (0 : Int) <= (i : Int) := by omega
   have hhas := rhas_any M i hlt
   obtain ⟨f0, f1, f2, f3, ff⟩ := gA.facts4
   have A := Hd (An hm (An hown (An gA gb)))
   clear hm hown gA gb
   go_wp2_with fail
   refine (hhas wr).mono ?_
   rintro e w2 ⟨rfl, hb2⟩
   have hsz : w.heap.size + 1 <= wr.heap.size := A.out.2.2.1.lt
   have A2 := Hd (An (row_below A.out.2.1 hb2) (An (A.out.2.2.1.below hb2 A.out.2.2.1.lt) (An (A.out.2.2.2.trans (hb2.mono A.out.2.2.2.size)) (Nat.le_trans hsz hb2.size))))
   clear hb2 hhas f0 f1 f2 f3 ff
   have hsu := bitsL_succ M i
   cases hbit : M.testBit i with
   | true =>
    rw [hbit, if_pos rfl] at hsu
    have HS := Hd hsu
    obtain ⟨L, hL⟩ : ∃ L, (bitsL M i).length = L := ⟨_, rfl⟩
    have hown2 := A2.out.1
    rw [hL] at hown2 hlen ⊢
    have HL := Hd (An hL hown2)
    have hcv : IntKind.u8.wrap (i : Int) = (i : Int) := IntWalk.u8_in _ (by omega)
    have hs2 := A2.out.2.2.2
    clear hsu hbit hL hown2
    obtain ⟨i0, hi, hz0, hz1, hz2⟩ := info_parts infoU8
    go_wp2_with (at_builtin; go_loud (refine wpList_append_ownF _ rfl _ _ 87 rfl (w.heap.size + 1) 5 i0 (.int .u8 0) 1 1 Tryz.underlying87 hi hz0 hz1 hz2 rfl (by decide) _ L _ rfl (HL.out.2.alloc _) ⟨w2.heap.size, 0, none⟩ 1 1 [.int .u8 (i : Int)] rfl rfl ?c1 ?c2 ?c3 ?c4 ?c5 ?_))
    case c1 => exact cells_new2 w2 _ _
    case c2 => intro u hu; simp at hu; subst hu; rfl
    case c3 => unfold maxLen; omega
    case c4 => omega
    case c5 => simp; omega
    intro v' w5 hown5 hg5 hfr5
    have hne : ∀ b, (Value.slice sa L sc).ownBlock = some b -> w.heap.size + 1 <= b := fun b hb => (HL.out.2.lt b hb).1
    have gA5 := (A2.out.2.1.alloc (.cells #[.int .u8 (i : Int)] 5)).grown hg5 (by intro e; have := hne _ e.symm; omega)
    have hb5 := (A2.out.2.2.1.alloc (by omega) (.cells #[.int .u8 (i : Int)] 5)).grown hg5 (by simp; omega) (fun b hb => by have := hne b hb; omega)
    have R5 := Hd (An hown5 (An gA5 hb5))
    clear hown5 hg5 hfr5 hne gA5 hb5
    go_wp2_with fail
    go_roundg (256 - (i + 1))
    case measure => have := A.out.1; omega
    case rel =>
     refine ⟨i + 1, by omega, rfl, rfl, ?_, R5.out.2.1, R5.out.2.2⟩
     rw [HS.out, <- flatK_snoc, List.length_append, HL.out.1]
     exact R5.out.1
   | false =>
    rw [hbit] at hsu
    have HS := Hd hsu
    clear hsu hbit
    go_wp2_with fail
    go_roundg (256 - (i + 1))
    case measure => have := A.out.1; omega
    case rel =>
     refine ⟨i + 1, by omega, rfl, rfl, ?_, A2.out.2.1, A2.out.2.2.1⟩
     rw [HS.out]
     exact A2.out.1
  ·obtain rfl : i = 256 := by omega
   have R := Hd (An hown gb)
   clear hm hown gA gb
   go_wp2_with fail
   go_ret
   exact ⟨_, rfl, own_low R.out.1 (by omega), R.out.2⟩
end Go.Proofs.YtknpkndiflodbaaGreatDoor.Tb
namespace Go.Proofs.YtknpkndiflodbaaGreatDoor.Mx
open Go.RowKit
section
variable {P : Program} {md : Region.Mode}
def reachB (md : Region.Mode) (l : List Oper) (n : Nat) : Nat -> Nat -> Nat -> Bool
 | 0, a, i => a == i
 | f + 1, a, i => a == i || (decide (a < n) && ((l[a]?).map fun o => o.after.any fun e => Region.binds md e && reachB md l n f e.on i).getD false)
theorem reach_done {l : List Oper} {n : Nat} {L : Array Bool} (hcl : ∀ (i : Nat) (o : Oper), i < n -> l[i]? = some o -> L.getD i false = true -> ∀ e ∈ o.after, Region.binds md e = true -> L.getD e.on false = true) :
  ∀ (f a i : Nat), reachB md l n f a i = true -> L.getD a false = true -> L.getD i false = true
 | 0, a, i, h, ha => by
  simp only [reachB, beq_iff_eq] at h
  rw [<- h]; exact ha
 | f + 1, a, i, h, ha => by
  simp only [reachB, Bool.or_eq_true, beq_iff_eq, Bool.and_eq_true, decide_eq_true_eq] at h
  rcases h with h | ⟨h1, h2⟩
  ·rw [<- h]; exact ha
  ·cases ho : l[a]? with
   | none => rw [ho] at h2; cases h2
   | some o =>
    rw [ho] at h2
    simp only [Option.map_some, Option.getD_some] at h2
    rw [Array.any_eq_true] at h2
    obtain ⟨k, hk, h3⟩ := h2
    simp only [Bool.and_eq_true] at h3
    exact reach_done hcl f _ i h3.2 (hcl a o h1 ho ha _ (Array.getElem_mem hk) h3.1)
def concTB (md : Region.Mode) (l : List Oper) (n : Nat) : Bool :=
 decide (n <= l.length) && (l.take n).all (fun o => o.guard.isNone && o.dst.isSome) && decide (concDsts l n).Nodup &&
 ((List.range n).all fun i => ((l[i]?).map fun o => o.after.all fun e => decide (e.on < i)).getD false) &&
 ((List.range l.length).all fun j => decide (j < n) || ((List.range n).all fun i => ((l[j]?).map fun o => o.after.any fun e => Region.binds md e && reachB md l n 12 e.on i).getD false))
structure ConcTOk (md : Region.Mode) (l : List Oper) (n : Nat) : Prop where
 le : n <= l.length
 guard : ∀ (i : Nat) (o : Oper), i < n -> l[i]? = some o -> o.guard = none
 dst : ∀ (i : Nat) (o : Oper), i < n -> l[i]? = some o -> ∃ s, o.dst = some s
 apart : ∀ (i j : Nat) (oi oj : Oper) (s : Nat), i < n -> j < n -> l[i]? = some oi -> l[j]? = some oj -> oi.dst = some s -> oj.dst = some s -> i = j
 back : ∀ (i : Nat) (o : Oper), i < n -> l[i]? = some o -> ∀ e ∈ o.after, e.on < i
 waits : ∀ (j : Nat) (o : Oper), n <= j -> l[j]? = some o -> ∀ i, i < n -> ∃ e ∈ o.after, Region.binds md e = true /\ reachB md l n 12 e.on i = true
theorem concTB_ok {l : List Oper} {n : Nat} (h : concTB md l n = true) : ConcTOk md l n := by
 unfold concTB at h
 simp only [Bool.and_eq_true, decide_eq_true_eq, List.all_eq_true, Bool.or_eq_true] at h
 obtain ⟨⟨⟨⟨h1, h2⟩, h3⟩, h4⟩, h5⟩ := h
 have tk : ∀ (i : Nat) (o : Oper), i < n -> l[i]? = some o -> (l.take n)[i]? = some o := fun i o hi ho => by rw [List.getElem?_take_of_lt hi]; exact ho
 refine ⟨h1, ?_, ?_, ?_, ?_, ?_⟩
 ·intro i o hi ho
  have := (h2 o (List.mem_of_getElem? (tk i o hi ho))).1
  simpa using this
 ·intro i o hi ho
  have := (h2 o (List.mem_of_getElem? (tk i o hi ho))).2
  exact Option.isSome_iff_exists.1 this
 ·intro i j oi oj s hi hj hoi hoj hsi hsj
  exact nodup_filterMap h3 (tk i oi hi hoi) (tk j oj hj hoj) hsi hsj
 ·intro i o hi ho e he
  have := h4 i (List.mem_range.2 hi)
  rw [ho] at this
  simp only [Option.map_some, Option.getD_some, Array.all_eq_true_iff_forall_mem, decide_eq_true_eq] at this
  exact this e he
 ·intro j o hj ho i hi
  have hjl := (List.getElem?_eq_some_iff.1 ho).1
  have := (h5 j (List.mem_range.2 hjl)).resolve_left (by omega) i (List.mem_range.2 hi)
  rw [ho] at this
  simp only [Option.map_some, Option.getD_some] at this
  rw [Array.any_eq_true] at this
  obtain ⟨k, hk, h⟩ := this
  simp only [Bool.and_eq_true] at h
  exact ⟨_, Array.getElem_mem hk, h.1, h.2⟩
theorem wpAny_concT {l : List Oper} {n : Nat} {R : Nat -> Value -> World -> Prop} {G : World -> World -> Prop} {J : Array Bool -> World -> Prop} {Q : Exit -> Act -> World -> Prop} {a0 : Act} {w0 : World}
  (hB : concTB md l n = true) (hsz : ∀ s ∈ concDsts l n, s < a0.tmps.size) (htrans : ∀ {w1 w2 : World}, G w0 w1 -> G w1 w2 -> G w0 w2)
  (hop : ConcObs P md l n R G J Q a0 w0 (l.take n) 0)
  (hend : ∀ (f : Nat -> Value) (w : World), G w0 w -> J ((Array.replicate n true) ++ (Array.replicate (l.length - n) false)) w -> (∀ i s, i < n -> (l[i]?).bind (·.dst) = some s -> R i (f s) w) ->
   wpAny P md l.toArray Q (l.length - n) ((Array.replicate n true) ++ (Array.replicate (l.length - n) false)) { tmps := (concDsts l n).foldl (fun x s => x.setIfInBounds s (f s)) a0.tmps, defers := a0.defers } w) :
  ∀ (m : Nat) (L : Array Bool) (a : Act) (w : World), ConcInv md l n R G J a0 w0 L a w -> (∀ (i : Nat) (o : Oper), i < n -> l[i]? = some o -> L.getD i false = true -> ∀ e ∈ o.after, Region.binds md e = true -> L.getD e.on false = true) -> (List.range n).countP (fun i => !L.getD i true) = m -> wpAny P md l.toArray Q (m + (l.length - n)) L a w := by
 have ok := concTB_ok hB
 have hle := ok.le
 intro m
 induction m with
 | zero =>
  intro L a w inv hcl hc
  have hall : ∀ i, i < n -> L.getD i false = true := fun i hi => by
   rw [List.countP_eq_zero] at hc
   have := hc i (List.mem_range.2 hi)
   rw [getD_flip (by rw [inv.size]; omega)] at this
   simpa using this
  have hL : L = (Array.replicate n true) ++ (Array.replicate (l.length - n) false) := by
   apply Array.ext (by simp [inv.size]; omega)
   intro i h1 h2
   by_cases hi : i < n
   ·have := hall i hi
    simp [h1] at this
    rw [this, Array.getElem_append_left (by simpa using hi)]; simp
   ·have := inv.tail i (by omega)
    simp [h1] at this
    rw [this, Array.getElem_append_right (by simp; omega)]; simp
  rw [Nat.zero_add]
  have h1 := hend (fun s => a.tmps.getD s undef) w inv.grow (hL ▸ inv.inv) (fun i s hi hs => inv.vals i (hall i hi) s hs)
  rw [hL]
  have ha : a = { tmps := (concDsts l n).foldl (fun x s => x.setIfInBounds s (a.tmps.getD s undef)) a0.tmps, defers := a0.defers } := by
   obtain ⟨t, d⟩ := a
   have e1 : d = a0.defers := inv.defers
   subst e1
   congr 1
   exact conc_rebuild _ _ _ inv.tmps inv.frame
  rw [ha]
  exact h1
 | succ m ih =>
  intro L a w inv hcl hc
  obtain ⟨k, hk, hkL⟩ : ∃ k, k < n /\ L.getD k true = false := by
   have : 0 < (List.range n).countP (fun i => !L.getD i true) := by omega
   rw [List.countP_pos_iff] at this
   obtain ⟨k, h1, h2⟩ := this
   exact ⟨k, List.mem_range.1 h1, by simpa using h2⟩
  rw [show m + 1 + (l.length - n) = (m + (l.length - n)) + 1 by omega, wpAny]
  constructor
  ·intro hr
   exfalso
   obtain ⟨i, hin, hiL, hmin⟩ : ∃ i, i < n /\ L.getD i true = false /\ ∀ j, j < i -> L.getD j true = true := by
    have h : ∃ i, i < n /\ L.getD i true = false := ⟨k, hk, hkL⟩
    have : ∀ b i, i <= b -> i < n -> L.getD i true = false -> ∃ i, i < n /\ L.getD i true = false /\ ∀ j, j < i -> L.getD j true = true := by
     intro b
     induction b with
     | zero => intro i hi h1 h2; exact ⟨i, h1, h2, fun j hj => by omega⟩
     | succ b ihb =>
      intro i hi h1 h2
      by_cases hx : ∃ j, j < i /\ L.getD j true = false
      ·obtain ⟨j, hj, h3⟩ := hx
       exact ihb j (by omega) (by omega) h3
      ·refine ⟨i, h1, h2, fun j hj => ?_⟩
       cases h4 : L.getD j true with
       | true => rfl
       | false => exact absurd ⟨j, hj, h4⟩ hx
    exact this k k (Nat.le_refl _) hk hkL
   have hil : i < l.length := by omega
   have ho : l[i]? = some l[i] := List.getElem?_eq_getElem hil
   have hmem : i ∈ Region.ready md l.toArray L := by
    rw [mem_ready]
    refine ⟨hiL, l[i], by simp, fun e he _ => ?_⟩
    have hb := ok.back i _ hin ho e he
    rw [<- getD_flip (by rw [inv.size]; omega)]
    exact hmin e.on hb
   rw [hr] at hmem
   cases hmem
  ·intro i hi
   obtain ⟨hiL, o, ho, hdep⟩ := mem_ready.1 hi
   have ho' : l[i]? = some o := by simpa using ho
   have hin : i < n := by
    rcases Nat.lt_or_ge i n with h | h
    ·exact h
    ·exfalso
     obtain ⟨e, he, hb, hon⟩ := ok.waits i o h ho' k hk
     have h1 := hdep e he hb
     have h2 : L.getD k false = true := reach_done hcl 12 _ k hon h1
     rw [<- getD_flip (by rw [inv.size]; omega)] at h2
     rw [hkL] at h2
     cases h2
   have hob := concObs_at _ 0 hop i o (by rw [List.getElem?_take_of_lt hin]; exact ho')
   rw [Nat.zero_add] at hob
   obtain ⟨d, hd⟩ := ok.dst i o hin ho'
   have hdm : d ∈ concDsts l n := List.mem_filterMap.2 ⟨o, List.mem_of_getElem? (show (l.take n)[i]? = some o by rw [List.getElem?_take_of_lt hin]; exact ho'), hd⟩
   unfold wpOp
   rw [ho]
   have hg := ok.guard i o hin ho'
   have hw : Region.wanted o (yielded l.toArray a.tmps) = true := by unfold Region.wanted; rw [hg]
   simp only [hw, if_true]
   have ea : a = { tmps := a.tmps, defers := a0.defers } := by
    have := inv.defers
    obtain ⟨t, d⟩ := a
    have e1 : d = a0.defers := this
    subst e1
    rfl
   have key := hob L a.tmps w inv.grow inv.inv inv.size hiL hdep inv.frame (fun e he hb s hs => inv.vals e.on (hdep e he hb) s hs) (wpAny P md l.toArray Q (m + (l.length - n)) (L.setIfInBounds i true))
   rw [<- ea] at key
   refine .inl (key ?_)
   intro v w' hG hst hJ hR
   refine ih _ _ _ ⟨by simp [inv.size], ?_, htrans inv.grow hG, hJ, by rw [hd]; exact inv.defers, ?_, ?_, ?_⟩ ?_ ?_
   ·intro j hj
    rw [getD_set_ne false (by omega)]; exact inv.tail j hj
   ·rw [hd]; simp [Act.put, inv.tmps]
   ·intro s hs
    have hne : d ≠ s := by rintro rfl; exact hs hdm
    rw [hd]
    show (a.tmps.setIfInBounds d v).getD s undef = _
    rw [<- inv.frame s hs]
    simp [Array.getElem?_setIfInBounds_ne hne]
   ·intro j hj s hs
    rw [hd]
    show R j ((a.tmps.setIfInBounds d v).getD s undef) w'
    by_cases hji : j = i
    ·subst hji
     rw [ho'] at hs
     simp at hs
     rw [hd] at hs
     injection hs with hs
     subst hs
     have hlt : d < a.tmps.size := by rw [inv.tmps]; exact hsz d hdm
     rw [show (a.tmps.setIfInBounds d v).getD d undef = v by simp [hlt]]
     exact hR
    ·have hj' : L.getD j false = true := by rwa [getD_set_ne false (Ne.symm hji)] at hj
     have hjn : j < n := by
      rcases Nat.lt_or_ge j n with h | h
      ·exact h
      ·rw [inv.tail j h] at hj'; cases hj'
     obtain ⟨oj, hoj⟩ : ∃ oj, l[j]? = some oj := ⟨_, List.getElem?_eq_getElem (show j < l.length by omega)⟩
     have hsj : oj.dst = some s := by rw [hoj] at hs; simpa using hs
     have hne : d ≠ s := by
      rintro rfl
      exact hji (ok.apart j i oj o d hjn hin hoj ho' hsj hd)
     have hv := inv.vals j hj' s hs
     have e : (a.tmps.setIfInBounds d v).getD s undef = a.tmps.getD s undef := by simp [Array.getElem?_setIfInBounds_ne hne]
     rw [e]
     exact hst j _ hjn hji hj' hv
   ·have hup : ∀ x, L.getD x false = true -> (L.setIfInBounds i true).getD x false = true := fun x hx => by
     by_cases hxi : x = i
     ·subst hxi; exact getD_set_self (by rw [inv.size]; omega)
     ·rw [getD_set_ne false (Ne.symm hxi)]; exact hx
    intro j oj hj hoj hjL e he hb
    by_cases hji : j = i
    ·subst hji
     rw [ho'] at hoj
     injection hoj with hoj
     subst hoj
     exact hup _ (hdep e he hb)
    ·rw [getD_set_ne false (Ne.symm hji)] at hjL
     exact hup _ (hcl j oj hj hoj hjL e he hb)
   ·have hcnt : ∀ (r : List Nat), r.Nodup -> i ∈ r -> r.countP (fun x => !(L.setIfInBounds i true).getD x true) + 1 = r.countP (fun x => !L.getD x true) := by
     intro r
     induction r with
     | nil => intro _ h; cases h
     | cons x r ihr =>
      intro hn hm
      rw [List.nodup_cons] at hn
      rw [List.countP_cons, List.countP_cons]
      by_cases hx : x = i
      ·subst hx
       have h0 : ∀ y ∈ r, (L.setIfInBounds x true).getD y true = L.getD y true := fun y hy => getD_set_ne true (by rintro rfl; exact hn.1 hy)
       have h1 : r.countP (fun y => !(L.setIfInBounds x true).getD y true) = r.countP (fun y => !L.getD y true) := by
        apply List.countP_congr
        intro y hy
        rw [h0 y hy]
       rw [h1, hiL]
       have h2 : (L.setIfInBounds x true).getD x true = true := by rw [getD_flip (by simp [inv.size]; omega)]; exact getD_set_self (by rw [inv.size]; omega)
       rw [h2]
       simp
      ·have h2 := ihr hn.2 (by rcases List.mem_cons.1 hm with h | h; exact absurd h.symm hx; exact h)
       rw [getD_set_ne true (Ne.symm hx)]
       omega
    have := hcnt (List.range n) List.nodup_range (List.mem_range.2 hin)
    omega
theorem wp_region_concT {id : Nat} {l : List Oper} (n : Nat) {Q : Exit -> Act -> World -> Prop} {a0 : Act} {w : World} (R : Nat -> Value -> World -> Prop) (G : World -> World -> Prop) (J : Array Bool -> World -> Prop)
  (hm : P.follows .mixedOrders = true) (hB : concTB .any l n = true) (hS : Region.seqB .any l.toArray (l.length - n) n ((Array.replicate n true) ++ (Array.replicate (l.length - n) false)) = true)
  (hsz : ((concDsts l n).all fun s => decide (s < a0.tmps.size)) = true) (h0 : G w.drew w.drew) (hJ : J (Array.replicate l.length false) w.drew)
  (htrans : ∀ {w1 w2 : World}, G w.drew w1 -> G w1 w2 -> G w.drew w2)
  (hop : ConcObs P .any l n R G J Q a0 w.drew (l.take n) 0)
  (hend : ∀ (f : Nat -> Value) (w1 : World), G w.drew w1 -> J ((Array.replicate n true) ++ (Array.replicate (l.length - n) false)) w1 -> (∀ i s, i < n -> (l[i]?).bind (·.dst) = some s -> R i (f s) w1) ->
   wpList P l.toArray Q (l.drop n) { tmps := (concDsts l n).foldl (fun x s => x.setIfInBounds s (f s)) a0.tmps, defers := a0.defers } w1) :
  (Code.region id l.toArray true).wp P Q a0 w := by
 refine wp_region_any hm ?_
 have hle := (concTB_ok hB).le
 have hrep : ∀ j, (Array.replicate l.length false).getD j false = false := fun j => by
  by_cases h : j < l.length <;> simp [h]
 have hd : (l.drop n).length = l.length - n := by simp
 have key := wpAny_concT (P := P) (md := .any) (Q := Q) (a0 := a0) (w0 := w.drew) hB (by simpa using hsz) htrans hop (fun f w1 h1 h2 h3 => by
  have := wpAny_of_seq (P := P) (md := .any) (Q' := Q) (l.drop n) n _ _ w1 (fun j => by simp [List.getElem?_drop]) (by rw [hd]; exact hS) (hend f w1 h1 h2 h3)
  rwa [hd] at this) n (Array.replicate l.length false) a0 w.drew
  ⟨by simp, fun j _ => hrep j, h0, hJ, rfl, rfl, fun _ _ => rfl, fun i hi => by rw [hrep] at hi; cases hi⟩ (fun i o hi ho h => by rw [hrep] at h; cases h) (by
   rw [List.countP_eq_length.2 (fun i hi => by
    have h := List.mem_range.1 hi
    rw [getD_flip (by simp; omega), hrep]; rfl)]
   simp)
 have e : n + (l.length - n) = l.toArray.size := by simp; omega
 rw [e] at key
 have e2 : l.toArray.size = l.length := by simp
 rw [<- e2] at key
 exact key
end
end Go.Proofs.YtknpkndiflodbaaGreatDoor.Mx
