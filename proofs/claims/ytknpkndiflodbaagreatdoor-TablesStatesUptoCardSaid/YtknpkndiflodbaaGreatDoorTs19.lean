/- Walks and plain laws that the last text stands on: TbPureB. -/
import Derived.Test.YtknpkndiflodbaaGreatDoorTs16
set_option linter.unusedVariables false
set_option linter.unusedSimpArgs false
set_option maxRecDepth 100000
set_option maxHeartbeats 16000000
namespace Go.Proofs.YtknpkndiflodbaaGreatDoor.Tb
theorem addF_keep {next : List Nat} {x y : Nat} (h : y ∈ next) : y ∈ addF next x := by
 unfold addF
 split
 ·exact h
 ·exact List.mem_append_left _ h
theorem addF_new {next : List Nat} {x : Nat} (h : x ≠ 0) : x ∈ addF next x := by
 unfold addF
 split
 ·rename_i hc
  rcases hc with hc | hc
  ·exact absurd hc h
  ·exact hc
 ·simp
theorem cut_fold_mem (s : Nat) : ∀ (l next : List Nat) (y : Nat), y ∈ l.foldl (fun next p => cutF next p s) next -> y ∈ next ∨ ∃ p ∈ l, y = p &&& s ∨ y = p &&& (2 ^ 256 - 1 - s)
 | [], _, _, h => .inl h
 | p :: l, next, y, h => by
  rw [List.foldl_cons] at h
  rcases cut_fold_mem s l _ y h with h | ⟨q, hq, h⟩
  ·rw [cutF_eq] at h
   rcases addF_mem h with h | h
   ·rcases addF_mem h with h | h
    ·exact .inl h
    ·exact .inr ⟨p, by simp, .inl h⟩
   ·exact .inr ⟨p, by simp, .inr h⟩
  ·exact .inr ⟨q, by simp [hq], h⟩
theorem cut_fold_keep (s : Nat) : ∀ (l next : List Nat) (y : Nat), y ∈ next -> y ∈ l.foldl (fun next p => cutF next p s) next
 | [], _, _, h => h
 | p :: l, next, y, h => by
  rw [List.foldl_cons]
  exact cut_fold_keep s l _ y (by rw [cutF_eq]; exact addF_keep (addF_keep h))
theorem cut_fold_new (s : Nat) : ∀ (l next : List Nat) (p : Nat), p ∈ l -> (p &&& s ≠ 0 -> p &&& s ∈ l.foldl (fun next p => cutF next p s) next) /\ (p &&& (2 ^ 256 - 1 - s) ≠ 0 -> p &&& (2 ^ 256 - 1 - s) ∈ l.foldl (fun next p => cutF next p s) next)
 | [], _, _, h => by cases h
 | q :: l, next, p, h => by
  rw [List.foldl_cons]
  rcases List.mem_cons.1 h with rfl | h
  ·exact ⟨fun h => cut_fold_keep s l _ _ (by rw [cutF_eq]; exact addF_keep (addF_new h)), fun h => cut_fold_keep s l _ _ (by rw [cutF_eq]; exact addF_new h)⟩
  ·exact cut_fold_new s l _ p h
def Sub (a b : Nat) : Prop := ∀ i, a.testBit i = true -> b.testBit i = true
theorem within_sub (a b : Nat) : withinF a b = true ↔ Sub a b := by
 unfold withinF Sub
 constructor
 ·intro h i hi
  have h := of_decide_eq_true h
  rw [<- h, Nat.testBit_and] at hi
  simp at hi
  exact hi.2
 ·intro h
  refine decide_eq_true (Nat.eq_of_testBit_eq fun i => ?_)
  rw [Nat.testBit_and]
  cases ha : a.testBit i with
  | false => rfl
  | true => rw [h i ha]; rfl
def Pure (a b : Nat) : Prop := Sub a b ∨ a &&& b = 0
theorem Pure.sub {a c b : Nat} (h : Pure a b) (hc : Sub c a) : Pure c b := by
 rcases h with h | h
 ·exact .inl fun i hi => h i (hc i hi)
 ·refine .inr ((apart_iff _ _).2 fun i hi => ?_)
  exact (apart_iff _ _).1 h i ⟨hc i hi.1, hi.2⟩
theorem splitStep_sub {parts : List Nat} {s y : Nat} (hs : s < 2 ^ 256) (hp : ∀ p ∈ parts, p < 2 ^ 256) (h : y ∈ splitStep parts s) : Pure y s /\ ∃ p ∈ parts, Sub y p := by
 rw [splitStep_eq] at h
 rcases cut_fold_mem s parts [] y h with h | ⟨p, hpm, h | h⟩
 ·cases h
 ·subst h
  exact ⟨.inl fun i hi => by rw [Nat.testBit_and] at hi; simp at hi; exact hi.2, p, hpm, fun i hi => by rw [Nat.testBit_and] at hi; simp at hi; exact hi.1⟩
 ·subst h
  refine ⟨.inr ((apart_iff _ _).2 fun i hi => ?_), p, hpm, fun i hi => ?_⟩
  ·rw [without_bit p s i hs (hp p hpm)] at hi
   simp at hi
   rw [hi.1.2] at hi
   simp at hi
  ·rw [without_bit p s i hs (hp p hpm)] at hi
   simp at hi
   exact hi.1
theorem splitStep_cover {parts : List Nat} {s i : Nat} (hs : s < 2 ^ 256) (hp : ∀ p ∈ parts, p < 2 ^ 256) (h : ∃ p ∈ parts, p.testBit i = true) : ∃ p ∈ splitStep parts s, p.testBit i = true := by
 obtain ⟨p, hpm, hb⟩ := h
 obtain ⟨h1, h2⟩ := cut_fold_new s parts [] p hpm
 have nz : ∀ x : Nat, x.testBit i = true -> x ≠ 0 := fun x hx e => by rw [e, Nat.zero_testBit] at hx; cases hx
 cases hsb : s.testBit i with
 | true =>
  have hx : (p &&& s).testBit i = true := by rw [Nat.testBit_and, hb, hsb]; rfl
  exact ⟨_, by rw [splitStep_eq]; exact h1 (nz _ hx), hx⟩
 | false =>
  have hx : (p &&& (2 ^ 256 - 1 - s)).testBit i = true := by rw [without_bit p s i hs (hp p hpm), hb, hsb]; rfl
  exact ⟨_, by rw [splitStep_eq]; exact h2 (nz _ hx), hx⟩
theorem split_all : ∀ (l parts done : List Nat), (∀ s ∈ l, s < 2 ^ 256) -> Parts parts -> (∀ p ∈ parts, ∀ s ∈ done, Pure p s) -> (∀ i, i < 256 -> ∃ p ∈ parts, p.testBit i = true) ->
  (∀ p ∈ l.foldl splitStep parts, ∀ s, s ∈ done ∨ s ∈ l -> Pure p s) /\ ∀ i, i < 256 -> ∃ p ∈ l.foldl splitStep parts, p.testBit i = true
 | [], parts, done, _, _, h1, h2 => ⟨fun p hp s hs => (hs.elim (fun hs => h1 p hp s hs) (fun hs => by cases hs)), h2⟩
 | t :: l, parts, done, hl, hp, h1, h2 => by
  have ht := hl t (by simp)
  have hlt : ∀ p ∈ parts, p < 2 ^ 256 := fun p h => (hp.1 p h).2
  obtain ⟨a, b⟩ := split_all l (splitStep parts t) (t :: done) (fun s hs => hl s (by simp [hs])) (splitStep_parts ht hp)
   (fun p hpm s hs => by
    obtain ⟨q1, q, q2, q3⟩ := splitStep_sub ht hlt hpm
    rcases List.mem_cons.1 hs with rfl | hs
    ·exact q1
    ·exact (h1 q q2 s hs).sub q3)
   (fun i hi => splitStep_cover ht hlt (h2 i hi))
  refine ⟨fun p hpm s hs => a p hpm s ?_, b⟩
  rcases hs with hs | hs
  ·exact .inl (by simp [hs])
  ·rcases List.mem_cons.1 hs with rfl | hs
   ·exact .inl (by simp)
   ·exact .inr hs
theorem closeGo_keep (g : Gr) : ∀ (f i : Nat) (seen : List Int) (out : List It) (x : It), x ∈ out -> x ∈ closeGo g f i seen out
 | 0, _, _, _, _, h => h
 | f + 1, i, seen, out, x, h => by
  cases ho : out[i]? with
  | none => rw [closeGo, ho]; exact h
  | some y =>
   rw [closeGo_step _ _ _ _ _ _ ho]
   refine closeGo_keep g f _ _ _ x ?_
   unfold closeOut
   split
   ·split
    ·exact List.mem_append_left _ h
    ·exact h
   ·exact h
theorem compactIt_mem' : ∀ (l : List It) (x : It), x ∈ l -> x ∈ compactIt l
 | [], x, h => h
 | [y], x, h => h
 | y :: z :: t, x, h => by
  rw [compactIt_cons]
  split
  ·rename_i e
   rcases List.mem_cons.1 h with rfl | h
   ·exact compactIt_mem' (z :: t) x (by rw [e]; simp)
   ·exact compactIt_mem' (z :: t) x h
  ·rcases List.mem_cons.1 h with rfl | h
   ·simp
   ·exact List.mem_cons_of_mem _ (compactIt_mem' (z :: t) x h)
theorem closedF_keep (g : Gr) (l : List It) (x : It) (h : x ∈ l) : x ∈ closedF g l := by
 unfold closedF
 exact compactIt_mem' _ _ ((sortIt_perm _).mem_iff.2 (closeGo_keep g _ _ _ _ x h))
theorem setsOf_mem {g : Gr} {l : List It} {x : It} {y : Sy} (hx : x ∈ l) (hy : aheadF g x = some y) (hk : y.kind = 0) : y.set ∈ setsOf g l := by
 unfold setsOf
 exact List.mem_filterMap.2 ⟨x, hx, by rw [hy]; simp [hk]⟩
theorem setsOf_from {g : Gr} {l : List It} {c : Nat} (h : c ∈ setsOf g l) : ∃ x ∈ l, ∃ y, aheadF g x = some y /\ y.kind = 0 /\ y.set = c := by
 unfold setsOf at h
 obtain ⟨x, hx, e⟩ := List.mem_filterMap.1 h
 cases hy : aheadF g x with
 | none => rw [hy] at e; cases e
 | some y =>
  rw [hy] at e
  simp at e
  exact ⟨x, hx, y, hy, e⟩
theorem movedSet_mem {g : Gr} {l : List It} {c : Nat} {x : It} {y : Sy} (hx : x ∈ l) (hy : aheadF g x = some y) (hk : y.kind = 0) (hw : withinF c y.set = true) : (x.1, x.2 + 1) ∈ movedSet g l c := by
 unfold movedSet
 exact List.mem_map.2 ⟨x, List.mem_filter.2 ⟨hx, by rw [hy]; simp [hk, hw]⟩, rfl⟩
theorem insInt_mem (x : Int) (l : List Int) (y : Int) : y ∈ l.foldr insInt [] ↔ y ∈ l := (sortInt_perm l).mem_iff
theorem sortStep_keep (g : Gr) : ∀ (l : List It) (o : List Int) (x : Int), x ∈ o -> x ∈ l.foldl (sortStep g) o
 | [], o, x, h => h
 | y :: t, o, x, h => by
  rw [List.foldl_cons]
  refine sortStep_keep g t _ x ?_
  unfold sortStep
  split
  ·split
   ·exact List.mem_append_left _ h
   ·exact h
  ·exact h
theorem sortStep_new (g : Gr) : ∀ (l : List It) (o : List Int) (x : It) (y : Sy), x ∈ l -> aheadF g x = some y -> y.kind = 1 -> y.sort ∈ l.foldl (sortStep g) o
 | [], o, x, y, h, _, _ => by cases h
 | z :: t, o, x, y, h, hy, hk => by
  rw [List.foldl_cons]
  rcases List.mem_cons.1 h with rfl | h
  ·refine sortStep_keep g t _ _ ?_
   unfold sortStep
   rw [hy]
   by_cases hm : y.sort ∈ o
   ·simp [hk, hm]
   ·simp [hk, hm]
  ·exact sortStep_new g t _ x y h hy hk
def SetsOk (g : Gr) : Prop := ∀ x y, aheadF g x = some y -> y.kind = 0 -> y.set < 2 ^ 256
theorem setsOf_ok {g : Gr} (hg : SetsOk g) (l : List It) : ∀ s ∈ setsOf g l, s < 2 ^ 256 := fun s hs => by
 obtain ⟨x, _, y, h1, h2, rfl⟩ := setsOf_from hs
 exact hg x y h1 h2
theorem next_fold (b : Nat) : ∀ (l : List (Sy × Nat)) (a : Nat), (l.foldl (fun a x => if x.1.kind = 0 then a ||| x.1.set else a) a).testBit b = (a.testBit b || l.any fun x => x.1.kind == 0 && x.1.set.testBit b)
 | [], a => by simp
 | x :: l, a => by
  rw [List.foldl_cons, next_fold b l, List.any_cons]
  by_cases h : x.1.kind = 0
  ·simp [h, Bool.or_assoc]
  ·have h2 : (x.1.kind == 0) = false := by simpa using h
   rw [if_neg h, h2]; simp
theorem nextF_bit (l : List (Sy × Nat)) (b : Nat) : (nextF l).testBit b = l.any fun x => x.1.kind == 0 && x.1.set.testBit b := by
 unfold nextF
 rw [next_fold]
 simp
end Go.Proofs.YtknpkndiflodbaaGreatDoor.Tb
namespace Go.Proofs.YtknpkndiflodbaaGreatDoor.Tb
def ClosedS (g : Gr) (S : It -> Prop) : Prop := ∀ x, S x -> ∀ s, aheadF g x = some s -> s.kind = 1 -> ∀ n ∈ ofS g s.sort, S (n, 0)
theorem closeGo_in (g : Gr) (S : It -> Prop) (hS : ClosedS g S) : ∀ (f i : Nat) (seen : List Int) (out : List It), (∀ x ∈ out, S x) -> ∀ x ∈ closeGo g f i seen out, S x
 | 0, _, _, _, h => h
 | f + 1, i, seen, out, h => by
  cases ho : out[i]? with
  | none => rw [closeGo, ho]; exact h
  | some y =>
   rw [closeGo_step _ _ _ _ _ _ ho]
   refine closeGo_in g S hS f _ _ _ ?_
   unfold closeOut
   cases ha : aheadF g y with
   | none => exact h
   | some s =>
    dsimp only
    split
    ·rename_i hc
     intro x hx
     rcases List.mem_append.1 hx with hx | hx
     ·exact h x hx
     ·obtain ⟨n, hn, rfl⟩ := List.mem_map.1 hx
      exact hS y (h y (List.mem_of_getElem? ho)) s ha hc.1 n hn
    ·exact h
structure CloseI (g : Gr) (i : Nat) (seen : List Int) (out : List It) : Prop where
 seen_ : ∀ s ∈ seen, ∀ n ∈ ofS g s, (n, 0) ∈ out
 past : ∀ (j : Nat) (x : It), j < i -> out[j]? = some x -> ∀ s, aheadF g x = some s -> s.kind = 1 -> s.sort ∈ seen
theorem CloseI.step {g : Gr} {i : Nat} {seen : List Int} {out : List It} (h : CloseI g i seen out) {x : It} (hx : out[i]? = some x) : CloseI g (i + 1) (closeSeen g seen x) (closeOut g seen out x) := by
 have hi := (List.getElem?_eq_some_iff.1 hx).1
 have hk : ∀ (j : Nat) (y : It), j < i + 1 -> (closeOut g seen out x)[j]? = some y -> out[j]? = some y := fun j y hj hy => by
  unfold closeOut at hy
  split at hy
  ·split at hy
   ·rw [List.getElem?_append_left (by omega)] at hy; exact hy
   ·exact hy
  ·exact hy
 constructor
 ·intro s hs n hn
  unfold closeSeen at hs
  unfold closeOut
  cases ha : aheadF g x with
  | none => rw [ha] at hs; exact h.seen_ s hs n hn
  | some y =>
   rw [ha] at hs
   dsimp only at hs ⊢
   by_cases hc : y.kind = 1 /\ y.sort ∉ seen
   ·rw [if_pos hc] at hs ⊢
    rcases List.mem_cons.1 hs with rfl | hs
    ·exact List.mem_append_right _ (List.mem_map.2 ⟨n, hn, rfl⟩)
    ·exact List.mem_append_left _ (h.seen_ s hs n hn)
   ·rw [if_neg hc] at hs ⊢
    exact h.seen_ s hs n hn
 ·intro j y hj hy s hs hks
  have hy2 := hk j y hj hy
  unfold closeSeen
  rcases Nat.lt_or_ge j i with hji | hji
  ·have := h.past j y hji hy2 s hs hks
   split
   ·split
    ·exact List.mem_cons_of_mem _ this
    ·exact this
   ·exact this
  ·obtain rfl : j = i := by omega
   rw [hx] at hy2
   injection hy2 with hy2
   subst hy2
   rw [hs]
   dsimp only
   split
   ·exact List.mem_cons_self ..
   ·rename_i hc
    by_cases hm : s.sort ∈ seen
    ·exact hm
    ·exact absurd ⟨hks, hm⟩ hc
theorem closeI_last {g : Gr} {l : List It} : ∀ (m i : Nat) (seen : List Int) (out : List It), CloseAt g l i seen out -> CloseI g i seen out -> l.length + g.prods.length - i <= m -> ∃ seen' out', CloseAt g l out'.length seen' out' /\ CloseI g out'.length seen' out'
 | m, i, seen, out, h, hI, hm => by
  have hf := h.fits
  have hle := h.le
  rcases Nat.lt_or_ge i out.length with hi | hi
  ·have hx : out[i]? = some out[i] := List.getElem?_eq_getElem hi
   match m, hm with
   | 0, hm => omega
   | m + 1, hm => exact closeI_last m (i + 1) _ _ (h.step hx) (hI.step hx) (by omega)
  ·obtain rfl : i = out.length := by omega
   exact ⟨seen, out, h, hI⟩
theorem closedF_iff {g : Gr} {l : List It} (hl : ∀ x ∈ l, itemOk g x = true) (x : It) : x ∈ closedF g l ↔ ∀ S : It -> Prop, (∀ y ∈ l, S y) -> ClosedS g S -> S x := by
 constructor
 ·intro h S h1 h2
  unfold closedF at h
  exact closeGo_in g S h2 _ _ _ _ h1 x ((sortIt_perm _).mem_iff.1 (compactIt_mem _ _ h))
 ·intro h
  refine h (fun y => y ∈ closedF g l) (fun y hy => closedF_keep g l y hy) ?_
  obtain ⟨seen, out, hC, hI⟩ := closeI_last _ _ _ _ (CloseAt.start hl) (⟨fun s hs => absurd hs (by simp), fun j x hj => absurd hj (by omega)⟩) (Nat.le_refl _)
  have hm : ∀ y, y ∈ closedF g l ↔ y ∈ out := fun y => by
   rw [hC.done rfl]
   exact ⟨fun h => (sortIt_perm out).mem_iff.1 (compactIt_mem _ _ h), fun h => compactIt_mem' _ _ ((sortIt_perm out).mem_iff.2 h)⟩
  intro y hy s hs hk n hn
  obtain ⟨j, hj⟩ := List.getElem?_of_mem ((hm y).1 hy)
  have h1 := hI.past j y (List.getElem?_eq_some_iff.1 hj).1 hj s hs hk
  exact (hm _).2 (hI.seen_ _ h1 n hn)
def itLt (a b : It) : Prop := a.1 < b.1 ∨ a.1 = b.1 /\ a.2 < b.2
theorem compactIt_lt : ∀ l : List It, l.Pairwise (fun a b => itLe a b = true) -> (compactIt l).Pairwise itLt
 | [], _ => List.Pairwise.nil
 | [x], _ => by simp [compactIt]
 | x :: y :: t, h => by
  rw [compactIt_cons]
  obtain ⟨h1, h2⟩ := List.pairwise_cons.1 h
  have ih := compactIt_lt (y :: t) h2
  by_cases e : x = y
  ·rw [if_pos e]; exact ih
  ·rw [if_neg e]
   refine List.pairwise_cons.2 ⟨fun b hb => ?_, ih⟩
   have hb2 := compactIt_mem _ _ hb
   have h3 := (itLe_iff x b).1 (h1 b hb2)
   unfold itLt
   rcases h3 with h3 | ⟨h3, h4⟩
   ·exact .inl h3
   ·rcases Nat.lt_or_ge x.2 b.2 with h5 | h5
    ·exact .inr ⟨h3, h5⟩
    ·exfalso
     have hxb : x = b := Prod.ext h3 (by omega)
     subst hxb
     rcases List.mem_cons.1 hb2 with h6 | h6
     ·exact e h6
     ·have h7 := (List.pairwise_cons.1 h2).1 x h6
      exact e (itLe_anti (h1 y (by simp)) h7)
theorem closedF_lt (g : Gr) (l : List It) : (closedF g l).Pairwise itLt := compactIt_lt _ (sortIt_sorted _)
theorem lt_unique {a b : List It} (ha : a.Pairwise itLt) (hb : b.Pairwise itLt) (h : ∀ x, x ∈ a ↔ x ∈ b) : a = b := by
 have nd : ∀ l : List It, l.Pairwise itLt -> l.Nodup := fun l hl => hl.imp fun {x y} hxy e => by subst e; unfold itLt at hxy; omega
 have hp : a.Perm b := (List.perm_ext_iff_of_nodup (nd a ha) (nd b hb)).2 h
 exact hp.eq_of_pairwise (fun x y _ _ h1 h2 => by unfold itLt at h1 h2; exfalso; omega) ha hb
def addP (g : Gr) (s : Int) (l : List It) : List It := (ofS g s).foldl (fun l n => if (n, 0) ∈ l then l else l ++ [(n, 0)]) l
def rcStep (g : Gr) (x : It) (l : List It) : List It := match aheadF g x with | some s => if s.kind = 1 then addP g s.sort l else l | none => l
def outR (g : Gr) (l : List It) : List It := (List.range g.prods.length).flatMap fun n => ((List.range ((rightOf g n).length + 1)).filter fun d => decide ((n, d) ∈ l)).map fun d => (n, d)
theorem addP_go (g : Gr) : ∀ (ns : List Nat) (l : List It), (∀ x ∈ l, x ∈ ns.foldl (fun l n => if (n, 0) ∈ l then l else l ++ [(n, 0)]) l) /\ (∀ n ∈ ns, (n, 0) ∈ ns.foldl (fun l n => if (n, 0) ∈ l then l else l ++ [(n, 0)]) l) /\
  (∀ x ∈ ns.foldl (fun l n => if (n, 0) ∈ l then l else l ++ [(n, 0)]) l, x ∈ l ∨ ∃ n ∈ ns, x = (n, 0)) /\ (∃ t, ns.foldl (fun l n => if (n, 0) ∈ l then l else l ++ [(n, 0)]) l = l ++ t)
 | [], l => ⟨fun x h => h, fun n h => (by cases h), fun x h => .inl h, [], by simp⟩
 | m :: ns, l => by
  rw [List.foldl_cons]
  obtain ⟨a, b, c, t, d⟩ := addP_go g ns (if (m, 0) ∈ l then l else l ++ [(m, 0)])
  have k1 : ∀ x ∈ l, x ∈ (if (m, 0) ∈ l then l else l ++ [(m, 0)]) := fun x hx => by
   split
   ·exact hx
   ·exact List.mem_append_left _ hx
  have k2 : (m, 0) ∈ (if (m, 0) ∈ l then l else l ++ [(m, 0)]) := by
   split
   ·assumption
   ·simp
  refine ⟨fun x hx => a x (k1 x hx), fun n hn => ?_, fun x hx => ?_, ?_⟩
  ·rcases List.mem_cons.1 hn with rfl | hn
   ·exact a _ k2
   ·exact b n hn
  ·rcases c x hx with h | ⟨n, hn, h⟩
   ·split at h
    ·exact .inl h
    ·rcases List.mem_append.1 h with h | h
     ·exact .inl h
     ·exact .inr ⟨m, by simp, List.mem_singleton.1 h⟩
   ·exact .inr ⟨n, by simp [hn], h⟩
  ·split at d
   ·rename_i hm; rw [if_pos hm]; exact ⟨t, d⟩
   ·rename_i hm; rw [if_neg hm]; exact ⟨[(m, 0)] ++ t, by rw [d, List.append_assoc]⟩
theorem addP_law (g : Gr) (s : Int) (l : List It) : (∀ x ∈ l, x ∈ addP g s l) /\ (∀ n ∈ ofS g s, (n, 0) ∈ addP g s l) /\ (∀ x ∈ addP g s l, x ∈ l ∨ ∃ n ∈ ofS g s, x = (n, 0)) /\ ∃ t, addP g s l = l ++ t := addP_go g (ofS g s) l
theorem rcStep_pre (g : Gr) (x : It) (l : List It) : ∃ t, rcStep g x l = l ++ t := by
 unfold rcStep
 split
 ·split
  ·exact (addP_law g _ l).2.2.2
  ·exact ⟨[], by simp⟩
 ·exact ⟨[], by simp⟩
def lacks (g : Gr) (l : List It) : Nat := (List.range g.prods.length).countP fun n => decide ((n, 0) ∉ l)
theorem lacks_le (g : Gr) (l : List It) : lacks g l <= g.prods.length := by
 unfold lacks
 exact Nat.le_trans List.countP_le_length (by simp)
theorem lacks_add (g : Gr) (l : List It) (n : Nat) (hn : n < g.prods.length) (h : (n, 0) ∉ l) : lacks g (l ++ [(n, 0)]) + 1 <= lacks g l := by
 unfold lacks
 have h1 : ∀ (L : List Nat), n ∈ L -> L.countP (fun m => decide ((m, 0) ∉ l ++ [(n, 0)])) + 1 <= L.countP (fun m => decide ((m, 0) ∉ l)) := by
  have h0 : ∀ (L : List Nat), L.countP (fun m => decide ((m, 0) ∉ l ++ [(n, 0)])) <= L.countP (fun m => decide ((m, 0) ∉ l)) := fun L => by
   refine List.countP_mono_left fun m _ hm => ?_
   simp at hm ⊢
   exact hm.1
  intro L hL
  induction L with
  | nil => cases hL
  | cons a L ih =>
   rw [List.countP_cons, List.countP_cons]
   rcases List.mem_cons.1 hL with rfl | hL
   ·have := h0 L
    simp [h]
    simp at this
    omega
   ·have := ih hL
    have h3 : (if decide ((a, 0) ∉ l ++ [(n, 0)]) = true then 1 else 0) <= (if decide ((a, 0) ∉ l) = true then 1 else 0) := by
     by_cases hm : (a, 0) ∈ l
     ·simp [hm]
     ·simp [hm]; split <;> omega
    omega
 exact h1 _ (by simpa using hn)
theorem addP_lacks (g : Gr) : ∀ (ns : List Nat) (l : List It), (∀ n ∈ ns, n < g.prods.length) -> (ns.foldl (fun l n => if (n, 0) ∈ l then l else l ++ [(n, 0)]) l).length + lacks g (ns.foldl (fun l n => if (n, 0) ∈ l then l else l ++ [(n, 0)]) l) <= l.length + lacks g l
 | [], l, _ => Nat.le_refl _
 | m :: ns, l, h => by
  rw [List.foldl_cons]
  refine Nat.le_trans (addP_lacks g ns _ (fun n hn => h n (by simp [hn]))) ?_
  split
  ·exact Nat.le_refl _
  ·rename_i hm
   have := lacks_add g l m (h m (by simp)) hm
   simp
   omega
theorem rcStep_lacks (g : Gr) (x : It) (l : List It) : (rcStep g x l).length + lacks g (rcStep g x l) <= l.length + lacks g l := by
 unfold rcStep
 split
 ·split
  ·refine addP_lacks g _ l fun n hn => ?_
   have := itemOk_new hn
   rw [itemOk_iff] at this
   exact this.1
  ·exact Nat.le_refl _
 ·exact Nat.le_refl _
structure RcAt (g : Gr) (l0 : List It) (i : Nat) (l : List It) : Prop where
 le : i <= l.length
 fits : l.length + lacks g l <= l0.length + g.prods.length
 keep : ∀ x ∈ l0, x ∈ l
 from_ : ∀ S : It -> Prop, (∀ y ∈ l0, S y) -> ClosedS g S -> ∀ x ∈ l, S x
 past : ∀ (j : Nat) (x : It), j < i -> l[j]? = some x -> ∀ s, aheadF g x = some s -> s.kind = 1 -> ∀ n ∈ ofS g s.sort, (n, 0) ∈ l
theorem RcAt.start (g : Gr) (l : List It) : RcAt g l 0 l := ⟨Nat.zero_le _, by have := lacks_le g l; omega, fun x h => h, fun S h _ => h, fun j x hj => by omega⟩
theorem RcAt.step {g : Gr} {l0 : List It} {i : Nat} {l : List It} (h : RcAt g l0 i l) {x : It} (hx : l[i]? = some x) : RcAt g l0 (i + 1) (rcStep g x l) := by
 have hi := (List.getElem?_eq_some_iff.1 hx).1
 obtain ⟨t, ht⟩ := rcStep_pre g x l
 have hkeep : ∀ y ∈ l, y ∈ rcStep g x l := fun y hy => by rw [ht]; exact List.mem_append_left _ hy
 refine ⟨by rw [ht]; simp; omega, Nat.le_trans (rcStep_lacks g x l) h.fits, fun y hy => hkeep y (h.keep y hy), fun S h1 h2 y hy => ?_, fun j y hj hy s hs hk n hn => ?_⟩
 ·have hl := h.from_ S h1 h2
  unfold rcStep at hy
  cases ha : aheadF g x with
  | none => rw [ha] at hy; exact hl y hy
  | some s =>
   rw [ha] at hy
   dsimp only at hy
   split at hy
   ·rename_i hk
    rcases (addP_law g s.sort l).2.2.1 y hy with h3 | ⟨n, hn, rfl⟩
    ·exact hl y h3
    ·exact h2 x (hl x (List.mem_of_getElem? hx)) s ha hk n hn
   ·exact hl y hy
 ·rw [ht, List.getElem?_append_left (by omega)] at hy
  rcases Nat.lt_or_ge j i with hji | hji
  ·exact hkeep _ (h.past j y hji hy s hs hk n hn)
  ·obtain rfl : j = i := by omega
   rw [hx] at hy
   injection hy with hy
   subst hy
   unfold rcStep
   rw [hs]
   dsimp only
   rw [if_pos hk]
   exact (addP_law g s.sort l).2.1 n hn
theorem outR_mem (g : Gr) (l : List It) (hl : ∀ x ∈ l, itemOk g x = true) (x : It) : x ∈ outR g l ↔ x ∈ l := by
 unfold outR
 rw [List.mem_flatMap]
 constructor
 ·rintro ⟨n, hn, h⟩
  obtain ⟨d, hd, rfl⟩ := List.mem_map.1 h
  have := (List.mem_filter.1 hd).2
  simpa using this
 ·intro h
  have hok := (itemOk_iff g x).1 (hl x h)
  exact ⟨x.1, by simpa using hok.1, List.mem_map.2 ⟨x.2, List.mem_filter.2 ⟨by simp; omega, by simpa using h⟩, rfl⟩⟩
theorem outR_lt (g : Gr) (l : List It) : (outR g l).Pairwise itLt := by
 unfold outR
 have h1 : ∀ k : Nat, (List.range k).Pairwise (· < ·) := fun k => List.pairwise_lt_range
 rw [List.flatMap_def]
 refine List.pairwise_flatten.2 ⟨fun L hL => ?_, ?_⟩
 ·obtain ⟨n, _, rfl⟩ := List.mem_map.1 hL
  refine List.pairwise_map.2 (((h1 _).filter _).imp fun {a b} hab => ?_)
  exact .inr ⟨rfl, hab⟩
 ·refine List.pairwise_map.2 ((h1 _).imp fun {a b} hab => ?_)
  intro x hx y hy
  obtain ⟨d, _, rfl⟩ := List.mem_map.1 hx
  obtain ⟨e, _, rfl⟩ := List.mem_map.1 hy
  exact .inl hab
theorem RcAt.done {g : Gr} {l0 : List It} {l : List It} (h : RcAt g l0 l.length l) (hl : ∀ x ∈ l0, itemOk g x = true) : outR g l = closedF g l0 := by
 have hok : ∀ x ∈ l, itemOk g x = true := h.from_ _ hl (fun x _ s _ _ n hn => itemOk_new hn)
 refine lt_unique (outR_lt g l) (closedF_lt g l0) fun x => ?_
 rw [outR_mem g l hok, closedF_iff hl]
 refine ⟨fun hx S h1 h2 => h.from_ S h1 h2 x hx, fun hx => hx (fun y => y ∈ l) h.keep ?_⟩
 intro y hy s hs hk n hn
 obtain ⟨j, hj⟩ := List.getElem?_of_mem hy
 exact h.past j y (List.getElem?_eq_some_iff.1 hj).1 hj s hs hk n hn
end Go.Proofs.YtknpkndiflodbaaGreatDoor.Tb
namespace Go.Proofs.YtknpkndiflodbaaGreatDoor.Tb
def sameB (L : List Nat) (b c : Nat) : Bool := L.all fun s => s.testBit b == s.testBit c
theorem sameB_iff (L : List Nat) (b c : Nat) : sameB L b c = true ↔ ∀ s ∈ L, s.testBit b = s.testBit c := by simp [sameB]
theorem sameB_refl (L : List Nat) (b : Nat) : sameB L b b = true := (sameB_iff L b b).2 fun _ _ => rfl
theorem sameB_symm {L : List Nat} {b c : Nat} (h : sameB L b c = true) : sameB L c b = true := (sameB_iff L c b).2 fun s hs => ((sameB_iff L b c).1 h s hs).symm
theorem sameB_trans {L : List Nat} {b c d : Nat} (h : sameB L b c = true) (k : sameB L c d = true) : sameB L b d = true := (sameB_iff L b d).2 fun s hs => ((sameB_iff L b c).1 h s hs).trans ((sameB_iff L c d).1 k s hs)
def firsts (L : List Nat) (b : Nat) : List Nat := (List.range b).filter fun c => (List.range c).all fun d => !sameB L c d
def classB (L : List Nat) (b f : Nat) : Nat := ((List.range b).filter fun c => sameB L f c).foldl (fun M c => M ||| 2 ^ c) 0
def refSplit (L : List Nat) : List Nat := (firsts L 256).map (classB L 256)
theorem orAll_bit (i : Nat) : ∀ (l : List Nat) (a : Nat), (l.foldl (fun M c => M ||| 2 ^ c) a).testBit i = (a.testBit i || decide (i ∈ l))
 | [], a => by simp
 | x :: l, a => by
  rw [List.foldl_cons, orAll_bit i l, Nat.testBit_or, Nat.testBit_two_pow, Bool.or_assoc]
  congr 1
  by_cases h : x = i
  ·subst h; simp
  ·have h2 : ¬ i = x := fun e => h e.symm
   simp [h, h2]
theorem classB_bit (L : List Nat) (b f i : Nat) : (classB L b f).testBit i = (decide (i < b) && sameB L f i) := by
 unfold classB
 rw [orAll_bit]
 by_cases h : i < b <;> simp [h]
theorem firsts_succ (L : List Nat) (b : Nat) : firsts L (b + 1) = if (List.range b).all (fun d => !sameB L b d) then firsts L b ++ [b] else firsts L b := by
 unfold firsts
 rw [List.range_succ, List.filter_append]
 by_cases h : (List.range b).all (fun d => !sameB L b d) = true
 ·rw [if_pos h, List.filter_cons]; simp only [h]; rfl
 ·rw [if_neg h, List.filter_cons]; simp only [h]; simp
theorem firsts_mem {L : List Nat} {b c : Nat} : c ∈ firsts L b ↔ c < b /\ ∀ d, d < c -> sameB L c d = false := by
 unfold firsts
 rw [List.mem_filter]
 simp
theorem firsts_sorted (L : List Nat) (b : Nat) : (firsts L b).Pairwise (· < ·) := List.pairwise_lt_range.filter _
theorem first_of (L : List Nat) : ∀ (i : Nat), ∃ f, f <= i /\ sameB L f i = true /\ ∀ d, d < f -> sameB L f d = false := by
 intro i
 induction i using Nat.strongRecOn with
 | _ i ih =>
  by_cases h : ∀ d, d < i -> sameB L i d = false
  ·exact ⟨i, Nat.le_refl _, sameB_refl L i, h⟩
  ·have : ∃ d, d < i /\ sameB L i d = true := by
    apply Classical.byContradiction
    intro hn
    refine h fun d hd => ?_
    cases hs : sameB L i d with
    | false => rfl
    | true => exact absurd ⟨d, hd, hs⟩ hn
   obtain ⟨d, hd, hs⟩ := this
   obtain ⟨f, h1, h2, h3⟩ := ih d hd
   exact ⟨f, by omega, sameB_trans h2 (sameB_symm hs), h3⟩
theorem firsts_old {L : List Nat} {b f : Nat} (hf : f ∈ firsts L b) (h : sameB L b f = true) : firsts L (b + 1) = firsts L b := by
 rw [firsts_succ, if_neg]
 intro hall
 have := List.all_eq_true.1 hall f (by simpa using (firsts_mem.1 hf).1)
 rw [h] at this
 cases this
theorem firsts_new {L : List Nat} {b : Nat} (h : ∀ f ∈ firsts L b, sameB L b f = false) : firsts L (b + 1) = firsts L b ++ [b] := by
 rw [firsts_succ, if_pos]
 rw [List.all_eq_true]
 intro d hd
 have hd : d < b := by simpa using hd
 cases hs : sameB L b d with
 | false => rfl
 | true =>
  obtain ⟨f, h1, h2, h3⟩ := first_of L d
  have := h f (firsts_mem.2 ⟨by omega, h3⟩)
  rw [sameB_trans hs (sameB_symm h2)] at this
  cases this
theorem classB_succ (L : List Nat) (b f : Nat) : classB L (b + 1) f = if sameB L b f then classB L b f ||| 2 ^ b else classB L b f := by
 apply Nat.eq_of_testBit_eq
 intro i
 rw [classB_bit]
 have hsym : sameB L b f = sameB L f b := by
  cases h : sameB L b f with
  | true => rw [sameB_symm h]
  | false => cases h2 : sameB L f b with
   | true => rw [sameB_symm h2] at h; cases h
   | false => rfl
 rw [hsym]
 cases hs : sameB L f b with
 | true =>
  rw [if_pos rfl, Nat.testBit_or, classB_bit, Nat.testBit_two_pow]
  by_cases h : i = b
  ·subst h; simp [hs]
  ·have h2 : ¬ b = i := fun e => h e.symm
   by_cases h3 : i < b
   ·have h4 : i < b + 1 := by omega
    simp [h2, h3, h4]
   ·have h4 : ¬ i < b + 1 := by omega
    simp [h2, h3, h4]
 | false =>
  rw [if_neg (by decide), classB_bit]
  by_cases h : i = b
  ·subst h; simp [hs]
  ·by_cases h3 : i < b
   ·have h4 : i < b + 1 := by omega
    simp [h3, h4]
   ·have h4 : ¬ i < b + 1 := by omega
    simp [h3, h4]
theorem classB_none {L : List Nat} {b : Nat} (h : ∀ f ∈ firsts L b, sameB L b f = false) : classB L b b = 0 := by
 apply Nat.eq_of_testBit_eq
 intro i
 rw [classB_bit, Nat.zero_testBit]
 by_cases hi : i < b
 ·obtain ⟨f, h1, h2, h3⟩ := first_of L i
  have := h f (firsts_mem.2 ⟨by omega, h3⟩)
  cases hs : sameB L b i with
  | false => simp
  | true => rw [sameB_trans hs (sameB_symm h2)] at this; cases this
 ·simp [hi]
theorem split_old {L : List Nat} {b k : Nat} (hk : k < (firsts L b).length) (h : sameB L b (firsts L b)[k] = true) :
  (firsts L (b + 1)).map (classB L (b + 1)) = ((firsts L b).map (classB L b)).set k (classB L b (firsts L b)[k] ||| 2 ^ b) := by
 rw [firsts_old (List.getElem_mem hk) h]
 apply List.ext_getElem
 ·simp
 ·intro j h1 h2
  simp only [List.length_map] at h1
  rw [List.getElem_set, List.getElem_map]
  by_cases hj : k = j
  ·subst hj
   rw [if_pos rfl, classB_succ, if_pos h]
  ·rw [if_neg hj, List.getElem_map, classB_succ, if_neg]
   intro h3
   have h4 := sameB_trans (sameB_symm h3) h
   have hs := List.pairwise_iff_getElem.1 (firsts_sorted L b)
   have m1 := firsts_mem.1 (List.getElem_mem h1)
   have m2 := firsts_mem.1 (List.getElem_mem hk)
   rcases Nat.lt_or_ge j k with hjk | hjk
   ·have := m2.2 _ (hs j k h1 hk hjk)
    rw [sameB_symm h4] at this; cases this
   ·have := m1.2 _ (hs k j hk h1 (by omega))
    rw [h4] at this; cases this
theorem split_new {L : List Nat} {b : Nat} (h : ∀ f ∈ firsts L b, sameB L b f = false) :
  (firsts L (b + 1)).map (classB L (b + 1)) = (firsts L b).map (classB L b) ++ [2 ^ b] := by
 rw [firsts_new h, List.map_append]
 congr 1
 ·refine List.map_congr_left fun f hf => ?_
  rw [classB_succ, if_neg]
  rw [h f hf]; decide
 ·show [classB L (b + 1) b] = _
  rw [classB_succ, if_pos (sameB_refl L b), classB_none h, Nat.zero_or]
theorem split_full : ∀ (l parts done : List Nat), (∀ s ∈ l, s < 2 ^ 256) -> Parts parts -> (∀ p ∈ parts, ∀ i j, p.testBit i = true -> j < 256 -> (∀ s ∈ done, s.testBit i = s.testBit j) -> p.testBit j = true) ->
  ∀ p ∈ l.foldl splitStep parts, ∀ i j, p.testBit i = true -> j < 256 -> (∀ s, s ∈ done ∨ s ∈ l -> s.testBit i = s.testBit j) -> p.testBit j = true
 | [], parts, done, _, _, h => fun p hp i j hi hj hs => h p hp i j hi hj fun s hsd => hs s (.inl hsd)
 | t :: l, parts, done, hl, hp, h => by
  have ht := hl t (by simp)
  intro p hpm i j hi hj hs
  refine split_full l (splitStep parts t) (t :: done) (fun s hs => hl s (by simp [hs])) (splitStep_parts ht hp) ?_ p hpm i j hi hj fun s hsd => hs s ?_
  ·intro q hq i j hi hj hs
   rw [splitStep_eq] at hq
   have hst := hs t (by simp)
   rcases cut_fold_mem t parts [] q hq with h0 | ⟨p, hpm, rfl | rfl⟩
   ·cases h0
   ·rw [Nat.testBit_and] at hi ⊢
    simp at hi
    rw [h p hpm i j hi.1 hj (fun s hsd => hs s (by simp [hsd])), <- hst, hi.2]; rfl
   ·rw [without_bit p t _ ht (hp.1 p hpm).2] at hi ⊢
    simp at hi
    rw [h p hpm i j hi.1 hj (fun s hsd => hs s (by simp [hsd])), <- hst, hi.2]; rfl
  ·rcases hsd with hsd | hsd
   ·rcases List.mem_cons.1 hsd with rfl | hsd
    ·exact .inr (by simp)
    ·exact .inl hsd
   ·exact .inr (by simp [hsd])
theorem part_class {L : List Nat} (h : ∀ s ∈ L, s < 2 ^ 256) {p i : Nat} (hp : p ∈ L.foldl splitStep [2 ^ 256 - 1]) (hi : p.testBit i = true) : p = classB L 256 i := by
 have hP : Parts (L.foldl splitStep [2 ^ 256 - 1]) := parts_all L _ h full_parts
 have hfull : ∀ j, (2 ^ 256 - 1).testBit j = decide (j < 256) := fun j => Nat.testBit_two_pow_sub_one 256 j
 have h1 := (split_all L [2 ^ 256 - 1] [] h full_parts (fun p _ s hs => by cases hs) (fun i hi => ⟨2 ^ 256 - 1, List.mem_singleton.2 rfl, by rw [hfull]; exact decide_eq_true hi⟩)).1
 have h2 := split_full L [2 ^ 256 - 1] [] h full_parts (fun p hp i j _ hj _ => by rw [List.mem_singleton.1 hp, hfull]; exact decide_eq_true hj)
 have hlt := (hP.1 p hp).2
 have hi256 : ∀ j, p.testBit j = true -> j < 256 := fun j hj => by
  rcases Nat.lt_or_ge j 256 with h | h
  ·exact h
  ·rw [Nat.testBit_lt_two_pow (Nat.lt_of_lt_of_le hlt (Nat.pow_le_pow_right (by omega) h))] at hj; cases hj
 apply Nat.eq_of_testBit_eq
 intro j
 rw [classB_bit]
 cases hj : p.testBit j with
 | true =>
  rw [decide_eq_true (hi256 j hj)]
  symm
  refine (sameB_iff L i j).2 fun s hs => ?_
  rcases h1 p hp s (.inr hs) with hq | hq
  ·rw [hq i hi, hq j hj]
  ·have a1 := (apart_iff _ _).1 hq i
   have a2 := (apart_iff _ _).1 hq j
   cases hsi : s.testBit i with
   | true => exact absurd ⟨hi, hsi⟩ a1
   | false => cases hsj : s.testBit j with
    | true => exact absurd ⟨hj, hsj⟩ a2
    | false => rfl
 | false =>
  by_cases hj2 : j < 256
  ·cases hs : sameB L i j with
   | false => simp
   | true =>
    have := h2 p hp i j hi hj2 fun s hsd => by
     rcases hsd with hsd | hsd
     ·cases hsd
     ·exact (sameB_iff L i j).1 hs s hsd
    rw [hj] at this
    cases this
  ·simp [hj2]
theorem leastF_class {L : List Nat} {f : Nat} (hf : f ∈ firsts L 256) : leastF (classB L 256 f) = f := by
 obtain ⟨h1, h2⟩ := firsts_mem.1 hf
 have hbit : (classB L 256 f).testBit f = true := by rw [classB_bit, decide_eq_true h1, sameB_refl]; rfl
 have hne : classB L 256 f ≠ 0 := fun e => by rw [e, Nat.zero_testBit] at hbit; cases hbit
 have hlt : classB L 256 f < 2 ^ 256 := by
  apply Nat.lt_pow_two_of_testBit
  intro i hi
  rw [classB_bit, decide_eq_false (by omega)]; rfl
 have h3 := leastF_bit hne hlt
 have h4 : leastF (classB L 256 f) <= f := by
  unfold leastF
  cases hx : (List.range 256).find? (fun b => (classB L 256 f).testBit b) with
  | none => exact Nat.zero_le _
  | some x =>
   show x <= f
   rcases Nat.lt_or_ge f x with h | h
   ·exfalso
    rw [List.find?_range_eq_some] at hx
    have := hx.2.2 f h
    rw [hbit] at this
    cases this
   ·exact h
 rw [classB_bit] at h3
 simp at h3
 rcases Nat.lt_or_ge (leastF (classB L 256 f)) f with h5 | h5
 ·rw [h2 _ h5] at h3; cases h3.2
 ·omega
theorem refSplit_eq {L : List Nat} (h : ∀ s ∈ L, s < 2 ^ 256) : refSplit L = splitF L := by
 have hP : Parts (L.foldl splitStep [2 ^ 256 - 1]) := parts_all L _ h full_parts
 have hcov := (split_all L [2 ^ 256 - 1] [] h full_parts (fun p _ s hs => by cases hs) (fun i hi => ⟨2 ^ 256 - 1, List.mem_singleton.2 rfl, by rw [Nat.testBit_two_pow_sub_one]; exact decide_eq_true hi⟩)).2
 unfold splitF
 refine sortSet_unique hP ?_ ?_
 ·refine (List.perm_ext_iff_of_nodup ?_ ?_).2 fun p => ?_
  ·unfold refSplit
   refine List.pairwise_map.2 ((firsts_sorted L 256).imp_of_mem fun {a b} ha hb hab e => ?_)
   have := congrArg leastF e
   rw [leastF_class ha, leastF_class hb] at this
   omega
  ·refine hP.2.imp_of_mem fun {a b} ha hb hab e => ?_
   subst e
   rw [Nat.and_self] at hab
   exact (hP.1 a ha).1 hab
  ·unfold refSplit
   rw [List.mem_map]
   constructor
   ·rintro ⟨f, hf, rfl⟩
    obtain ⟨p, hp, hbit⟩ := hcov f (firsts_mem.1 hf).1
    rw [<- part_class h hp hbit]; exact hp
   ·intro hp
    obtain ⟨i, hi, hbit⟩ := exists_bit (hP.1 p hp).1 (hP.1 p hp).2
    obtain ⟨f, h1, h2, h3⟩ := first_of L i
    refine ⟨f, firsts_mem.2 ⟨by omega, h3⟩, ?_⟩
    rw [part_class h hp hbit]
    apply Nat.eq_of_testBit_eq
    intro j
    rw [classB_bit, classB_bit]
    congr 1
    cases hx : sameB L f j with
    | true => rw [sameB_trans (sameB_symm h2) hx]
    | false => cases hy : sameB L i j with
     | true => rw [sameB_trans h2 hy] at hx; cases hx
     | false => rfl
 ·unfold refSplit
  refine List.pairwise_map.2 ((firsts_sorted L 256).imp_of_mem fun {a b} ha hb hab => ?_)
  rw [leastF_class ha, leastF_class hb]
  omega
def sortHit (g : Gr) (n : Int) (x : It) : Bool := match aheadF g x with | some s => s.kind == 1 && s.sort == n | none => false
def symsR (g : Gr) (l : List It) : List Sy :=
 (((List.range g.sorts.length).filter fun n : Nat => l.any (sortHit g (n : Int))).map fun n : Nat => ⟨1, 0, (n : Int)⟩) ++
 (((refSplit (setsOf g l)).filter fun c => (setsOf g l).any fun s => withinF c s).map fun c => ⟨0, c, 0⟩)
def movedR (g : Gr) (l : List It) (y : Sy) : List It :=
 (l.filter fun x => match aheadF g x with | some s => s.kind == y.kind && (s.sort == y.sort && (y.kind == 1 || withinF y.set s.set)) | none => false).map fun x => (x.1, x.2 + 1)
theorem sortsOf_mem {g : Gr} {l : List It} {n : Int} : n ∈ sortsOf g l ↔ ∃ x ∈ l, sortHit g n x = true := by
 unfold sortsOf
 rw [insInt_mem 0]
 constructor
 ·intro h
  have hgo : ∀ (l : List It) (o : List Int), n ∈ l.foldl (sortStep g) o -> n ∈ o ∨ ∃ x ∈ l, sortHit g n x = true := by
   intro l
   induction l with
   | nil => intro o h; exact .inl h
   | cons y t ih =>
    intro o h
    rw [List.foldl_cons] at h
    rcases ih _ h with h | ⟨x, hx, h⟩
    ·unfold sortStep at h
     cases ha : aheadF g y with
     | none => rw [ha] at h; exact .inl h
     | some s =>
      rw [ha] at h
      dsimp only at h
      split at h
      ·rename_i hc
       rcases List.mem_append.1 h with h | h
       ·exact .inl h
       ·refine .inr ⟨y, by simp, ?_⟩
        unfold sortHit
        rw [ha]
        simp at h
        simp [hc.1, h]
      ·exact .inl h
    ·exact .inr ⟨x, by simp [hx], h⟩
  rcases hgo l [] h with h | h
  ·cases h
  ·exact h
 ·rintro ⟨x, hx, h⟩
  unfold sortHit at h
  cases ha : aheadF g x with
  | none => rw [ha] at h; cases h
  | some s =>
   rw [ha] at h
   simp at h
   rw [<- h.2]
   exact sortStep_new g l [] x s hx ha h.1
theorem sortStep_nodup (g : Gr) : ∀ (l : List It) (o : List Int), o.Nodup -> (l.foldl (sortStep g) o).Nodup
 | [], o, h => h
 | x :: t, o, h => by
  rw [List.foldl_cons]
  refine sortStep_nodup g t _ ?_
  unfold sortStep
  split
  ·split
   ·rename_i hc
    refine List.nodup_append.2 ⟨h, by simp, fun a ha b hb => ?_⟩
    rw [List.mem_singleton] at hb
    subst hb
    intro e
    subst e
    exact hc.2 ha
   ·exact h
  ·exact h
def SortsAt (g : Gr) : Prop := ∀ x y, aheadF g x = some y -> y.kind = 1 -> 0 <= y.sort /\ y.sort < g.sorts.length
theorem sortsOf_eq {g : Gr} (hg : SortsAt g) (l : List It) : sortsOf g l = ((List.range g.sorts.length).filter fun n : Nat => l.any (sortHit g (n : Int))).map fun n : Nat => (n : Int) := by
 have hnd : (sortsOf g l).Nodup := by
  unfold sortsOf
  exact (sortInt_perm _).nodup_iff.2 (sortStep_nodup g l [] List.nodup_nil)
 have hnd2 : ((((List.range g.sorts.length).filter fun n : Nat => l.any (sortHit g (n : Int))).map fun n : Nat => (n : Int))).Pairwise (· < ·) :=
  List.pairwise_map.2 ((List.pairwise_lt_range.filter _).imp fun {a b} hab => by omega)
 have hp : (sortsOf g l).Perm (((List.range g.sorts.length).filter fun n : Nat => l.any (sortHit g (n : Int))).map fun n : Nat => (n : Int)) := by
  refine (List.perm_ext_iff_of_nodup hnd (hnd2.imp fun {a b} h e => by omega)).2 fun n => ?_
  rw [sortsOf_mem, List.mem_map]
  constructor
  ·rintro ⟨x, hx, h⟩
   have h0 := h
   unfold sortHit at h0
   cases ha : aheadF g x with
   | none => rw [ha] at h0; cases h0
   | some s =>
    rw [ha] at h0
    simp at h0
    obtain ⟨h1, h2⟩ := hg x s ha h0.1
    rw [h0.2] at h1 h2
    refine ⟨n.toNat, List.mem_filter.2 ⟨by simp; omega, List.any_eq_true.2 ⟨x, hx, ?_⟩⟩, by omega⟩
    rw [show ((n.toNat : Nat) : Int) = n by omega]
    exact h
  ·rintro ⟨k, hk, rfl⟩
   exact List.any_eq_true.1 (List.mem_filter.1 hk).2
 have hs : (sortsOf g l).Pairwise (· <= ·) := by
  unfold sortsOf
  exact sortInt_sorted _
 exact hp.eq_of_pairwise (fun a b _ _ h k => by omega) hs (hnd2.imp fun {a b} h => by omega)
theorem moved_any (g : Gr) (l : List It) (c : Nat) : (movedSet g l c).isEmpty = !(setsOf g l).any fun s => withinF c s := by
 rw [Bool.eq_iff_iff]
 simp only [List.isEmpty_iff, Bool.not_eq_true', List.any_eq_false]
 constructor
 ·intro h s hs hw
  obtain ⟨x, hx, y, h1, h2, rfl⟩ := setsOf_from hs
  have := movedSet_mem (c := c) hx h1 h2 hw
  rw [h] at this
  cases this
 ·intro h
  refine List.eq_nil_iff_forall_not_mem.2 fun z hz => ?_
  unfold movedSet at hz
  obtain ⟨x, hx, _⟩ := List.mem_map.1 hz
  obtain ⟨h1, h2⟩ := List.mem_filter.1 hx
  cases ha : aheadF g x with
  | none => rw [ha] at h2; cases h2
  | some y =>
   rw [ha] at h2
   simp at h2
   exact h _ (setsOf_mem h1 ha h2.1) h2.2
def NoSort (g : Gr) : Prop := ∀ x y, aheadF g x = some y -> y.kind = 0 -> y.sort = 0
theorem filterMap_if {α β : Type} (p : α -> Bool) (f : α -> β) : ∀ l : List α, (l.filterMap fun a => if p a = true then none else some (f a)) = (l.filter fun a => !p a).map f
 | [] => rfl
 | a :: l => by
  rw [List.filterMap_cons, List.filter_cons]
  cases h : p a <;> simp [filterMap_if p f l]
theorem leadsF_eq {g : Gr} (h1 : SetsOk g) (h2 : SortsAt g) (h3 : NoSort g) (l : List It) : leadsF g l = (symsR g l).map fun y => (y, closedF g (movedR g l y)) := by
 unfold leadsF symsR
 rw [List.map_append, sortsOf_eq h2, refSplit_eq (setsOf_ok h1 l)]
 congr 1
 ·rw [List.map_map, List.map_map]
  refine List.map_congr_left fun n _ => ?_
  show (_, _) = (_, _)
  congr 2
  unfold movedSort movedR
  congr 1
  refine List.filter_congr fun x _ => ?_
  cases ha : aheadF g x with
  | none => rfl
  | some s => simp
 ·rw [filterMap_if, List.map_map]
  have : (splitF (setsOf g l)).filter (fun a => !(movedSet g l a).isEmpty) = (splitF (setsOf g l)).filter fun c => (setsOf g l).any fun s => withinF c s :=
   List.filter_congr fun c _ => by rw [moved_any]; simp
  rw [this]
  refine List.map_congr_left fun c _ => ?_
  show (_, _) = (_, _)
  congr 2
  unfold movedSet movedR
  congr 1
  refine List.filter_congr fun x _ => ?_
  cases ha : aheadF g x with
  | none => rfl
  | some s =>
   by_cases hk : s.kind = 0
   ·simp [hk, h3 x s ha hk]
   ·have hk2 : (s.kind == 0) = false := by simpa using hk
    simp [hk2]
def numberC (C : Nat) (all : List (List It)) (l : List It) : Option (Nat × List (List It)) :=
 match all.findIdx? (· == l) with
 | some n => some (n, all)
 | none => if C <= all.length then none else some (all.length, all ++ [l])
def numbersC (C : Nat) : List (List It) -> List (Sy × List It) -> Option (List (Sy × Nat) × List (List It))
 | all, [] => some ([], all)
 | all, (s, l) :: t =>
  match numberC C all l with
  | none => none
  | some (n, all') =>
   match numbersC C all' t with
   | none => none
   | some (e, all'') => some ((s, n) :: e, all'')
def statesC (C : Nat) (g : Gr) : Nat -> Nat -> List (List It) -> Option (List St)
 | 0, _, _ => some []
 | f + 1, n, all =>
  match all[n]? with
  | none => some []
  | some l =>
   match numbersC C all (leadsF g l) with
   | none => none
   | some (e, all') => (statesC C g f (n + 1) all').map fun t => ⟨l, e, doneF g l⟩ :: t
theorem numberC_F {C : Nat} (hC : C <= 16384) {all : List (List It)} {l : List It} {r : Nat × List (List It)} (h : numberC C all l = some r) : numberF all l = some r := by
 unfold numberC at h
 unfold numberF
 split
 ·rename_i n hn
  rw [hn] at h
  exact h
 ·rename_i hn
  rw [hn] at h
  dsimp only at h
  split at h
  ·cases h
  ·rw [if_neg (by omega)]; exact h
theorem numbersC_F {C : Nat} (hC : C <= 16384) : ∀ (L : List (Sy × List It)) (all : List (List It)) (r : List (Sy × Nat) × List (List It)), numbersC C all L = some r -> numbersF all L = some r
 | [], all, r, h => h
 | (s, l) :: t, all, r, h => by
  rw [numbersC] at h
  rw [numbersF]
  cases h1 : numberC C all l with
  | none => rw [h1] at h; cases h
  | some q =>
   obtain ⟨n, a1⟩ := q
   rw [h1] at h
   rw [numberC_F hC h1]
   dsimp only at h ⊢
   cases h2 : numbersC C a1 t with
   | none => rw [h2] at h; cases h
   | some q =>
    obtain ⟨e, a2⟩ := q
    rw [h2] at h
    rw [numbersC_F hC t a1 _ h2]
    exact h
theorem statesC_F {C : Nat} (hC : C <= 16384) (g : Gr) : ∀ (f n : Nat) (all : List (List It)) (l : List St), statesC C g f n all = some l -> statesGo g f n all = some l
 | 0, _, _, _, h => h
 | f + 1, n, all, l, h => by
  rw [statesC] at h
  rw [statesGo]
  cases hx : all[n]? with
  | none => rw [hx] at h; exact h
  | some y =>
   rw [hx] at h
   dsimp only at h ⊢
   cases h1 : numbersC C all (leadsF g y) with
   | none => rw [h1] at h; cases h
   | some q =>
    obtain ⟨e, a1⟩ := q
    rw [h1] at h
    rw [numbersC_F hC _ _ _ h1]
    dsimp only at h ⊢
    cases h2 : statesC C g f (n + 1) a1 with
    | none => rw [h2] at h; cases h
    | some q =>
     rw [h2] at h
     rw [statesC_F hC g f (n + 1) a1 q h2]
     exact h
def makeC (C : Nat) (g : Gr) : Option (List St) := statesC C g 16385 0 [closedF g ((ofS g g.start).map (·, 0))]
theorem makeC_F {C : Nat} (hC : C <= 16384) {g : Gr} {l : List St} (h : makeC C g = some l) : makeF g = some l := statesC_F hC g _ _ _ _ h
end Go.Proofs.YtknpkndiflodbaaGreatDoor.Tb
