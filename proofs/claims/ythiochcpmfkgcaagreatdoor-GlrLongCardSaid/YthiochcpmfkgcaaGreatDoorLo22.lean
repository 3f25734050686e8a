/- Walks and plain laws that the last text stands on: GlJ, GlS, GlLg, GlLgW, GlArr. -/
import Derived.Test.YthiochcpmfkgcaaGreatDoorLo5
import Derived.Test.YthiochcpmfkgcaaGreatDoorLo1
import Derived.Test.YthiochcpmfkgcaaGreatDoorLo6
import Derived.Test.YthiochcpmfkgcaaGreatDoorLo20
import Derived.Laws.MakeOwn
set_option linter.unusedVariables false
set_option linter.unusedSimpArgs false
set_option maxRecDepth 100000
set_option maxHeartbeats 16000000
/-
  PLAIN LAWS of package glr: runs with other budgets, runs over beginnings.
-/
namespace Go.Proofs.YthiochcpmfkgcaaGreatDoor.Gl
def stepsF (r : Rn) : Nat := r.edges.length + r.alts.length
structure Ended (T : Tab) (w : List UInt8) (r : Rn) : Prop where
 nd : r.nodes.Nodup
 ed : r.edges.Nodup
 ad : r.alts.Nodup
 nodes : ∀ x, x ∈ r.nodes ↔ LN T w x
 edges : ∀ x y, (x, y) ∈ r.edges ↔ LE T w x y
 alts : ∀ a, a ∈ r.alts ↔ LA T w a
theorem ended {T : Tab} {w : List UInt8} {B : Nat} {r : Rn} (h : goneF T w B = .ok r) : Ended T w r /\ r.left + stepsF r = B := by
 have := goneF_law T w B
 rw [h] at this
 obtain ⟨h1, h2, h3, h4, h5, h6, h7, _⟩ := this
 exact ⟨⟨h1, h2, h3, h5, h6, h7⟩, by unfold stepsF; omega⟩
theorem above {T : Tab} {w : List UInt8} {B : Nat} {r : Rn} (h : goneF T w B = .stop r) : Above T w B := by
 have := goneF_law T w B
 rwa [h] at this
end Go.Proofs.YthiochcpmfkgcaaGreatDoor.Gl
/-
  PLAIN LAWS of package glr: GlrLong's run: nothing, or more and a byte.
-/
namespace Go.Proofs.YthiochcpmfkgcaaGreatDoor.Gl
structure LongT (T : Tab) : Prop where
 sh : ∀ s b t, T.shift s b = some t ↔ s = 1 /\ b = 97 /\ t = 2
 go : ∀ s t, T.goto_ s 0 = some t ↔ s = 0 /\ t = 1
 done : ∀ s p, p ∈ T.done s ↔ (s = 0 /\ p = 0) ∨ (s = 2 /\ p = 1)
 len0 : T.len 0 = 0
 len1 : T.len 1 = 2
 left : ∀ p, p = 0 ∨ p = 1 -> T.left p = 0
def NL (n : Nat) (x : Nd) : Prop := x = (0, 0) ∨ (x.1 = 1 /\ x.2 <= n) ∨ (x.1 = 2 /\ x.2 <= n)
def EL (n : Nat) (x y : Nd) : Prop := (x.1 = 1 /\ x.2 <= n /\ y = (0, 0)) ∨ (x.1 = 2 /\ x.2 <= n /\ y.1 = 1 /\ x.2 = y.2 + 1)
def AL (n : Nat) (a : Al) : Prop := a = ⟨0, 0, 0, []⟩ ∨ ∃ j, j < n /\ a = ⟨1, 0, j + 1, [j, j + 1]⟩
theorem long_way {n : Nat} {j : Nat} {y : Nd} {c : List Nat} (h : Way (EL n) 2 (2, j) y c) : y = (0, 0) /\ ∃ i, i < n /\ j = i + 1 /\ c = [i, i + 1] := by
 obtain ⟨z, d, h1, ⟨z', d', h2, ⟨h3, h4⟩, h5⟩, h6⟩ := h
 rcases h1 with ⟨q, _⟩ | ⟨_, q1, q2, q3⟩
 ·cases q
 ·rcases h2 with ⟨_, q4, q5⟩ | ⟨q, _⟩
  ·subst h3; subst h4; subst h5; subst h6
   simp only at q1 q3
   exact ⟨q5, z.2, by omega, q3, by simp [q3]⟩
  ·omega
theorem long_closed {T : Tab} (hT : LongT T) (n : Nat) : Closed T (List.replicate n 97) (NL n) (EL n) (AL n) where
 start := .inl rfl
 node := fun x y h => by
  rcases h with ⟨h1, h2, _⟩ | ⟨h1, h2, _⟩
  ·exact .inr (.inl ⟨h1, h2⟩)
  ·exact .inr (.inr ⟨h1, h2⟩)
 shift := fun s i b t h1 h2 h3 => by
  obtain ⟨e1, e2, e3⟩ := (hT.sh s b t).1 h3
  subst e1; subst e3
  have := (List.getElem?_eq_some_iff.1 h2).1
  rw [List.length_replicate] at this
  exact .inr ⟨rfl, this, rfl, rfl⟩
 alt := fun s j p y c h1 h2 h3 h4 => by
  rcases (hT.done s p).1 h3 with ⟨e1, e2⟩ | ⟨e1, e2⟩
  ·subst e1; subst e2
   rw [hT.len0] at h4
   obtain ⟨h5, h6⟩ := h4
   subst h5; subst h6
   rcases h1 with h1 | ⟨h1, _⟩ | ⟨h1, _⟩
   ·cases h1; exact .inl rfl
   ·cases h1
   ·cases h1
  ·subst e1; subst e2
   rw [hT.len1] at h4
   obtain ⟨h5, i, h6, h7, h8⟩ := long_way h4
   subst h5; subst h7; subst h8
   exact .inr ⟨i, h6, rfl⟩
 goto_ := fun s j p y c t h1 h2 h3 h4 h5 => by
  rw [List.length_replicate] at h2
  rcases (hT.done s p).1 h3 with ⟨e1, e2⟩ | ⟨e1, e2⟩
  ·subst e1; subst e2
   rw [hT.left 0 (.inl rfl)] at h5
   obtain ⟨e3, e4⟩ := (hT.go _ t).1 h5
   rw [hT.len0] at h4
   obtain ⟨h6, h7⟩ := h4
   subst h6; subst e4
   rcases h1 with h1 | ⟨h1, _⟩ | ⟨h1, _⟩
   ·cases h1; exact .inl ⟨rfl, h2, rfl⟩
   ·cases h1
   ·cases h1
  ·subst e1; subst e2
   rw [hT.left 1 (.inr rfl)] at h5
   obtain ⟨e3, e4⟩ := (hT.go _ t).1 h5
   subst e4
   rw [hT.len1] at h4
   obtain ⟨h6, i, h7, h8, h9⟩ := long_way h4
   exact .inl ⟨rfl, h2, h6⟩
theorem long_edges {T : Tab} (hT : LongT T) (n : Nat) : ∀ j, j <= n -> LE T (List.replicate n 97) (1, j) (0, 0) /\ LA T (List.replicate n 97) (if j = 0 then ⟨0, 0, 0, []⟩ else ⟨1, 0, j, [j - 1, j]⟩) /\ (j < n -> LE T (List.replicate n 97) (2, j + 1) (1, j))
 | 0, hj => by
  have hL := least_closed T (List.replicate n 97)
  have hd : 0 ∈ T.done 0 := (hT.done 0 0).2 (.inl ⟨rfl, rfl⟩)
  have hW : Way (LE T (List.replicate n 97)) (T.len 0) (0, 0) (0, 0) [] := by rw [hT.len0]; exact ⟨rfl, rfl⟩
  have hE := hL.goto_ 0 0 0 (0, 0) [] 1 hL.start (Nat.zero_le _) hd hW (by rw [hT.left 0 (.inl rfl)]; exact (hT.go 0 1).2 ⟨rfl, rfl⟩)
  refine ⟨hE, by rw [if_pos rfl]; exact hL.alt 0 0 0 (0, 0) [] hL.start (Nat.zero_le _) hd hW, fun h => ?_⟩
  exact hL.shift 1 0 97 2 (hL.node _ _ hE) (by simp [h]) ((hT.sh 1 97 2).2 ⟨rfl, rfl, rfl⟩)
 | j + 1, hj => by
  have hL := least_closed T (List.replicate n 97)
  obtain ⟨i1, _, i3⟩ := long_edges hT n j (by omega)
  have i3 := i3 (by omega)
  have hd : 1 ∈ T.done 2 := (hT.done 2 1).2 (.inr ⟨rfl, rfl⟩)
  have hW : Way (LE T (List.replicate n 97)) (T.len 1) (2, j + 1) (0, 0) [j, j + 1] := by
   rw [hT.len1]
   exact ⟨(1, j), [j], i3, ⟨(0, 0), [], i1, ⟨rfl, rfl⟩, rfl⟩, rfl⟩
  have hle : j + 1 <= (List.replicate n (97 : UInt8)).length := by rw [List.length_replicate]; exact hj
  have hE := hL.goto_ 2 (j + 1) 1 (0, 0) [j, j + 1] 1 (hL.node _ _ i3) hle hd hW (by rw [hT.left 1 (.inr rfl)]; exact (hT.go 0 1).2 ⟨rfl, rfl⟩)
  refine ⟨hE, by rw [if_neg (Nat.succ_ne_zero j)]; exact hL.alt 2 (j + 1) 1 (0, 0) [j, j + 1] (hL.node _ _ i3) hle hd hW, fun h => ?_⟩
  exact hL.shift 1 (j + 1) 97 2 (hL.node _ _ hE) (by simp [h]) ((hT.sh 1 97 2).2 ⟨rfl, rfl, rfl⟩)
end Go.Proofs.YthiochcpmfkgcaaGreatDoor.Gl
/-
  PLAIN LAWS of rosettalaw10's GlrLong: its grammar's states; how its run over a text of a's ends.
-/
namespace Go.Proofs.YthiochcpmfkgcaaGreatDoor.Gl
open Tb (Gr Sy It St MadeLaw makeF)
def loG : Gr := ⟨[[83]], [⟨0, [], [], 0, false, false, -1⟩, ⟨0, [⟨1, 0, 0⟩, ⟨0, 2 ^ 97, 0⟩], [], 0, false, false, -1⟩], 0, [], []⟩
def loL : List St := [⟨[(0, 0), (1, 0)], [(⟨1, 0, 0⟩, 1)], [0]⟩, ⟨[(1, 1)], [(⟨0, 2 ^ 97, 0⟩, 2)], []⟩, ⟨[(1, 2)], [], [1]⟩]
theorem lo_made : makeF loG = some loL := by kernel_rfl
theorem lo_long : LongT (tabF loG loL) where
 sh := fun s b t => by
  unfold tabF edgesAt
  dsimp only
  rcases s with _ | _ | _ | s
  ·simp [loL, byByte]
  ·simp only [loL, List.getElem?_cons_succ, List.getElem?_cons_zero, Option.map_some, Option.getD_some, List.find?_cons, List.find?_nil, byByte, beq_self_eq_true, Bool.true_and, Nat.testBit_two_pow]
   by_cases h : b = 97
   ·subst h; simp [eq_comm]
   ·have h2 : b.toNat ≠ 97 := fun k => h (UInt8.toNat_inj.1 k)
    simp [h, Ne.symm h2]
  ·simp [loL]
  ·simp [loL]
 go := fun s t => by
  unfold tabF edgesAt
  dsimp only
  rcases s with _ | _ | _ | s
  ·simp [loL, bySort, eq_comm]
  ·simp [loL, bySort]
  ·simp [loL]
  ·simp [loL]
 done := fun s p => by
  unfold tabF
  dsimp only
  rcases s with _ | _ | _ | s
  ·simp [loL]
  ·simp [loL]
  ·simp [loL]
  ·simp [loL]
 len0 := rfl
 len1 := rfl
 left := fun p h => by rcases h with rfl | rfl <;> rfl
def txA (n : Nat) : List UInt8 := List.replicate n 97
def alA (j : Nat) : Al := if j = 0 then ⟨0, 0, 0, []⟩ else ⟨1, 0, j, [j - 1, j]⟩
theorem alA_til (j : Nat) : (alA j).til = j := by unfold alA; split <;> simp_all
theorem al_iff (n : Nat) (a : Al) : LA (tabF loG loL) (txA n) a ↔ a ∈ (List.range (n + 1)).map alA := by
 rw [List.mem_map]
 constructor
 ·intro h
  rcases h _ _ _ (long_closed lo_long n) with rfl | ⟨j, h1, rfl⟩
  ·exact ⟨0, by simp, by simp [alA]⟩
  ·exact ⟨j + 1, by simp; omega, by simp [alA]⟩
 ·rintro ⟨j, h1, rfl⟩
  have := (long_edges lo_long n j (by simp at h1; omega)).2.1
  exact this
theorem alA_nodup (n : Nat) : ((List.range n).map alA).Nodup := by
 rw [List.nodup_iff_pairwise_ne, List.pairwise_map]
 refine (List.nodup_iff_pairwise_ne.1 List.nodup_range).imp fun {a b} hne he => hne ?_
 rw [<- alA_til a, <- alA_til b, he]
def edA (n : Nat) : List (Nd × Nd) := (List.range (n + 1)).map (fun j => ((1, j), (0, 0))) ++ (List.range (n + 1)).map (fun j => ((2, j), (1, j - 1)))
theorem ed_in (n : Nat) (e : Nd × Nd) (h : LE (tabF loG loL) (txA n) e.1 e.2) : e ∈ edA n := by
 obtain ⟨⟨a, b⟩, c, d⟩ := e
 unfold edA
 rcases h _ _ _ (long_closed lo_long n) with ⟨h1, h2, h3⟩ | ⟨h1, h2, h3, h4⟩
 ·simp only at h1 h2 h3
  subst h1
  refine List.mem_append.2 (.inl (List.mem_map.2 ⟨b, by simp; omega, ?_⟩))
  rw [h3]
 ·simp only at h1 h2 h3 h4
  subst h1; subst h3
  refine List.mem_append.2 (.inr (List.mem_map.2 ⟨b, by simp; omega, ?_⟩))
  rw [h4, Nat.add_sub_cancel]
theorem edA_len (n : Nat) : (edA n).length = 2 * (n + 1) := by unfold edA; simp; omega
theorem lo_run (n B : Nat) (hB : 3 * n + 4 <= B) : ∃ r, goneF (tabF loG loL) (txA n) B = .ok r /\ r.alts.length = n + 1 /\ (∀ x ∈ r.nodes, x.2 <= n /\ x.1 < 3) /\ (1, n) ∈ r.nodes /\ B - r.left <= 3 * n + 4 := by
 cases hg : goneF (tabF loG loL) (txA n) B with
 | stop r =>
  obtain ⟨es, al_, h1, h2, h3, h4, h5⟩ := above hg
  have e1 := Tb.nodup_le es (edA n) h1 (fun e he => ed_in n e (h3 e he))
  have e2 := Tb.nodup_le al_ _ h2 (fun a ha => (al_iff n a).1 (h4 a ha))
  rw [edA_len] at e1
  rw [List.length_map, List.length_range] at e2
  omega
 | ok r =>
  obtain ⟨he, hs⟩ := ended hg
  have e1 := Tb.nodup_le r.edges (edA n) he.ed (fun e h => ed_in n e ((he.edges e.1 e.2).1 h))
  have e2 := Tb.nodup_le r.alts _ he.ad (fun a ha => (al_iff n a).1 ((he.alts a).1 ha))
  have e3 := Tb.nodup_le ((List.range (n + 1)).map alA) r.alts (alA_nodup _) (fun a ha => (he.alts a).2 ((al_iff n a).2 ha))
  rw [edA_len] at e1
  rw [List.length_map, List.length_range] at e2 e3
  unfold stepsF at hs
  refine ⟨r, rfl, by omega, fun x hx => ?_, ?_, by omega⟩
  ·rcases (he.nodes x).1 hx _ _ _ (long_closed lo_long n) with rfl | ⟨h1, h2⟩ | ⟨h1, h2⟩
   ·simp
   ·exact ⟨h2, by omega⟩
   ·exact ⟨h2, by omega⟩
  ·exact (he.nodes _).2 ((least_closed _ _).node _ _ (long_edges lo_long n n (Nat.le_refl _)).1)
end Go.Proofs.YthiochcpmfkgcaaGreatDoor.Gl
namespace Go.Proofs.YthiochcpmfkgcaaGreatDoor.Gl
open Go Go.RowKit Go.Proofs Go.Maps Go.WideMaps Mx Tb
theorem txA_len (n : Nat) : (txA n).length = n := by simp [txA]
theorem lo_syms (s p : Nat) (h : p ∈ (tabF loG loL).done s) : (tabF loG loL).len p <= 2 := by
 rcases (lo_long.done s p).1 h with ⟨_, rfl⟩ | ⟨_, rfl⟩
 ·rw [lo_long.len0]; omega
 ·rw [lo_long.len1]; omega
theorem lo_lim {n : Nat} (hn : n <= 5000) : Lim loG (txA n) 1099511627776 := by
 have hm := Tb.makeF_law lo_made
 have hk : n + 1 <= 5001 := by omega
 have hp : (n + 1) ^ 2 <= 5001 ^ 2 := Nat.pow_le_pow_left hk 2
 refine ⟨by decide, fun l hl hg h0 r hI x hx q hq => ?_, fun l hl hg h0 e => ?_⟩
 ·have he : l = loL := Option.some.inj (hl.symm.trans lo_made)
  subst he
  have hd := tab_dfa (gsets hg).1 hm
  have hxw : x.2 <= (txA n).length := (least_place _ _).1 x (hI.sn x hx)
  refine Nat.lt_of_le_of_lt (ways_all hd hm hI hx hq hxw) ?_
  rw [txA_len]
  have h3 : (n + 1) ^ (tabF loG loL).len q <= (n + 1) ^ 2 := Nat.pow_le_pow_right (by omega) (lo_syms _ _ hq)
  have h4 : loL.length * (n + 1) <= 3 * 5001 := Nat.mul_le_mul (Nat.le_refl _) hk
  exact Nat.lt_of_le_of_lt (Nat.mul_le_mul h4 (Nat.le_trans h3 hp)) (by decide)
 ·have he : l = loL := Option.some.inj (hl.symm.trans lo_made)
  subst he
  have hd := tab_dfa (gsets hg).1 hm
  have hsm : Small (tabF loG loL) (txA n) 2 2 (3 * (n + 1)) := ⟨fun s => done_few (gsets hg).1 hm s, lo_syms, fun ns h1 h2 => by
   have := nodes_few (tab_below hm) (txA n) ns h1 h2
   rwa [txA_len] at this⟩
  obtain ⟨r, hr, _, _, _, hst⟩ := lo_run n (1099511627776 : Int).toNat (by omega)
  refine Nat.lt_of_le_of_lt (goneF_tried hd _ hsm e) ?_
  rw [hr, txA_len]
  show (_ - r.left + (n + 1)) * _ + _ < _
  have h5 : (1099511627776 : Int).toNat - r.left + (n + 1) <= 20005 := by omega
  refine Nat.lt_of_le_of_lt (Nat.add_le_add (Nat.mul_le_mul h5 (Nat.mul_le_mul (Nat.mul_le_mul_left 3 hk) (Nat.mul_le_mul_left 2 hp))) (Nat.mul_le_mul hk (Nat.mul_le_mul_left 3 hk))) (by decide)
theorem lo_chk : chkN loG = 0 := by kernel_rfl
theorem lo_nextL : ∀ (L : List Nat) (acc : Nat), (∀ s ∈ L, s < 3) -> L.foldl (fun (a n : Nat) => a ||| nextF (edgesAt loL n)) acc = acc ||| (if 1 ∈ L then 2 ^ 97 else 0)
 | [], acc, _ => by simp
 | s :: t, acc, h => by
  rw [List.foldl_cons, lo_nextL t _ (fun x hx => h x (List.mem_cons_of_mem _ hx))]
  have hs := h s List.mem_cons_self
  have h0 : nextF (edgesAt loL 0) = 0 := by kernel_rfl
  have h1 : nextF (edgesAt loL 1) = 2 ^ 97 := by kernel_rfl
  have h2 : nextF (edgesAt loL 2) = 0 := by kernel_rfl
  obtain rfl | rfl | rfl : s = 0 ∨ s = 1 ∨ s = 2 := by omega
  ·rw [h0, Nat.or_zero]; congr 1; simp
  ·rw [h1, if_pos List.mem_cons_self]
   by_cases hc : 1 ∈ t
   ·rw [if_pos hc, Nat.or_assoc, Nat.or_self]
   ·rw [if_neg hc, Nat.or_zero]
  ·rw [h2, Nat.or_zero]; congr 1; simp
theorem lo_whole {n : Nat} (hn : n <= 4096) : ∃ r, wholeF loG (txA n) 1099511627776 = (0, some (loL, r)) /\ r.alts.length = n + 1 /\ farF r = n /\ rowF r n ≠ [] /\ nextL loL (rowF r n) = 2 ^ 97 := by
 obtain ⟨r, hr, h1, h2, h3, _⟩ := lo_run n (1099511627776 : Int).toNat (by omega)
 have hin : 1 ∈ rowF r n := rowF_mem.2 h3
 refine ⟨r, ?_, h1, ?_, (fun h => by rw [h] at hin; cases hin), ?_⟩
 ·unfold wholeF askF
  rw [if_pos lo_chk, if_neg (by rw [txA_len]; omega), lo_made]
  dsimp only
  rw [if_neg (by decide), hr]
 ·unfold farF
  have hne : r.nodes.map (·.2) ≠ [] := fun h => by
   have := List.mem_map_of_mem (f := (·.2)) h3
   rw [h] at this; cases this
  refine Nat.le_antisymm ?_ (maxN_le (List.mem_map.2 ⟨_, h3, rfl⟩))
  obtain ⟨x, hx, he⟩ := List.mem_map.1 (maxN_mem hne)
  rw [<- he]
  exact (h2 x hx).1
 ·unfold nextL
  rw [lo_nextL _ _ (fun s hs => (h2 _ (rowF_mem.1 hs)).2), if_pos hin, Nat.zero_or]
theorem lo_over {n : Nat} (hn : 4096 < n) : wholeF loG (txA n) 1099511627776 = (3, none) := by
 unfold wholeF askF
 rw [if_pos lo_chk, if_pos (by rw [txA_len]; exact hn)]
theorem lo_pre {n : Nat} (hn : n <= 4096) : preF loG (txA n) 1099511627776 = (2 ^ 97, true, 0) := by
 obtain ⟨r, h1, _, _, h2, h3⟩ := lo_whole hn
 unfold preF
 rw [h1]
 dsimp only
 rw [txA_len, if_neg h2, h3]
theorem lo_preo {n : Nat} (hn : 4096 < n) : preF loG (txA n) 1099511627776 = (0, false, 3) := by
 unfold preF
 rw [lo_over hn]
theorem lo_good : Tb.Good loG := by
 refine ⟨by decide, by decide, by decide, ?_, ?_, ?_⟩
 ·intro p hp
  simp only [loG, List.mem_cons, List.not_mem_nil, or_false] at hp
  rcases hp with rfl | rfl <;> exact ⟨by decide, by decide⟩
 ·intro p hp
  simp only [loG, List.mem_cons, List.not_mem_nil, or_false] at hp
  rcases hp with rfl | rfl <;> decide
 ·intro p hp s hs
  simp only [loG, List.mem_cons, List.not_mem_nil, or_false] at hp
  rcases hp with rfl | rfl
  ·simp at hs
  ·simp only [List.mem_cons, List.not_mem_nil, or_false] at hs
   rcases hs with rfl | rfl
   ·exact .inr ⟨rfl, rfl, by decide, by decide⟩
   ·exact .inl ⟨rfl, rfl, by decide +kernel, by decide +kernel⟩
theorem lo_ok : GrOk loG := by
 have hg := lo_good
 refine ⟨⟨by decide, by decide, by decide, by decide, by decide⟩, by decide, ?_⟩
 intro p hp
 refine ⟨hg.left p hp, hg.right p hp, ?_, ?_, ?_, ?_, ?_, ?_⟩
 all_goals (first | (intro s hs; rcases hg.sym p hp s hs with h | ⟨h1, h2, h3, h4⟩) | skip)
 all_goals (simp only [loG, List.mem_cons, List.not_mem_nil, or_false] at hp)
 ·rcases hp with rfl | rfl <;> decide
 ·rcases hp with rfl | rfl <;> decide
 ·rcases hp with rfl | rfl <;> decide
 ·rcases hp with rfl | rfl <;> exact .inl rfl
 ·rcases hp with rfl | rfl <;> exact .inl rfl
 ·exact .inl h
 ·refine .inr ⟨h1, h2, h3, h4, ?_⟩
  rcases hp with rfl | rfl <;> decide
theorem lo_grw {D : Nat -> Prop} {w : World} {sv pv : Value} {txt : List UInt8} (hs : SliceK D Tb.encS 1 w sv loG.sorts) (hp : ProdsAt D w pv loG.prods) (he : EnvG w) (ht : txt.length <= 100000) :
  GrW loG ⟨sv, pv, 0, .slice none 0 0, .slice none 0 0, .pointer none, txt⟩ w := by
 have hs2 : SliceK (fun _ => True) Tb.encS 1 w sv loG.sorts := hs.imp fun _ _ _ => trivial
 have hp2 : ProdsAt (fun _ => True) w pv loG.prods := hp.keep fun _ _ _ => ⟨trivial, rfl⟩
 refine ⟨rfl, hs2, hp2, ⟨_, _, _, rfl⟩, ⟨_, _, _, rfl⟩, fun _ => lo_good, he, fun W hW => ?_, ht⟩
 rw [lo_chk]
 exact check_none _ loG lo_ok W sv pv none none 0 0 (hs2.all hW) (hp2.keep fun b _ hl => ⟨trivial, hW.block b hl⟩)
theorem lo_left (l : List St) : (tabF loG l).left = (tabF loG []).left := rfl
end Go.Proofs.YthiochcpmfkgcaaGreatDoor.Gl
namespace Go.Proofs.YthiochcpmfkgcaaGreatDoor.Gl
open Go Go.RowKit Go.Proofs Mx Tb
def arrF (f : Nat -> Value) (n : Nat) : Array Value := ((List.range n).map f).toArray
theorem arrF_get (f : Nat -> Value) (n i : Nat) : (arrF f n)[i]? = if i < n then some (f i) else none := by
 unfold arrF
 simp only [List.getElem?_toArray, List.getElem?_map]
 split
 ·next h => rw [List.getElem?_range h]; rfl
 ·next h => rw [List.getElem?_eq_none (by simp; omega)]; rfl
theorem arrF_size (f : Nat -> Value) (n : Nat) : (arrF f n).size = n := by simp [arrF]
theorem arrF_ext {f h : Nat -> Value} {n : Nat} (e : ∀ i, i < n -> f i = h i) : arrF f n = arrF h n := by
 unfold arrF
 congr 1
 exact List.map_congr_left fun i hi => e i (by simpa using hi)
theorem arrF_set (f : Nat -> Value) (n i : Nat) (v : Value) : (arrF f n).setIfInBounds i v = arrF (fun j => if j = i then v else f j) n := by
 apply Array.ext_getElem?
 intro j
 rw [Array.getElem?_setIfInBounds, arrF_get, arrF_get, arrF_size]
 by_cases hj : j = i
 ·subst hj; split <;> simp
 ·rw [if_neg (fun h => hj h.symm), if_neg hj]
theorem arrF_const (z : Value) (hz : z.cells = #[z]) (n : Nat) : madeCells z.cells n = arrF (fun _ => z) n := by
 rw [hz]
 apply Array.ext_getElem?
 intro j
 rw [arrF_get]
 by_cases hj : j < n
 ·rw [if_pos hj]
  simp [madeCells, hj, Nat.mod_one]
 ·rw [if_neg hj]
  simp [madeCells, hj]
theorem make_arr (ts te : TypeId) (z : Value) (k : Nat) (hu : Tryz.prog.underlying ts = some (.slice te)) (hi : (Tryz.prog.info? te).map (fun i => (i.zero, i.size, i.bytes)) = some (some z, 1, k)) (hz : z.cells = #[z]) (hk : k <= 100) (n : Nat) (hn : n <= 1000000000) (w : World) : (Instr.makeSlice ts (.int .i64 (n : Int)) (.int .i64 (n : Int))).run Tryz.prog w = .ok (.slice (some ⟨w.heap.size, 0, none⟩) n n) (w.alloc (.cells (arrF (fun _ => z) n) te)) := by
 obtain ⟨i0, hi, hz0, hz1, hz2⟩ := info_parts hi
 have h := run_make (P := Tryz.prog) w ts te i0 _ hu hi hz0 .i64 .i64 (n : Int) (n : Int) (by omega) (by omega) (by rw [hz2, <- Int.natCast_mul]; have := Nat.mul_le_mul hk hn; omega) (by omega)
 rw [hz1, Int.toNat_natCast, Nat.mul_one, arrF_const _ hz] at h
 exact h
theorem infoByte1 : (Tryz.prog.info? 5).map (fun i => (i.zero, i.size, i.bytes)) = some (some (.int .u8 0), 1, 1) := by kernel_rfl
theorem make_bytes (n : Nat) (hn : n <= 1000000000) (w : World) : (Instr.makeSlice 55 (.int .i64 (n : Int)) (.int .i64 (n : Int))).run Tryz.prog w = .ok (.slice (some ⟨w.heap.size, 0, none⟩) n n) (w.alloc (.cells (arrF (fun _ => .int .u8 0) n) 5)) :=
 make_arr _ _ _ _ Tryz.underlying55 infoByte1 rfl (by decide) n hn w
def RowB (w : World) (g : Nat) (t : TypeId) (f : Nat -> Value) (n : Nat) : Prop := Blk w g t (arrF f n)
theorem RowB.cell {w : World} {g n : Nat} {t : TypeId} {f : Nat -> Value} (h : RowB w g t f n) {i : Nat} (hi : i < n) : w.cell? ⟨g, i, none⟩ = some (f i) := by
 have := Blk.cell h i
 rw [this, arrF_get, if_pos hi]
theorem RowB.set_ {w : World} {g n : Nat} {t : TypeId} {f : Nat -> Value} (h : RowB w g t f n) (i : Nat) (v : Value) : RowB (w.setCell ⟨g, i, none⟩ v) g t (fun j => if j = i then v else f j) n := by
 have := Blk.set_ h i v
 rw [arrF_set] at this
 exact this
theorem RowB.ext {w : World} {g n : Nat} {t : TypeId} {f f' : Nat -> Value} (h : RowB w g t f n) (e : ∀ i, i < n -> f i = f' i) : RowB w g t f' n := by
 unfold RowB at h ⊢
 rw [<- arrF_ext e]
 exact h
end Go.Proofs.YthiochcpmfkgcaaGreatDoor.Gl
