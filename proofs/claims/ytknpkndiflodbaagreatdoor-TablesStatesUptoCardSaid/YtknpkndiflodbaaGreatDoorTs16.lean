/- Walks and plain laws that the last text stands on: TbTellA, TbStand, TbAllI, TbEdge, TbMakeL, TbMakeA. -/
import Derived.Test.YtknpkndiflodbaaGreatDoorTs5
import Derived.Test.YtknpkndiflodbaaGreatDoorTs7
import Derived.Test.YtknpkndiflodbaaGreatDoorTs12
import Derived.Test.YtknpkndiflodbaaGreatDoorTs15
import Derived.OwnWalk
import Derived.Test.YtknpkndiflodbaaGreatDoorTs10
import Derived.Test.YtknpkndiflodbaaGreatDoorTs1
import Derived.Test.YtknpkndiflodbaaGreatDoorTs2
import Derived.Recover
import Derived.Defers
set_option linter.unusedVariables false
set_option linter.unusedSimpArgs false
set_option maxRecDepth 100000
set_option maxHeartbeats 16000000
namespace Go.Proofs.YtknpkndiflodbaaGreatDoor.Tb
open Go Go.RowKit Go.Proofs Go.Maps Mx
structure TabW (g : Gr) (B : Nat) (tb : Nat) (sm : List SM) (w : World) : Prop where
 blk : ∃ va, Blk w tb 99 #[va] /\ w.ownsRow B 104 7 va sm.length (flatK encSM sm)
 each : ∀ s ∈ sm, SMok g B w s
 many : sm.length <= 16384
def TabP (g : Gr) (B : Nat) (tv : Value) (sm : List SM) (w : World) : Prop := (tv = .pointer none /\ sm = []) ∨ ∃ tb, tv = .pointer (some ⟨tb, 0, none⟩) /\ TabW g B tb sm w
theorem SMok.below {g : Gr} {B : Nat} {w w' : World} {s : SM} (h : SMok g B w s) (hb : Below w.heap.size w w') : SMok g B w' s :=
 ⟨h.items.tyBelow hb, h.edges.tyBelow hb, h.done.tyBelow hb, h.ok, h.len⟩
theorem TabW.below {g : Gr} {B tb : Nat} {sm : List SM} {w w' : World} (h : TabW g B tb sm w) (hb : Below w.heap.size w w') : TabW g B tb sm w' := by
 obtain ⟨va, h1, h2⟩ := h.blk
 exact ⟨⟨va, h1.below hb h1.lt, row_below h2 hb⟩, fun s hs => (h.each s hs).below hb, h.many⟩
theorem TabP.below {g : Gr} {B : Nat} {tv : Value} {sm : List SM} {w w' : World} (h : TabP g B tv sm w) (hb : Below w.heap.size w w') : TabP g B tv sm w' := by
 rcases h with ⟨h1, h2⟩ | ⟨tb, h1, h2⟩
 ·exact .inl ⟨h1, h2⟩
 ·exact .inr ⟨tb, h1, h2.below hb⟩
theorem TabP.many {g : Gr} {B : Nat} {tv : Value} {sm : List SM} {w : World} (h : TabP g B tv sm w) : sm.length <= 16384 := by
 rcases h with ⟨_, rfl⟩ | ⟨tb, _, h⟩
 ·decide
 ·exact h.many
def noSM : SM := freshSM (.slice none 0 0) []
def stAt (sm : List SM) (n : Int) : SM := if 0 <= n then (sm[n.toNat]?).getD noSM else noSM
theorem stAt_in {sm : List SM} {n : Nat} {s : SM} (h : sm[n]? = some s) : stAt sm (n : Int) = s := by
 unfold stAt
 rw [if_pos (by omega), Int.toNat_natCast, h]; rfl
theorem stAt_out {sm : List SM} {n : Int} (h : n < 0 ∨ (sm.length : Int) <= n) : stAt sm n = noSM := by
 unfold stAt
 split
 ·rw [List.getElem?_eq_none (by omega)]; rfl
 ·rfl
theorem smok_none (g : Gr) (B : Nat) (w : World) : SMok g B w noSM := ⟨SliceK.nil, SliceK.nil, SliceK.nil, (fun x hx => by cases hx), by decide⟩
theorem TabP.at_ {g : Gr} {B : Nat} {tv : Value} {sm : List SM} {w : World} (h : TabP g B tv sm w) (n : Int) : SMok g B w (stAt sm n) := by
 rcases h with ⟨_, rfl⟩ | ⟨tb, _, h⟩
 ·unfold stAt
  split <;> exact smok_none g B w
 ·by_cases hn : 0 <= n /\ n.toNat < sm.length
  ·have : sm[n.toNat]? = some sm[n.toNat] := List.getElem?_eq_getElem hn.2
   unfold stAt
   rw [if_pos hn.1, this]
   exact h.each _ (List.getElem_mem hn.2)
  ·rw [stAt_out (by omega)]; exact smok_none g B w
def smV (s : SM) : Value := .agg #[s.vi, s.ve, .int .u64 (wd s.next 0), .int .u64 (wd s.next 1), .int .u64 (wd s.next 2), .int .u64 (wd s.next 3), s.vd]
theorem smV_none : smV noSM = .agg #[.slice none 0 0, .slice none 0 0, .int .u64 0, .int .u64 0, .int .u64 0, .int .u64 0, .slice none 0 0] := by simp [smV, noSM, freshSM, wd]
theorem at_any (g : Gr) (B : Nat) (tv : Value) (sm : List SM) (n : Int) (w : World) (h : TabP g B tv sm w) :
  Calls Tryz.prog 42 #[tv, .int .i64 n] w fun e w' => e = .returned (smV (stAt sm n)) /\ Below w.heap.size w w' := by
 have hmany := h.many
 rcases h with ⟨rfl, rfl⟩ | ⟨tb, rfl, h⟩
 ·rw [stAt_out (by simp; omega), smV_none]
  go_enter Tryz.func42, Tryz.ntmps42
  go_wp2_with fail
  exact bodyPost_ret (v := .agg #[.slice none 0 0, .slice none 0 0, .int .u64 0, .int .u64 0, .int .u64 0, .int .u64 0, .slice none 0 0]) (by simp [results, Tryz.results42, go_sem]) rfl ⟨rfl, (Below.refl _ _).alloc (Nat.le_refl _) _⟩
 ·obtain ⟨va, h1, h2⟩ := h.blk
  obtain ⟨a, c, rfl⟩ := own_shape h2
  have c0 := h1.cell 0
  have htb := h1.lt
  simp at c0
  by_cases hn0 : n < 0
  ·rw [stAt_out (.inl hn0), smV_none]
   have HX := Hd (An h1 (An h2 h.each))
   clear h1 h2 h
   go_enter Tryz.func42, Tryz.ntmps42
   go_wp2_with fail
   exact bodyPost_ret (v := .agg #[.slice none 0 0, .slice none 0 0, .int .u64 0, .int .u64 0, .int .u64 0, .int .u64 0, .slice none 0 0]) (by simp [results, Tryz.results42, go_sem]) rfl ⟨rfl, (Below.refl _ _).alloc (Nat.le_refl _) _⟩
  ·by_cases hn1 : (sm.length : Int) <= n
   ·rw [stAt_out (.inr hn1), smV_none]
    have HX := Hd (An h1 (An h2 h.each))
    clear h1 h2 h
    go_enter Tryz.func42, Tryz.ntmps42
    go_wp2_with fail
    exact bodyPost_ret (v := .agg #[.slice none 0 0, .slice none 0 0, .int .u64 0, .int .u64 0, .int .u64 0, .int .u64 0, .slice none 0 0]) (by simp [results, Tryz.results42, go_sem]) rfl ⟨rfl, (Below.refl _ _).alloc (Nat.le_refl _) _⟩
   ·obtain ⟨k, rfl⟩ : ∃ k : Nat, n = (k : Int) := ⟨n.toNat, by omega⟩
    have hk : k < sm.length := by omega
    obtain ⟨s, hs⟩ : ∃ s, sm[k]? = some s := ⟨_, List.getElem?_eq_getElem hk⟩
    rw [stAt_in hs]
    obtain ⟨ag, rfl⟩ : ∃ ag, a = some ⟨ag, 0, none⟩ := by
     rcases h2.2 with ⟨e, e2⟩ | ⟨ag, cap, cur, e, _⟩
     ·omega
     ·injection e with e; exact ⟨ag, e⟩
    have hc : ∀ j u, (encSM s)[j]? = some u -> w.cell? ⟨ag, k * 7 + j, none⟩ = some u := fun j u hu => by
     have := h2.cells (g := ag) rfl (k * 7 + j) u (flatK_get encSM_len sm k s j u hs hu)
     rw [addr_add, Nat.zero_add] at this
     exact this
    have f0 := hc 0 _ rfl
    have f1 := hc 1 _ rfl
    have f2 := hc 2 _ rfl
    have f3 := hc 3 _ rfl
    have f4 := hc 4 _ rfl
    have f5 := hc 5 _ rfl
    have f6 := hc 6 _ rfl
    simp only [Nat.add_zero] at f0
    have hag := (h2.lt ag rfl).2
    have hk1 : (k : Int) < (sm.length : Int) := by omega
    have hk0 : (0 : Int) <= (k : Int) := by omega
    have hok := h.each s (List.mem_of_getElem? hs)
    obtain ⟨ia, ic, e1, _⟩ := hok.items
    obtain ⟨ea, ec, e2, _⟩ := hok.edges
    obtain ⟨da, dc, e3, _⟩ := hok.done
    rw [e1] at f0
    rw [e2] at f1
    rw [e3] at f6
    unfold smV
    rw [e1, e2, e3]
    clear hok e1 e2 e3
    have HX := Hd (An h1 (An h2 (An h.each hs)))
    clear h1 h2 h hs hc
    go_enter Tryz.func42, Tryz.ntmps42
    go_wp2_with fail
    exact bodyPost_ret (v := .agg #[.slice ia s.items.length ic, .slice ea s.edges.length ec, .int .u64 (wd s.next 0), .int .u64 (wd s.next 1), .int .u64 (wd s.next 2), .int .u64 (wd s.next 3), .slice da s.done.length dc]) (by simp [results, Tryz.results42, go_sem]) rfl ⟨rfl, (Below.refl _ _).alloc (Nat.le_refl _) _⟩
end Go.Proofs.YtknpkndiflodbaaGreatDoor.Tb
namespace Go.Proofs.YtknpkndiflodbaaGreatDoor.Tb
open Go Go.RowKit Go.Proofs Go.Maps Mx
theorem field0 (v0 v1 v2 v3 v4 v5 v6 : Value) (w : World) : (Instr.field 104 (.agg #[v0, v1, v2, v3, v4, v5, v6]) 0).run Tryz.prog w = .ok v0 w := by kernel_rfl
theorem field1 (v0 v1 v2 v3 v4 v5 v6 : Value) (w : World) : (Instr.field 104 (.agg #[v0, v1, v2, v3, v4, v5, v6]) 1).run Tryz.prog w = .ok v1 w := by kernel_rfl
theorem field2 (v0 v1 v2 v3 v4 v5 v6 : Value) (w : World) : (Instr.field 104 (.agg #[v0, v1, v2, v3, v4, v5, v6]) 2).run Tryz.prog w = .ok (.agg #[v2, v3, v4, v5]) w := by kernel_rfl
theorem field3 (v0 v1 v2 v3 v4 v5 v6 : Value) (w : World) : (Instr.field 104 (.agg #[v0, v1, v2, v3, v4, v5, v6]) 3).run Tryz.prog w = .ok v6 w := by kernel_rfl
theorem states_any (g : Gr) (B : Nat) (tv : Value) (sm : List SM) (w : World) (h : TabP g B tv sm w) :
  Calls Tryz.prog 12 #[tv] w fun e w' => e = .returned (.int .i64 (sm.length : Int)) /\ w' = w := by
 rcases h with ⟨rfl, rfl⟩ | ⟨tb, rfl, h⟩
 ·go_enter Tryz.func12, Tryz.ntmps12
  go_wp2_with fail
  go_ret
  exact ⟨rfl, rfl⟩
 ·obtain ⟨va, h1, h2⟩ := h.blk
  obtain ⟨a, c, rfl⟩ := own_shape h2
  have c0 := h1.cell 0
  simp at c0
  clear h1 h2 h
  go_enter Tryz.func12, Tryz.ntmps12
  go_wp2_with fail
  go_ret
  exact ⟨rfl, rfl⟩
theorem start_any (tv : Value) (w : World) :
  Calls Tryz.prog 18 #[tv] w fun e w' => e = .returned (.int .i64 0) /\ w' = w := by
 go_enter Tryz.func18, Tryz.ntmps18
 go_wp2_with fail
 go_ret
 exact ⟨rfl, rfl⟩
theorem smV_shape {g : Gr} {B : Nat} {w : World} {s : SM} (h : SMok g B w s) : ∃ ia ic ea ec da dc, s.vi = .slice ia s.items.length ic /\ s.ve = .slice ea s.edges.length ec /\ s.vd = .slice da s.done.length dc := by
 obtain ⟨ia, ic, e1, _⟩ := h.items
 obtain ⟨ea, ec, e2, _⟩ := h.edges
 obtain ⟨da, dc, e3, _⟩ := h.done
 exact ⟨ia, ic, ea, ec, da, dc, e1, e2, e3⟩
theorem leads_any (g : Gr) (B : Nat) (tv : Value) (sm : List SM) (n : Int) (w : World) (h : TabP g B tv sm w) :
  Calls Tryz.prog 31 #[tv, .int .i64 n] w fun e w' => e = .returned (.int .i64 ((stAt sm n).edges.length : Int)) /\ Below w.heap.size w w' := by
 have hfl := field1
 have hat := at_any g B tv sm n w h
 obtain ⟨ia, ic, ea, ec, da, dc, e1, e2, e3⟩ := smV_shape (h.at_ n)
 unfold smV at hat
 rw [e1, e2, e3] at hat
 clear e1 e2 e3 h
 go_enter Tryz.func31, Tryz.ntmps31
 go_wp2_with fail
 refine hat.mono ?_
 rintro e w1 ⟨rfl, hb⟩
 have H := Hd hb
 clear hb hat
 go_wp2_with fail
 go_ret
 exact ⟨rfl, H.out⟩
theorem next_any (g : Gr) (B : Nat) (tv : Value) (sm : List SM) (n : Int) (w : World) (h : TabP g B tv sm w) :
  Calls Tryz.prog 25 #[tv, .int .i64 n] w fun e w' => e = .returned (setV (stAt sm n).next) /\ Below w.heap.size w w' := by
 have hat := fun W (hW : Below w.heap.size w W) => at_any g B tv sm n W (h.below hW)
 have hfl := field2
 obtain ⟨ia, ic, ea, ec, da, dc, e1, e2, e3⟩ := smV_shape (h.at_ n)
 unfold smV at hat
 rw [e1, e2, e3] at hat
 clear e1 e2 e3 h
 obtain ⟨M, hM⟩ : ∃ M, (stAt sm n).next = M := ⟨_, rfl⟩
 rw [hM] at hat ⊢
 clear hM
 have HA := Hd hat
 clear hat
 go_enter Tryz.func25, Tryz.ntmps25
 go_wp2_with fail
 have hB0 : Blk (w.alloc (.cells #[.int .u64 0, .int .u64 0, .int .u64 0, .int .u64 0] 26)) w.heap.size 26 (setC 0) := Blk.new_ rfl _ _
 have hb0 : Below w.heap.size w (w.alloc (.cells #[.int .u64 0, .int .u64 0, .int .u64 0, .int .u64 0] 26)) := (Below.refl _ _).alloc (Nat.le_refl _) _
 generalize (w.alloc (.cells #[.int .u64 0, .int .u64 0, .int .u64 0, .int .u64 0] 26)) = W1 at hB0 hb0 ⊢
 refine (HA.out W1 hb0).mono ?_
 rintro e w2 ⟨rfl, hb⟩
 have h1 := hB0.below hb hB0.lt
 have A := Hd (An h1 (hb0.trans (hb.mono hb0.size)))
 obtain ⟨f0, f1, f2, f3, ff⟩ := h1.facts4
 clear hb h1 hB0 hb0
 go_wp2_with fail
 have hbk := (((A.out.1.set_ 0 (.int .u64 (wd M 0))).set_ 1 (.int .u64 (wd M 1))).set_ 2 (.int .u64 (wd M 2))).set_ 3 (.int .u64 (wd M 3))
 refine bodyPost_ret (results_cell_row (by rfl) _ _ w.heap.size 26 _ (0, 0) _ (by rfl) hbk Tryz.underlying26 (by rfl) (by kernel_rfl)) rfl ?_
 refine ⟨rfl, (((A.out.2.setCell ?_ _).setCell ?_ _).setCell ?_ _).setCell ?_ _⟩ <;> simp
def toF (p : Sy -> Bool) (l : List (Sy × Nat)) : Int × Bool := match l.find? (fun e => p e.1) with | some e => ((e.2 : Int), true) | none => (0, false)
theorem toF_hit (p : Sy -> Bool) (l : List (Sy × Nat)) (i : Nat) (e : Sy × Nat) (h : l[i]? = some e) (hp : p e.1 = true) (hn : ∀ x ∈ l.take i, p x.1 = false) : toF p l = ((e.2 : Int), true) := by
 unfold toF
 have hi := (List.getElem?_eq_some_iff.1 h).1
 have e1 : l = l.take i ++ e :: l.drop (i + 1) := by
  have : l[i] = e := (List.getElem?_eq_some_iff.1 h).2
  rw [<- this]
  simp
 have e2 : List.find? (fun e => p e.1) (e :: l.drop (i + 1)) = some e := by rw [List.find?_cons]; simp [hp]
 rw [e1, List.find?_append, List.find?_eq_none.2 (fun x hx => by rw [hn x hx]; decide), e2]
 rfl
theorem toF_miss (p : Sy -> Bool) (l : List (Sy × Nat)) (hn : ∀ x ∈ l, p x.1 = false) : toF p l = (0, false) := by
 unfold toF
 rw [List.find?_eq_none.2 (fun x hx => by rw [hn x hx]; decide)]
theorem to_any (g : Gr) (B : Nat) (tv : Value) (sm : List SM) (n : Int) (K : FuncId) (cap : Value) (p : Sy -> Bool) (hen : ∀ (args : Array Value) (W : World), (callFunc K args).run Tryz.prog W = .ok (.enter K args) W) (w : World) (h : TabP g B tv sm w) (hlen : (stAt sm n).edges.length <= 1000000)
  (hby : ∀ s ∈ (stAt sm n).edges, ∀ W, Below w.heap.size w W -> Calls Tryz.prog K #[symV s.1, cap] W fun e W' => e = .returned (.bool (p s.1)) /\ Below W.heap.size W W') :
  Calls Tryz.prog 54 #[tv, .int .i64 n, .func (.func K) #[] #[cap]] w fun e w' => e = .returned (.tuple #[.int .i64 (toF p (stAt sm n).edges).1, .bool (toF p (stAt sm n).edges).2]) /\ Below w.heap.size w w' := by
 have hfl := field1
 have hat := at_any g B tv sm n w h
 have hok := h.at_ n
 obtain ⟨ia, ic, ea, ec, da, dc, e1, e2, e3⟩ := smV_shape hok
 have hed := hok.edges
 unfold smV at hat
 rw [e1, e2, e3] at hat
 rw [e2] at hed
 clear e1 e2 e3 h hok
 obtain ⟨E, hE⟩ : ∃ E, (stAt sm n).edges = E := ⟨_, rfl⟩
 rw [hE] at hat hed hlen hby ⊢
 clear hE
 obtain ⟨ea', ec', e4, hc1, hc2, hk⟩ := hed
 injection e4 with e5 e6 e7
 subst e5
 subst e7
 have HB := Hd (An hby hk)
 clear hby hk e6
 go_enter Tryz.func54, Tryz.ntmps54
 go_wp2_with fail
 refine hat.mono ?_
 rintro e w1 ⟨rfl, hb1⟩
 have H1 := Hd hb1
 clear hb1 hat
 go_wp2_with fail
 go_loopg [15] E.length (fun m v wr => ∃ i : Nat, i <= E.length /\ m = E.length - i /\ v = .int .i64 i /\ (∀ x ∈ E.take i, p x.1 = false) /\ Below w.heap.size w wr)
 case atStart => exact ⟨0, by omega, rfl, rfl, (fun x hx => by simp at hx), H1.out⟩
 case round =>
  obtain ⟨i, hi, hm, rfl, hno, hb⟩ := hrel
  by_cases hlt : i < E.length
  ·obtain ⟨⟨sy, q⟩, hx⟩ : ∃ x, E[i]? = some x := ⟨_, List.getElem?_eq_getElem hlt⟩
   obtain ⟨kg, ko, rfl, hkD, hkr⟩ := HB.out.2 (by rintro rfl; simp at hlt)
   have up : ∀ {i : Nat} {u : Value}, w.cell? ⟨kg, i, none⟩ = some u -> wr.cell? ⟨kg, i, none⟩ = some u := fun h => (World.cell?_of_block (hb.block kg hkr.lt)).trans h
   have c0 := up (hkr.cells i _ hx 0 _ rfl)
   have c1 := up (hkr.cells i _ hx 1 _ rfl)
   have c2 := up (hkr.cells i _ hx 2 _ rfl)
   have c3 := up (hkr.cells i _ hx 3 _ rfl)
   have c4 := up (hkr.cells i _ hx 4 _ rfl)
   have c5 := up (hkr.cells i _ hx 5 _ rfl)
   have c6 := up (hkr.cells i _ hx 6 _ rfl)
   simp only [Nat.add_zero] at c0
   have hi0 : (0 : Int) <= (i : Int) := by omega
   have hi1 : (i : Int) < (E.length : Int) := by omega
   have HR := Hd (An hm (An hno (An hb hx)))
   clear hm hno hb hx up hkr
   go_wp2_with fail
   have hP : Blk (wr.alloc (.cells #[.int .i64 sy.kind, .int .u64 (wd sy.set 0), .int .u64 (wd sy.set 1), .int .u64 (wd sy.set 2), .int .u64 (wd sy.set 3), .int .i64 sy.sort, .int .i64 (q : Int)] 125)) wr.heap.size 125 #[.int .i64 sy.kind, .int .u64 (wd sy.set 0), .int .u64 (wd sy.set 1), .int .u64 (wd sy.set 2), .int .u64 (wd sy.set 3), .int .i64 sy.sort, .int .i64 (q : Int)] := Blk.new _ _ _
   have hb3 : Below wr.heap.size wr (wr.alloc (.cells #[.int .i64 sy.kind, .int .u64 (wd sy.set 0), .int .u64 (wd sy.set 1), .int .u64 (wd sy.set 2), .int .u64 (wd sy.set 3), .int .i64 sy.sort, .int .i64 (q : Int)] 125)) := (Below.refl _ wr).alloc (Nat.le_refl _) _
   generalize (wr.alloc (.cells #[.int .i64 sy.kind, .int .u64 (wd sy.set 0), .int .u64 (wd sy.set 1), .int .u64 (wd sy.set 2), .int .u64 (wd sy.set 3), .int .i64 sy.sort, .int .i64 (q : Int)] 125)) = W3 at hP hb3 ⊢
   have hbb := HR.out.2.2.1.trans (hb3.mono HR.out.2.2.1.size)
   refine (HB.out.1 (sy, q) (List.mem_of_getElem? HR.out.2.2.2) W3 hbb).mono ?_
   rintro e w4 ⟨rfl, hb4⟩
   have hP4 := hP.below hb4 hP.lt
   have p6 := hP4.cell 6
   simp at p6
   have H4 := Hd (hbb.trans (hb4.mono hbb.size))
   clear hP hb3 hbb hb4 hP4 c0 c1 c2 c3 c4 c5 c6
   cases hp : p sy with
   | true =>
    have HP := Hd hp
    clear hp
    go_wp2_with fail
    go_ret2
    rw [toF_hit p E i (sy, q) HR.out.2.2.2 HP.out HR.out.2.1]
    exact ⟨rfl, H4.out⟩
   | false =>
    have HP := Hd hp
    clear hp
    go_wp2_with fail
    go_roundg (E.length - (i + 1))
    case measure => have := HR.out.1; omega
    case rel =>
     refine ⟨i + 1, by omega, rfl, rfl, ?_, H4.out⟩
     intro x hx
     rw [List.take_add_one, HR.out.2.2.2] at hx
     rcases List.mem_append.1 hx with hx | hx
     ·exact HR.out.2.1 x hx
     ·simp at hx; subst hx; exact HP.out
  ·obtain rfl : i = E.length := by omega
   rw [List.take_length] at hno
   have HR := Hd (An hno hb)
   clear hno hb hm
   go_wp2_with fail
   go_ret2
   rw [toF_miss p E HR.out.1]
   exact ⟨rfl, HR.out.2⟩
def isSort (s : Int) (x : Sy) : Bool := x.kind == 1 && x.sort == s
def hasByte (b : Nat) (x : Sy) : Bool := x.kind == 0 && x.set.testBit b
theorem goto_by (s : Int) (x : Sy) (b : Nat) (w : World) (h : w.cell? ⟨b, 0, none⟩ = some (.int .i64 s)) :
  Calls Tryz.prog 55 #[symV x, .pointer (some ⟨b, 0, none⟩)] w fun e w' => e = .returned (.bool (isSort s x)) /\ Below w.heap.size w w' := by
 have hbl := World.block_lt_of_cell? _ _ h
 simp at hbl
 unfold symV isSort
 by_cases hk : x.kind = 1
 ·have hk2 : (x.kind == 1) = true := by simpa using hk
  have HK := Hd hk2
  rw [hk]
  clear hk hk2
  go_enter Tryz.func55, Tryz.ntmps55
  go_wp2_with fail
  go_ret
  exact ⟨by simp, (Below.refl _ _).alloc (Nat.le_refl _) _⟩
 ·have hk2 : (x.kind == 1) = false := by simpa using hk
  clear hk
  go_enter Tryz.func55, Tryz.ntmps55
  go_wp2_with fail
  go_ret
  exact ⟨by simp [hk2], (Below.refl _ _).alloc (Nat.le_refl _) _⟩
theorem shift_by (c : Nat) (hc : c < 256) (x : Sy) (b : Nat) (w : World) (h : w.cell? ⟨b, 0, none⟩ = some (.int .u8 (c : Int))) :
  Calls Tryz.prog 57 #[symV x, .pointer (some ⟨b, 0, none⟩)] w fun e w' => e = .returned (.bool (hasByte c x)) /\ Below w.heap.size w w' := by
 have hbl := World.block_lt_of_cell? _ _ h
 simp at hbl
 have hhas := fun W => has_any x.set c hc W
 unfold setV at hhas
 unfold symV hasByte
 by_cases hk : x.kind = 0
 ·have hk2 : (x.kind == 0) = true := by simpa using hk
  have HK := Hd hk2
  rw [hk]
  clear hk hk2
  go_enter Tryz.func57, Tryz.ntmps57
  go_wp2_with fail
  refine (hhas _).mono ?_
  rintro e w2 ⟨rfl, hb2⟩
  have H2 := Hd (((Below.refl w.heap.size w).alloc (Nat.le_refl _) (.cells #[.int .i64 0, .int .u64 (wd x.set 0), .int .u64 (wd x.set 1), .int .u64 (wd x.set 2), .int .u64 (wd x.set 3), .int .i64 x.sort] 28)).trans (hb2.mono (by simp)))
  clear hb2
  go_wp2_with fail
  go_ret
  exact ⟨by simp, H2.out⟩
 ·have hk2 : (x.kind == 0) = false := by simpa using hk
  clear hk
  go_enter Tryz.func57, Tryz.ntmps57
  go_wp2_with fail
  go_ret
  exact ⟨by simp [hk2], (Below.refl _ _).alloc (Nat.le_refl _) _⟩
theorem goto_any (g : Gr) (B : Nat) (tv : Value) (sm : List SM) (n s : Int) (w : World) (h : TabP g B tv sm w) (hlen : (stAt sm n).edges.length <= 1000000) :
  Calls Tryz.prog 21 #[tv, .int .i64 n, .int .i64 s] w fun e w' => e = .returned (.tuple #[.int .i64 (toF (isSort s) (stAt sm n).edges).1, .bool (toF (isSort s) (stAt sm n).edges).2]) /\ Below w.heap.size w w' := by
 have hmf : ∀ (fn : Fn) (first cap : Array Value) (w : World), (Instr.makeFunc fn first cap).run Tryz.prog w = .ok (.func fn first cap) w := fun _ _ _ _ => rfl
 have hb0 : Below w.heap.size w (w.alloc (.cells #[.int .i64 s] 3)) := (Below.refl _ _).alloc (Nat.le_refl _) _
 have hB0 : Blk (w.alloc (.cells #[.int .i64 s] 3)) w.heap.size 3 #[.int .i64 s] := Blk.new _ _ _
 have hto := to_any g B tv sm n 55 (.pointer (some ⟨w.heap.size, 0, none⟩)) (isSort s) (fun _ _ => by kernel_rfl) _ (h.below hb0) hlen (fun x _ W hW => goto_by s x.1 w.heap.size W ((hB0.below hW hB0.lt).cell 0))
 have H0 := Hd hb0
 clear hb0 hB0 h
 go_enter Tryz.func21, Tryz.ntmps21
 go_wp2_with fail
 refine hto.mono ?_
 rintro e w2 ⟨rfl, hb2⟩
 have H2 := Hd (H0.out.trans (hb2.mono H0.out.size))
 clear hb2 hto
 go_wp2_with fail
 go_ret2
 exact ⟨rfl, H2.out⟩
theorem shift_any (g : Gr) (B : Nat) (tv : Value) (sm : List SM) (n : Int) (c : Nat) (hc : c < 256) (w : World) (h : TabP g B tv sm w) (hlen : (stAt sm n).edges.length <= 1000000) :
  Calls Tryz.prog 24 #[tv, .int .i64 n, .int .u8 (c : Int)] w fun e w' => e = .returned (.tuple #[.int .i64 (toF (hasByte c) (stAt sm n).edges).1, .bool (toF (hasByte c) (stAt sm n).edges).2]) /\ Below w.heap.size w w' := by
 have hmf : ∀ (fn : Fn) (first cap : Array Value) (w : World), (Instr.makeFunc fn first cap).run Tryz.prog w = .ok (.func fn first cap) w := fun _ _ _ _ => rfl
 have hb0 : Below w.heap.size w (w.alloc (.cells #[.int .u8 (c : Int)] 5)) := (Below.refl _ _).alloc (Nat.le_refl _) _
 have hB0 : Blk (w.alloc (.cells #[.int .u8 (c : Int)] 5)) w.heap.size 5 #[.int .u8 (c : Int)] := Blk.new _ _ _
 have hto := to_any g B tv sm n 57 (.pointer (some ⟨w.heap.size, 0, none⟩)) (hasByte c) (fun _ _ => by kernel_rfl) _ (h.below hb0) hlen (fun x _ W hW => shift_by c hc x.1 w.heap.size W ((hB0.below hW hB0.lt).cell 0))
 have H0 := Hd hb0
 clear hb0 hB0 h
 go_enter Tryz.func24, Tryz.ntmps24
 go_wp2_with fail
 refine hto.mono ?_
 rintro e w2 ⟨rfl, hb2⟩
 have H2 := Hd (H0.out.trans (hb2.mono H0.out.size))
 clear hb2 hto
 go_wp2_with fail
 go_ret2
 exact ⟨rfl, H2.out⟩
end Go.Proofs.YtknpkndiflodbaaGreatDoor.Tb
namespace Go.Proofs.YtknpkndiflodbaaGreatDoor.Tb
open Go Go.RowKit Go.Proofs Mx
theorem own_lower {w : World} {B B' : Nat} {e : TypeId} {z n : Nat} {v : Value} {xs : List Value} (h : w.ownsRow B e z v n xs) (hB : B' <= B) : w.ownsRow B' e z v n xs := by
 refine ⟨h.1, ?_⟩
 rcases h.2 with h2 | ⟨g, cap, cur, e1, hg, h3⟩
 ·exact .inl h2
 ·exact .inr ⟨g, cap, cur, e1, Nat.le_trans hB hg, h3⟩
theorem flat_oneN : ∀ (l : List Nat), ∀ u ∈ flatK encN l, u.oneCell' = true
 | [], u, hu => by simp [flatK] at hu
 | x :: l, u, hu => by
  rw [flatK_cons] at hu
  rcases List.mem_append.1 hu with h | h
  ·simp [encN] at h; subst h; rfl
  ·exact flat_oneN l u h
theorem clone_int (D : Nat -> Prop) (l : List Nat) (v : Value) (w : World) (h : SliceK D encN 1 w v l) (hn : l.length <= 1000000000000) :
  Calls Tryz.prog 56 #[v] w fun e w' => ∃ v', e = .returned v' /\ w'.ownsRow w.heap.size 3 1 v' l.length (flatK encN l) /\ Below w.heap.size w w' := by
 obtain ⟨a, cap, rfl, hc1, hc2, hK⟩ := h
 obtain ⟨i0, hi, hz0, hz1, hz2⟩ := info_parts infoInt
 have q50 : ∀ (w : World) (a : Option Addr) (n c n' c' : Nat), (binOp .eql 68 (.slice a n c) (.slice none n' c')).run Tryz.prog w = .ok (.bool a.isNone) w := fun w a n c n' c' => Lib.run_eql_slice_nil w _ _ a n c n' c' Tryz.underlying68
 cases a with
 | none =>
  have hl : l = [] := by
   apply Classical.byContradiction
   intro hl
   obtain ⟨g, o, e, _⟩ := hK hl
   cases e
  subst hl
  clear hK
  go_enter Tryz.func56, Tryz.ntmps56
  go_wp2
  go_ret
  exact ⟨_, rfl, World.ownsRow_nil _ _ _ _, Below.refl _ _⟩
 | some ad =>
  have hcell : ∀ j u, (flatK encN l)[j]? = some u -> w.cell? (ad.add j) = some u := by
   intro j u hu
   have hl : l ≠ [] := by rintro rfl; simp [flatK] at hu
   obtain ⟨g, o, e, _, hr⟩ := hK hl
   have e := Option.some.inj e
   subst e
   obtain ⟨x, hx, hxu⟩ := flatK_cell encN_len (by decide) l j u hu
   have := hr.cells _ x hx _ u hxu
   rw [show o + j / 1 * 1 + j % 1 = o + j by omega] at this
   rw [addr_add]
   exact this
  have A := Hd hcell
  clear hK hcell
  go_enter Tryz.func56, Tryz.ntmps56
  go_wp2_with (at_builtin; refine wpList_append_own _ rfl _ _ 68 rfl w.heap.size 3 i0 (.int .i64 0) 1 8 Tryz.underlying68 hi hz0 hz1 hz2 rfl (by decide) _ _ _ rfl (World.ownsRow_made w #[] 0 (Nat.le_refl _) (Nat.zero_le _) (by simp)) ad l.length cap (flatK encN l) rfl ?c0 ?c1 ?c2 ?c3 ?c4 ?c5 ?_)
  case c0 => exact flatK_len encN_len l
  case c1 =>
   intro j u hj
   exact cell_alloc_ (A.out j u hj) _
  case c2 => exact flat_oneN l
  case c3 => have := hc1; have := hc2; omega
  case c4 => omega
  case c5 => simp
  intro v' w1 hown hg _
  have H := Hd (An hown hg)
  clear hown hg
  go_wp2_with fail
  go_ret
  have h1 := H.out.1
  first | rw [Nat.zero_add, List.nil_append] at h1 | skip
  refine ⟨_, rfl, h1, ?_⟩
  exact ((Below.refl _ w).alloc (Nat.le_refl _) _).grown H.out.2 (by simp) (fun b hb => by simp [Value.ownBlock] at hb; omega)
theorem reduces_any (g : Gr) (B : Nat) (tv : Value) (sm : List SM) (n : Int) (w : World) (h : TabP g B tv sm w) (hlen : (stAt sm n).done.length <= 1000000) :
  Calls Tryz.prog 22 #[tv, .int .i64 n] w fun e w' => ∃ v', e = .returned v' /\ w'.ownsRow w.heap.size 3 1 v' (stAt sm n).done.length (flatK encN (stAt sm n).done) /\ Below w.heap.size w w' := by
 have hfl := field3
 have hat := at_any g B tv sm n w h
 have hok := h.at_ n
 obtain ⟨ia, ic, ea, ec, da, dc, e1, e2, e3⟩ := smV_shape hok
 have hed := hok.done
 unfold smV at hat
 rw [e1, e2, e3] at hat
 rw [e3] at hed
 clear e1 e2 e3 h hok
 obtain ⟨E, hE⟩ : ∃ E, (stAt sm n).done = E := ⟨_, rfl⟩
 rw [hE] at hat hed hlen ⊢
 clear hE
 have HE := Hd hed
 clear hed
 go_enter Tryz.func22, Tryz.ntmps22
 go_wp2_with fail
 refine hat.mono ?_
 rintro e w1 ⟨rfl, hb1⟩
 have H1 := Hd hb1
 clear hb1 hat
 go_wp2_with fail
 refine (clone_int _ E _ w1 (HE.out.tyBelow H1.out) (by omega)).mono ?_
 rintro e w2 ⟨v', rfl, hown, hb2⟩
 have H2 := Hd (An (own_lower hown H1.out.size) (H1.out.trans (hb2.mono H1.out.size)))
 clear hown hb2
 go_wp2_with fail
 go_ret
 exact ⟨_, rfl, H2.out.1, H2.out.2⟩
theorem items_any (g : Gr) (B : Nat) (tv : Value) (sm : List SM) (n : Int) (w : World) (h : TabP g B tv sm w) :
  Calls Tryz.prog 15 #[tv, .int .i64 n] w fun e w' => ∃ v', e = .returned v' /\ w'.ownsRow w.heap.size 53 2 v' (stAt sm n).items.length (flatK encIt (stAt sm n).items) /\ Below w.heap.size w w' := by
 have hfl := field0
 have hat := at_any g B tv sm n w h
 have hok := h.at_ n
 have hlen := hok.len
 obtain ⟨ia, ic, ea, ec, da, dc, e1, e2, e3⟩ := smV_shape hok
 have hed := hok.items
 unfold smV at hat
 rw [e1, e2, e3] at hat
 rw [e1] at hed
 clear e1 e2 e3 h hok
 obtain ⟨E, hE⟩ : ∃ E, (stAt sm n).items = E := ⟨_, rfl⟩
 rw [hE] at hat hed hlen ⊢
 clear hE
 have HE := Hd hed
 clear hed
 go_enter Tryz.func15, Tryz.ntmps15
 go_wp2_with fail
 refine hat.mono ?_
 rintro e w1 ⟨rfl, hb1⟩
 have H1 := Hd hb1
 clear hb1 hat
 go_wp2_with fail
 refine (clone_any _ E _ w1 (HE.out.tyBelow H1.out) (by omega)).mono ?_
 rintro e w2 ⟨v', rfl, hown, hb2⟩
 have H2 := Hd (An (own_lower hown H1.out.size) (H1.out.trans (hb2.mono H1.out.size)))
 clear hown hb2
 go_wp2_with fail
 go_ret
 exact ⟨_, rfl, H2.out.1, H2.out.2⟩
theorem tall_any (g : Gr) (B : Nat) (tv : Value) (sm : List SM) (n : Int) (w : World) (h : TabP g B tv sm w) :
  Calls Tryz.prog 32 #[tv, .int .i64 n] w fun e w' => ∃ b, e = .returned (.func (.func 61) #[] #[.pointer (some ⟨b, 0, none⟩)]) /\ Blk w' b 102 #[(stAt sm n).ve] /\ w.heap.size <= b /\ Below w.heap.size w w' := by
 have hmf : ∀ (fn : Fn) (first cap : Array Value) (w : World), (Instr.makeFunc fn first cap).run Tryz.prog w = .ok (.func fn first cap) w := fun _ _ _ _ => rfl
 have hfl := field1
 have hat := at_any g B tv sm n w h
 have hok := h.at_ n
 obtain ⟨ia, ic, ea, ec, da, dc, e1, e2, e3⟩ := smV_shape hok
 unfold smV at hat
 rw [e1, e2, e3] at hat
 rw [e2]
 clear e1 e2 e3 h hok
 go_enter Tryz.func32, Tryz.ntmps32
 go_wp2_with fail
 refine hat.mono ?_
 rintro e w1 ⟨rfl, hb1⟩
 have H1 := Hd hb1
 clear hb1 hat
 go_wp2_with fail
 go_ret
 exact ⟨_, rfl, Blk.new _ _ _, H1.out.size, H1.out.alloc H1.out.size _⟩
end Go.Proofs.YtknpkndiflodbaaGreatDoor.Tb
namespace Go.Proofs.YtknpkndiflodbaaGreatDoor.Tb
open Go Go.RowKit Go.Proofs Go.Maps Mx
def eK (L : List (Sy × Nat)) (k : Nat) : Sy × Nat := L.getD k (⟨0, 0, 0⟩, 0)
def encY (q : Sy × Nat) : Array Value := #[.agg #[.int .i64 q.1.kind, .int .u64 (wd q.1.set 0), .int .u64 (wd q.1.set 1), .int .u64 (wd q.1.set 2), .int .u64 (wd q.1.set 3), .int .i64 q.1.sort], .int .i64 (q.2 : Int)]
theorem all_iter (D : Nat -> Prop) (l : List (Sy × Nat)) (v : Value) (n : Nat) (hn : 1 <= n) (w : World) (hv : SliceK D encEd 7 w v l) (b1 : Nat) (hb1 : Blk w b1 102 #[v]) (hD1 : D b1) :
  SeqO Fence.wide n Tryz.prog 61 #[.pointer (some ⟨b1, 0, none⟩)] (fun k => encY (eK l k)) (KeepD D) l.length w := by
 intro lp J Jx W hW' hJ hJx hY h0
 obtain ⟨va, vc, rfl, hc1, hc2, hk⟩ := hv
 have hmx : l.length <= 9223372036854775807 := by unfold maxLen at hc2; omega
 have hK0 : KeepD D w W := KeepD.below hW'
 have hWs : W.heap.size <= W.heap.size := Nat.le_refl _
 have hB1 := hb1.below hW' hb1.lt
 have x1 := hB1.cell 0
 have hro : Fence.wide.round = none := rfl
 have HC := Hd (An hk hK0)
 clear hk hK0 hW' hB1
 refine callsIn_of_wp Tryz.func61 rfl trivial ?_ hro
 simp only [Tryz.ntmps61, List.size_toArray, List.length_cons, List.length_nil, Nat.reduceAdd, Nat.reduceSub, Array.replicate_succ, Array.replicate_zero, List.push_toArray, List.append_toArray, List.nil_append, List.cons_append]
 simp at x1
 gi_wp2
 gi_loopw [7] (fun i wr => ∃ k : Nat, k <= l.length /\ i = .int .i64 k /\ J k wr /\ KeepD D w wr) (fun i _ => l.length - (intOf i).toNat)
 case atStart => exact ⟨0, Nat.zero_le _, rfl, h0, HC.out.2⟩
 case round =>
  obtain ⟨i, hi, rfl, hJi, hKi⟩ := hrel
  clear h0 x1
  by_cases hlt : i < l.length
  ·obtain ⟨⟨s, t⟩, hx⟩ : ∃ x, l[i]? = some x := ⟨_, List.getElem?_eq_getElem hlt⟩
   obtain ⟨kg, ko, rfl, hkD, hkr⟩ := HC.out.1 (by rintro rfl; simp at hlt)
   have k0 := hkr.cells i _ hx 0 _ rfl
   have k1 := hkr.cells i _ hx 1 _ rfl
   have k2 := hkr.cells i _ hx 2 _ rfl
   have k3 := hkr.cells i _ hx 3 _ rfl
   have k4 := hkr.cells i _ hx 4 _ rfl
   have k5 := hkr.cells i _ hx 5 _ rfl
   have k6 := hkr.cells i _ hx 6 _ rfl
   simp only [Nat.add_zero] at k0
   have k0 := (hKi.cell hkD hkr.lt).trans k0
   have k1 := (hKi.cell hkD hkr.lt).trans k1
   have k2 := (hKi.cell hkD hkr.lt).trans k2
   have k3 := (hKi.cell hkD hkr.lt).trans k3
   have k4 := (hKi.cell hkD hkr.lt).trans k4
   have k5 := (hKi.cell hkD hkr.lt).trans k5
   have k6 := (hKi.cell hkD hkr.lt).trans k6
   have hak : eK l i = (s, t) := by unfold eK; simp [List.getD, hx]
   have hlt1 : (i : Int) < (l.length : Int) := by omega
   have hi0 : (0 : Int) <= (i : Int) := by omega
   have hbW : Below wr.heap.size wr (wr.alloc (.cells #[.int .i64 s.kind, .int .u64 (wd s.set 0), .int .u64 (wd s.set 1), .int .u64 (wd s.set 2), .int .u64 (wd s.set 3), .int .i64 s.sort, .int .i64 (t : Int)] 125)) := (Below.refl _ wr).alloc (Nat.le_refl _) _
   have hJ2 := abides_below hJ hJi hbW
   have hyk := hY _ _ hJ2 hlt
   rw [hak] at hyk
   unfold encY at hyk
   simp only at hyk
   obtain ⟨fn, tmps, assign, body, hyr, hR⟩ := hyk
   have HX := Hd (An hKi hbW)
   clear hJi hKi hkr hbW hJ2 hx hak
   gi_wp2
   refine hR.mono ?_
   rintro e W' h
   obtain ⟨b, rfl, hb⟩ := yield_bool h
   clear hR hyr
   cases b
   ·gi_wp2
    refine bodyPost_ret (results_none rfl _ _ _) rfl ?_
    exact ⟨⟨_, rfl⟩, .inr ⟨i + 1, by omega, hb.out.2 (by trivial)⟩⟩
   ·gi_wp2
    have hnn := hb.out.1 (by trivial)
    go_roundw
    case rel => exact ⟨i + 1, by omega, rfl, hnn.1, (HX.out.1.trans (KeepD.below HX.out.2)).trans hnn.2⟩
    case measure => simp [intOf]; omega
  ·obtain rfl : i = l.length := by omega
   have HJ := Hd hJi
   clear hJi hKi
   gi_wp2
   refine bodyPost_end (results_none rfl _ _ _) rfl ?_
   exact ⟨⟨_, rfl⟩, .inl HJ.out⟩
theorem edge_eql (b : Nat) (w : World) : (binOp .eql 84 (.func (.func 61) #[] #[.pointer (some ⟨b, 0, none⟩)]) .nilFunc).run Tryz.prog w = .ok (.bool false) w := by kernel_rfl
attribute [local go_sem] Oper.semAt_some
end Go.Proofs.YtknpkndiflodbaaGreatDoor.Tb
namespace Go.Proofs.YtknpkndiflodbaaGreatDoor.Tb
theorem numberF_at {all all' : List (List It)} {l : List It} {n : Nat} (h : numberF all l = some (n, all')) : all'[n]? = some l /\ (all' = all ∨ n = all.length /\ all' = all ++ [l]) := by
 unfold numberF at h
 cases hf : all.findIdx? (· == l) with
 | some k =>
  rw [hf] at h
  simp at h
  obtain ⟨rfl, rfl⟩ := h
  obtain ⟨hk, hp, _⟩ := List.findIdx?_eq_some_iff_getElem.1 hf
  refine ⟨?_, .inl rfl⟩
  rw [List.getElem?_eq_getElem hk]
  have : all[k] = l := by simpa using hp
  rw [this]
 | none =>
  rw [hf] at h
  dsimp only at h
  split at h
  ·cases h
  ·injection h with h
   injection h with h1 h2
   subst h1; subst h2
   exact ⟨by simp, .inr ⟨rfl, rfl⟩⟩
theorem numbersF_at : ∀ (L : List (Sy × List It)) (all all' : List (List It)) (e : List (Sy × Nat)), numbersF all L = some (e, all') ->
  e.length = L.length /\ (∀ (k : Nat) (sy : Sy) (K : List It), L[k]? = some (sy, K) -> ∃ n, e[k]? = some (sy, n) /\ all'[n]? = some K) /\ (∃ t, all' = all ++ t) /\ ∀ j, all.length <= j -> j < all'.length -> ∃ x ∈ e, x.2 = j
 | [], all, all', e, h => by
  simp [numbersF] at h
  obtain ⟨rfl, rfl⟩ := h
  exact ⟨rfl, (fun k sy K hk => by simp at hk), ⟨[], by simp⟩, fun j h1 h2 => by omega⟩
 | (s, l) :: L, all, all', e, h => by
  rw [numbersF] at h
  cases h1 : numberF all l with
  | none => rw [h1] at h; cases h
  | some r =>
   obtain ⟨n, a1⟩ := r
   rw [h1] at h
   dsimp only at h
   cases h2 : numbersF a1 L with
   | none => rw [h2] at h; cases h
   | some r =>
    obtain ⟨e2, a2⟩ := r
    rw [h2] at h
    simp at h
    obtain ⟨rfl, rfl⟩ := h
    obtain ⟨p1, p2⟩ := numberF_at h1
    obtain ⟨q1, q2, ⟨t, q3⟩, q4⟩ := numbersF_at L a1 a2 e2 h2
    have hlt : n < a1.length := (List.getElem?_eq_some_iff.1 p1).1
    refine ⟨by simp [q1], ?_, ?_, ?_⟩
    ·intro k sy K hk
     cases k with
     | zero =>
      simp at hk
      obtain ⟨rfl, rfl⟩ := hk
      refine ⟨n, by simp, ?_⟩
      rw [q3, List.getElem?_append_left hlt]; exact p1
     | succ k =>
      simp at hk
      obtain ⟨m, h3, h4⟩ := q2 k sy K hk
      exact ⟨m, by simpa using h3, h4⟩
    ·rcases p2 with rfl | ⟨_, rfl⟩
     ·exact ⟨t, q3⟩
     ·exact ⟨l :: t, by rw [q3]; simp⟩
    ·intro j h3 h4
     rcases p2 with rfl | ⟨rfl, rfl⟩
     ·obtain ⟨x, hx, hj⟩ := q4 j h3 h4
      exact ⟨x, by simp [hx], hj⟩
     ·by_cases hj : j = all.length
      ·exact ⟨(s, all.length), by simp, hj.symm⟩
      ·obtain ⟨x, hx, hj⟩ := q4 j (by simp; omega) h4
       exact ⟨x, by simp [hx], hj⟩
structure StLaw (g : Gr) (fin : List (List It)) (s : St) : Prop where
 done : s.done = doneF g s.items
 len : s.edges.length = (leadsF g s.items).length
 edge : ∀ (k : Nat) (sy : Sy) (K : List It), (leadsF g s.items)[k]? = some (sy, K) -> ∃ m, s.edges[k]? = some (sy, m) /\ fin[m]? = some K
theorem statesGo_law (g : Gr) : ∀ (f n : Nat) (all : List (List It)) (l : List St), statesGo g f n all = some l -> all.Nodup -> all.length <= 16384 -> n <= all.length -> 16384 < f + n ->
  ∃ fin : List (List It), (∃ t, fin = all ++ t) /\ fin.Nodup /\ l.map (·.items) = fin.drop n /\ (∀ s ∈ l, StLaw g fin s) /\ ∀ j, all.length <= j -> j < fin.length -> ∃ (i : Nat) (s : St), n + i < j /\ l[i]? = some s /\ ∃ e ∈ s.edges, e.2 = j
 | 0, n, all, l, h, hn, hl, hle, hf => by omega
 | f + 1, n, all, l, h, hn, hl, hle, hf => by
  rw [statesGo] at h
  cases hx : all[n]? with
  | none =>
   rw [hx] at h
   simp at h
   subst h
   have : all.length <= n := List.getElem?_eq_none_iff.1 hx
   exact ⟨all, ⟨[], by simp⟩, hn, by simp [List.drop_eq_nil_of_le this], (fun s hs => by cases hs), fun j h1 h2 => by omega⟩
  | some y =>
   rw [hx] at h
   dsimp only at h
   have hlt : n < all.length := (List.getElem?_eq_some_iff.1 hx).1
   cases h1 : numbersF all (leadsF g y) with
   | none => rw [h1] at h; cases h
   | some r =>
    obtain ⟨e, a1⟩ := r
    rw [h1] at h
    dsimp only at h
    obtain ⟨n1, l1, _, _, _⟩ := numbersF_some _ _ _ _ h1 hn hl
    obtain ⟨p1, p2, ⟨t1, p3⟩, p4⟩ := numbersF_at _ _ _ _ h1
    cases h2 : statesGo g f (n + 1) a1 with
    | none => rw [h2] at h; cases h
    | some r =>
     rw [h2] at h
     simp at h
     subst h
     obtain ⟨fin, ⟨t2, f1⟩, f2, f3, f4, f5⟩ := statesGo_law g f (n + 1) a1 r h2 n1 l1 (by rw [p3]; simp; omega) (by omega)
     have hfx : fin[n]? = some y := by rw [f1, p3, List.append_assoc, List.getElem?_append_left hlt]; exact hx
     have hfl : n < fin.length := (List.getElem?_eq_some_iff.1 hfx).1
     refine ⟨fin, ⟨t1 ++ t2, by rw [f1, p3, List.append_assoc]⟩, f2, ?_, ?_, ?_⟩
     ·rw [List.map_cons, f3, List.drop_eq_getElem_cons hfl]
      congr 1
      rw [List.getElem?_eq_getElem hfl] at hfx
      injection hfx with hfx
      exact hfx.symm
     ·intro s hs
      rcases List.mem_cons.1 hs with rfl | hs
      ·refine ⟨rfl, p1, fun k sy K hk => ?_⟩
       obtain ⟨m, q1, q2⟩ := p2 k sy K hk
       refine ⟨m, q1, ?_⟩
       rw [f1, List.getElem?_append_left (List.getElem?_eq_some_iff.1 q2).1]; exact q2
      ·exact f4 s hs
     ·intro j hj1 hj2
      by_cases hj : j < a1.length
      ·obtain ⟨x, hx1, hx2⟩ := p4 j hj1 hj
       exact ⟨0, _, by omega, rfl, x, hx1, hx2⟩
      ·obtain ⟨i, s, q1, q2, q3⟩ := f5 j (by omega) hj2
       exact ⟨i + 1, s, by omega, by simpa using q2, q3⟩
structure MadeLaw (g : Gr) (l : List St) : Prop where
 nodup : (l.map (·.items)).Nodup
 start : ∃ s, l[0]? = some s /\ s.items = closedF g ((ofS g g.start).map (·, 0))
 state : ∀ s ∈ l, StLaw g (l.map (·.items)) s
 led : ∀ j, 1 <= j -> j < l.length -> ∃ (i : Nat) (s : St), i < j /\ l[i]? = some s /\ ∃ e ∈ s.edges, e.2 = j
theorem makeF_law {g : Gr} {l : List St} (h : makeF g = some l) : MadeLaw g l := by
 unfold makeF at h
 obtain ⟨fin, ⟨t, f1⟩, f2, f3, f4, f5⟩ := statesGo_law g 16385 0 _ l h (by simp) (by simp) (Nat.zero_le _) (by decide)
 rw [List.drop_zero] at f3
 subst f3
 have hlen : (l.map (·.items)).length = l.length := by simp
 refine ⟨f2, ?_, f4, ?_⟩
 ·have h0 : (l.map (·.items))[0]? = some (closedF g ((ofS g g.start).map (·, 0))) := by rw [f1]; simp
  rw [List.getElem?_map] at h0
  cases hs : l[0]? with
  | none => rw [hs] at h0; cases h0
  | some s => rw [hs] at h0; simp at h0; exact ⟨s, rfl, h0⟩
 ·intro j h1 h2
  obtain ⟨i, s, q1, q2, q3⟩ := f5 j (by simpa using h1) (by rw [hlen]; exact h2)
  exact ⟨i, s, by omega, q2, q3⟩
end Go.Proofs.YtknpkndiflodbaaGreatDoor.Tb
namespace Go.Proofs.YtknpkndiflodbaaGreatDoor.Tb
open Go Go.RowKit Go.Proofs Mx
def toSt (s : SM) : St := ⟨s.items, s.edges, s.done⟩
theorem numberF_prefix {all all' : List (List It)} {l : List It} {n : Nat} (h : numberF all l = some (n, all')) : ∃ t, all' = all ++ t := by
 unfold numberF at h
 split at h
 ·simp at h; exact ⟨[], by simp [h.2]⟩
 ·split at h
  ·cases h
  ·simp at h; exact ⟨[l], h.2.symm⟩
theorem numbersF_prefix : ∀ (L : List (Sy × List It)) (all all' : List (List It)) (e : List (Sy × Nat)), numbersF all L = some (e, all') -> ∃ t, all' = all ++ t
 | [], all, all', e, h => by simp [numbersF] at h; exact ⟨[], by simp [h.2]⟩
 | (s, l) :: L, all, all', e, h => by
  rw [numbersF] at h
  cases h1 : numberF all l with
  | none => rw [h1] at h; cases h
  | some r =>
   obtain ⟨k, a1⟩ := r
   rw [h1] at h
   dsimp only at h
   cases h2 : numbersF a1 L with
   | none => rw [h2] at h; cases h
   | some r =>
    obtain ⟨e2, a2⟩ := r
    rw [h2] at h
    simp at h
    obtain ⟨_, rfl⟩ := h
    obtain ⟨t1, p1⟩ := numberF_prefix h1
    obtain ⟨t2, p2⟩ := numbersF_prefix L a1 a2 e2 h2
    exact ⟨t1 ++ t2, by rw [p2, p1, List.append_assoc]⟩
structure MakeI (g : Gr) (sm : List SM) (n : Nat) : Prop where
 go : makeF g = (statesGo g (16385 - n) n (sm.map (·.items))).map ((sm.take n).map toSt ++ ·)
 next : ∀ (k : Nat) (s : SM), k < n -> sm[k]? = some s -> s.next = nextF s.edges
 bare : ∀ (k : Nat) (s : SM), n <= k -> sm[k]? = some s -> Bare s
 le : n <= sm.length
 many : sm.length <= 16384
theorem MakeI.start (g : Gr) (s : SM) (hi : s.items = closedF g ((ofS g g.start).map (·, 0))) (hb : Bare s) : MakeI g [s] 0 := by
 refine ⟨?_, fun k s h => by omega, fun k s' _ h => ?_, Nat.zero_le _, by simp⟩
 ·unfold makeF
  rw [List.map_singleton, hi]
  cases statesGo g (16385 - 0) 0 [closedF g ((ofS g g.start).map (·, 0))] <;> rfl
 ·cases k with
  | zero => simp at h; subst h; exact hb
  | succ k => simp at h
theorem MakeI.none {g : Gr} {sm : List SM} {n : Nat} (h : MakeI g sm n) {s : SM} (hs : sm[n]? = some s) (hn : numbersF (sm.map (·.items)) (leadsF g s.items) = none) : makeF g = none := by
 rw [h.go]
 have hlt := (List.getElem?_eq_some_iff.1 hs).1
 have := h.many
 obtain ⟨f, hf⟩ : ∃ f, 16385 - n = f + 1 := ⟨16384 - n, by omega⟩
 rw [hf, statesGo, List.getElem?_map, hs]
 dsimp only [Option.map_some]
 rw [hn]
 rfl
theorem MakeI.step {g : Gr} {sm sm' : List SM} {n : Nat} (h : MakeI g sm n) {s s' : SM} (hs : sm[n]? = some s) {es : List (Sy × Nat)} {all' : List (List It)}
  (hn : numbersF (sm.map (·.items)) (leadsF g s.items) = some (es, all')) (hall : sm'.map (·.items) = all') (hs' : sm'[n]? = some s') (he : s'.edges = es) (hd : s'.done = doneF g s.items) (hx : s'.next = nextF es)
  (hold : ∀ k, k ≠ n -> k < sm.length -> sm'[k]? = sm[k]?) (hnew : ∀ k x, sm.length <= k -> sm'[k]? = some x -> Bare x) (hm : sm'.length <= 16384) : MakeI g sm' (n + 1) := by
 have hlt := (List.getElem?_eq_some_iff.1 hs).1
 have hlt' := (List.getElem?_eq_some_iff.1 hs').1
 have := h.many
 obtain ⟨t, ht⟩ := numbersF_prefix _ _ _ _ hn
 have hit : s'.items = s.items := by
  have h1 : (sm'.map (·.items))[n]? = some s'.items := by rw [List.getElem?_map, hs']; rfl
  rw [hall, ht, List.getElem?_append_left (by simpa using hlt), List.getElem?_map, hs] at h1
  simpa using h1.symm
 refine ⟨?_, ?_, ?_, by omega, hm⟩
 ·rw [h.go]
  obtain ⟨f, hf⟩ : ∃ f, 16385 - n = f + 1 := ⟨16384 - n, by omega⟩
  have hf2 : 16385 - (n + 1) = f := by omega
  rw [hf, hf2, statesGo, List.getElem?_map, hs]
  dsimp only [Option.map_some]
  rw [hn, hall]
  dsimp only
  have htk : sm'.take (n + 1) = sm.take n ++ [s'] := by
   rw [List.take_add_one, hs']
   have : sm'.take n = sm.take n := by
    apply List.ext_getElem?
    intro k
    rw [List.getElem?_take, List.getElem?_take]
    by_cases hk : k < n
    ·rw [if_pos hk, if_pos hk]; exact hold k (by omega) (by omega)
    ·rw [if_neg hk, if_neg hk]
   rw [this]; rfl
  rw [htk]
  have hst : toSt s' = ⟨s.items, es, doneF g s.items⟩ := by unfold toSt; rw [hit, he, hd]
  cases statesGo g f (n + 1) all' with
  | none => rfl
  | some l => simp [hst]
 ·intro k x hk hx2
  by_cases e : k = n
  ·subst e
   rw [hs'] at hx2
   injection hx2 with hx2
   subst hx2
   rw [hx, he]
  ·rw [hold k e (by omega)] at hx2
   exact h.next k x (by omega) hx2
 ·intro k x hk hx2
  by_cases e : k < sm.length
  ·rw [hold k (by omega) e] at hx2
   exact h.bare k x (by omega) hx2
  ·exact hnew k x (by omega) hx2
theorem MakeI.done {g : Gr} {sm : List SM} (h : MakeI g sm sm.length) : makeF g = some (sm.map toSt) := by
 rw [h.go]
 have := h.many
 obtain ⟨f, hf⟩ : ∃ f, 16385 - sm.length = f + 1 := ⟨16384 - sm.length, by omega⟩
 rw [hf, statesGo, List.getElem?_map, List.getElem?_eq_none (Nat.le_refl _)]
 simp
end Go.Proofs.YtknpkndiflodbaaGreatDoor.Tb
namespace Go.Proofs.YtknpkndiflodbaaGreatDoor.Tb
open Go Go.RowKit Go.Proofs Mx
def ofT (g : Gr) (i : Nat) (s : Int) : List Nat := (List.range i).filter fun n => match g.prods[n]? with | some p => p.left == s && p.role != 11 | none => false
theorem ofT_all (g : Gr) (s : Int) : ofT g g.prods.length s = ofS g s := rfl
theorem ofT_succ (g : Gr) (i : Nat) (s : Int) (p : Pr) (h : g.prods[i]? = some p) : ofT g (i + 1) s = ofT g i s ++ (if p.left = s /\ p.role ≠ 11 then [i] else []) := by
 unfold ofT
 rw [List.range_succ, List.filter_append, List.filter_cons, List.filter_nil, h]
 by_cases h1 : p.left = s <;> by_cases h2 : p.role = 11 <;> simp [h1, h2]
theorem ofT_len (g : Gr) (i : Nat) (s : Int) : (ofT g i s).length <= i := Nat.le_trans (List.length_filter_le _ _) (by simp)
structure OfG (g : Gr) (B ob i : Nat) (gv : Nat -> Value) (W : World) : Prop where
 blk : Blk W ob 68 ((List.range g.sorts.length).map gv).toArray
 row : ∀ s, s < g.sorts.length -> W.ownsRow B 3 1 (gv s) (ofT g i (s : Int)).length (flatK encN (ofT g i (s : Int)))
 apart : ∀ s t, s < g.sorts.length -> t < g.sorts.length -> s ≠ t -> ∀ x, (gv s).ownBlock = some x -> (gv t).ownBlock ≠ some x
 low : ob < B
theorem OfG.below {g : Gr} {B ob i : Nat} {gv : Nat -> Value} {W W' : World} (h : OfG g B ob i gv W) (hb : Below W.heap.size W W') : OfG g B ob i gv W' :=
 ⟨h.blk.below hb h.blk.lt, fun s hs => row_below (h.row s hs) hb, h.apart, h.low⟩
theorem OfG.grown {g : Gr} {B ob i : Nat} {gv : Nat -> Value} {W W' : World} (h : OfG g B ob i gv W) {B' n z : Nat} {e : TypeId} {v : Value} {xs : List Value} (ho : W.ownsRow B' e z v n xs) (he : 68 ≠ e /\ 3 ≠ e) (hg : W.grownBy W' v.ownBlock) : OfG g B ob i gv W' :=
 ⟨h.blk.grown hg (blk_ne_row h.blk ho he.1), fun s hs => (h.row s hs).kept hg (row_ne_row (h.row s hs) ho he.2), h.apart, h.low⟩
theorem OfG.start {g : Gr} {B ob : Nat} {W : World} (h : Blk W ob 68 ((List.range g.sorts.length).map (fun _ => Value.slice none 0 0)).toArray) (hl : ob < B) : OfG g B ob 0 (fun _ => .slice none 0 0) W :=
 ⟨h, fun s _ => ⟨rfl, .inl ⟨rfl, rfl⟩⟩, (fun s t _ _ _ x hx => by cases hx), hl⟩
theorem OfG.skip {g : Gr} {B ob i : Nat} {gv : Nat -> Value} {W : World} (h : OfG g B ob i gv W) {p : Pr} (hp : g.prods[i]? = some p) (hr : p.role = 11) : OfG g B ob (i + 1) gv W :=
 ⟨h.blk, (fun s hs => by rw [ofT_succ g i s p hp, if_neg (by simp [hr]), List.append_nil]; exact h.row s hs), h.apart, h.low⟩
theorem OfG.push {g : Gr} {B ob i : Nat} {gv : Nat -> Value} {W W1 : World} (h : OfG g B ob i gv W) {p : Pr} (hp : g.prods[i]? = some p) (hr : p.role ≠ 11) {s : Nat} (hs : s < g.sorts.length) (hps : p.left = (s : Int))
  (hg : W.grownBy W1 (gv s).ownBlock) {v' : Value} (hrow : W1.ownsRow B 3 1 v' ((ofT g i (s : Int)).length + 1) (flatK encN (ofT g i (s : Int)) ++ encN i)) (hnew : ∀ b, v'.ownBlock = some b -> (gv s).ownBlock = some b ∨ W.heap.size <= b) :
  OfG g B ob (i + 1) (fun t => if t = s then v' else gv t) (W1.setCell ⟨ob, s, none⟩ v') := by
 have hlt : ∀ t, t < g.sorts.length -> ∀ b, (gv t).ownBlock = some b -> B <= b /\ b < W.heap.size := fun t ht b hb => ⟨(own_ty (h.row t ht) b hb).1, ((h.row t ht).lt b hb).2⟩
 have hob1 : Blk W1 ob 68 ((List.range g.sorts.length).map gv).toArray := h.blk.grown hg (by intro e; have := (hlt s hs ob e.symm).1; have := h.low; omega)
 have hkeep : ∀ {t : TypeId} {z n : Nat} {u : Value} {xs : List Value}, W1.ownsRow B t z u n xs -> (W1.setCell ⟨ob, s, none⟩ v').ownsRow B t z u n xs := fun hu =>
  hu.kept (grown_set (grown_refl W1 (some ob)) (p := ⟨ob, s, none⟩) rfl v') (row_ne_low hu h.low)
 refine ⟨?_, ?_, ?_, h.low⟩
 ·have h1 := hob1.set_ s v'
  have e : (((List.range g.sorts.length).map gv).toArray.setIfInBounds s v') = ((List.range g.sorts.length).map (fun t => if t = s then v' else gv t)).toArray := by
   rw [List.setIfInBounds_toArray]
   congr 1
   apply List.ext_getElem?
   intro k
   by_cases hk : k < g.sorts.length
   ·by_cases e : k = s
    ·subst e; rw [List.getElem?_set_self (by simpa using hk)]; simp [hk]
    ·rw [List.getElem?_set_ne (Ne.symm e)]; simp [hk, e]
   ·rw [List.getElem?_eq_none (by simp; omega), List.getElem?_eq_none (by simp; omega)]
  rw [<- e]; exact h1
 ·intro t ht
  rw [ofT_succ g i t p hp]
  by_cases e : t = s
  ·subst e
   have e1 : (if p.left = (t : Int) /\ p.role ≠ 11 then [i] else []) = [i] := if_pos ⟨hps, hr⟩
   rw [e1, List.length_append, <- flatK_snoc, if_pos rfl]
   exact hkeep hrow
  ·have e1 : (if p.left = (t : Int) /\ p.role ≠ 11 then [i] else []) = [] := if_neg (by rw [hps]; rintro ⟨h, _⟩; omega)
   rw [e1, List.append_nil, if_neg e]
   refine hkeep ((h.row t ht).kept hg ?_)
   cases hb : (gv t).ownBlock with
   | none => exact .inl rfl
   | some b => exact .inr (fun e2 => h.apart t s ht hs e b hb e2.symm)
 ·intro a t ha ht hne x hx
  by_cases e1 : a = s
  ·subst e1
   have e2 : t ≠ a := Ne.symm hne
   rw [if_pos rfl] at hx
   rw [if_neg e2]
   rcases hnew x hx with h3 | h3
   ·exact h.apart a t ha ht hne x h3
   ·intro h4; have := (hlt t ht x h4).2; omega
  ·rw [if_neg e1] at hx
   by_cases e2 : t = s
   ·subst e2
    rw [if_pos rfl]
    intro h4
    rcases hnew x h4 with h3 | h3
    ·exact h.apart a t ha ht hne x hx h3
    ·have := (hlt a ha x hx).2; omega
   ·rw [if_neg e2]; exact h.apart a t ha ht hne x hx
theorem OfG.at_ {g : Gr} {B ob i : Nat} {gv : Nat -> Value} {W : World} (h : OfG g B ob i gv W) {s : Nat} (hs : s < g.sorts.length) : W.cell? ⟨ob, s, none⟩ = some (gv s) := by
 rw [h.blk.cell s]
 simp [hs]
theorem OfG.done {g : Gr} {B ob : Nat} {gv : Nat -> Value} {W : World} (h : OfG g B ob g.prods.length gv W) (hl : g.sorts.length <= maxLen) {D : Nat -> Prop} (hD : ∀ b, b = ob ∨ (B <= b /\ ∃ c fz, W.heap[b]? = some (.cells c 3 fz)) -> D b) :
  OfAt D W (.slice (some ⟨ob, 0, none⟩) g.sorts.length g.sorts.length) g := by
 refine ⟨(List.range g.sorts.length).map (fun s => (gv s, ofS g (s : Int))), ⟨⟨some ⟨ob, 0, none⟩, g.sorts.length, by simp, by simp, hl, fun _ => ⟨ob, 0, rfl, hD ob (.inl rfl), h.blk.lt, ?_⟩⟩, ?_⟩, by simp, ?_⟩
 ·intro s x hx j u hu
  have hs : s < g.sorts.length := by have := (List.getElem?_eq_some_iff.1 hx).1; simpa using this
  have hx2 : x = (gv s, ofS g (s : Int)) := by simp [hs] at hx; exact hx.symm
  subst hx2
  have hj : j = 0 /\ u = gv s := by
   match j, hu with
   | 0, hu => exact ⟨rfl, by simpa [encOf] using hu.symm⟩
  obtain ⟨rfl, rfl⟩ := hj
  rw [Nat.zero_add, Nat.mul_one, Nat.add_zero]
  exact h.at_ hs
 ·intro x hx
  simp only [List.mem_map, List.mem_range] at hx
  obtain ⟨s, hs, rfl⟩ := hx
  exact (own_sliceT encN_len (h.row s hs)).imp (fun b hb _ => hD b (.inr hb))
 ·intro s x hx
  have hs : s < g.sorts.length := by have := (List.getElem?_eq_some_iff.1 hx).1; simpa using this
  simp [hs] at hx
  rw [<- hx]
end Go.Proofs.YtknpkndiflodbaaGreatDoor.Tb
namespace Go.Proofs.YtknpkndiflodbaaGreatDoor.Tb
open Go Go.RowKit Go.Proofs Mx
theorem catch_idle (p q : Addr) (w : World) :
  CallsD Tryz.prog 34 #[.pointer (some p), .pointer (some q)] .returning w fun e u' w' => e = .returned (.tuple #[]) /\ u' = .returning /\ w' = w := by
 refine callsD_of_wpS Tryz.func34 rfl fun c₀ cs hu => ?_
 apply wpS_seq
 apply wpS_region
 simp [wpOpsS, go_sem, recoverD, hu, Tryz.ntmps34, Exit.thenS]
 refine wpS_of_wp ?_
 go_wp2
 cases c₀
 simp_all [bodyPostS, results, Tryz.results34]
theorem catch_full (a b : Nat) (older : List PanicEntry) (w : World) (ha : Blk w a 40 #[.pointer none]) (hb : Blk w b 41 #[.int .i64 0]) (hab : a ≠ b) :
  CallsD Tryz.prog 34 #[.pointer (some ⟨a, 0, none⟩), .pointer (some ⟨b, 0, none⟩)] (.panicking ({ v := .iface 89 (.agg #[]), recovered := false } :: older)) w fun e u' w' =>
   e = .returned (.tuple #[]) /\ u' = .panicking ({ v := .iface 89 (.agg #[]), recovered := true } :: older) /\
   w' = ((w.setCell ⟨a, 0, none⟩ (.pointer none)).setCell ⟨b, 0, none⟩ (.int .i64 3)).alloc (.cells #[] 89) := by
 obtain ⟨a0, af⟩ := ha.facts1
 obtain ⟨b0, bf⟩ := hb.facts1
 have haw := ha.lt
 have hbw := hb.lt
 refine callsD_of_wpS Tryz.func34 rfl fun c₀ cs hu => ?_
 apply wpS_seq
 apply wpS_region
 simp [wpOpsS, go_sem, recoverD, hu, Tryz.ntmps34, Exit.thenS]
 refine wpS_of_wp ?_
 have hta : ∀ (v : Value) (w : World), (Instr.typeAssert (.iface 89 v) 20 89 true).run Tryz.prog w = .ok (.tuple #[v, .bool true]) w := fun _ _ => by kernel_rfl
 rw [show (#[Value.pointer (some ⟨a, 0, none⟩), Value.pointer (some ⟨b, 0, none⟩)] ++ (Array.replicate 9 undef).setIfInBounds 3 (Value.iface 89 (Value.agg #[])) : Array Value) = #[Value.pointer (some ⟨a, 0, none⟩), Value.pointer (some ⟨b, 0, none⟩), undef, undef, undef, Value.iface 89 (Value.agg #[]), undef, undef, undef, undef, undef] from rfl]
 go_wp2
 simp [bodyPostS, results, Tryz.results34]
end Go.Proofs.YtknpkndiflodbaaGreatDoor.Tb
