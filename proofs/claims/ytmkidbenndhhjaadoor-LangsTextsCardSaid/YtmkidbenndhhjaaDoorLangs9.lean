/-
  WALKS: langs.All's iterator.
-/
import Derived.Test.YtmkidbenndhhjaaDoorLangs8
import Derived.Test.YtmkidbenndhhjaaDoorRange
import Derived.Shelf.Abstract
import Derived.Shelf.RegionOpen
import Derived.OwnWalkIn
import Derived.TacticsInMore
import Derived.LoopNIn
import Derived.LoopIn
set_option linter.unusedVariables false
namespace Go.Proofs.YtmkidbenndhhjaaDoor.Lx
open Go.RowKit Go.Proofs Mx Bx Go.Shelf
attribute [local go_sem] Oper.semAt_some

/-- The languages' names and texts, in order. -/
noncomputable def nameK (k : Nat) : ByteArray := if k = 0 then cs 4 else if k = 1 then cs 11 else cs 18
noncomputable def textK (k : Nat) : ByteArray := rs (k + 1)

theorem callsIn_mk {n : Nat} {P : Program} {f : FuncId} {args : Array Value} {w : World} {R : Ending → World → Prop} (h : Calls P f args w R) : CallsIn Fence.wide n P f args w R := callsIn_wide.2 h

theorem abides_below {β : Type} {B : Nat} {J : β → World → Prop} (h : AbidesFrom B J) {s : β} {W W' : World} (hs : J s W) (hb : Below W.heap.size W W') : J s W' :=
  h s W W' none hs ⟨hb.os, hb.tape, hb.output, hb.size, fun k hk _ => hb.block k hk⟩ (fun r e => by cases e)
theorem abides_alloc {β : Type} {B : Nat} {J : β → World → Prop} (h : AbidesFrom B J) {s : β} {W : World} (hs : J s W) (o : Obj) : J s (W.alloc o) :=
  abides_below h hs ((Below.refl _ W).alloc (Nat.le_refl _) o)

/-- The k-th language's four cells. -/
noncomputable def langK (k B : Nat) : Array Value :=
  if k = 0 then #[.string (cs 4), .string (cs 5), .string (cs 6), .slice (some ⟨B, 0, none⟩) 4 4]
  else if k = 1 then #[.string (cs 11), .string (cs 12), .string (cs 13), .slice (some ⟨B + 1, 0, none⟩) 4 4]
  else #[.string (cs 18), .string (cs 19), .string (cs 20), .slice (some ⟨B + 1 + 1, 0, none⟩) 4 4]
theorem index_all12 (k B : Nat) (hk : k < 3) (w : World) : (Instr.index 63 (.agg (all12 B)) (.int .i64 (k : Int))).run Tryd.prog w = .ok (.agg (langK k B)) w := by
  match k, hk with
  | 0, _ => show _ = _; kernel_rfl
  | 1, _ => show _ = _; kernel_rfl
  | 2, _ => show _ = _; kernel_rfl
theorem langK_form (k B : Nat) (hk : k < 3) : ∃ t u B', langK k B = #[.string (nameK k), .string t, .string u, .slice (some ⟨B', 0, none⟩) 4 4] ∧ fineB t u = true ∧ wholeS t u = textK k := by
  match k, hk with
  | 0, _ => exact ⟨_, _, _, rfl, fine0, same0⟩
  | 1, _ => exact ⟨_, _, _, rfl, fine1, same1⟩
  | 2, _ => exact ⟨_, _, _, rfl, fine2, same2⟩

theorem yield_bool {e : Ending} {A B : Prop} (h : (e = .returned (.bool true) ∧ A) ∨ (e = .returned (.bool false) ∧ B)) : ∃ b, e = .returned (.bool b) ∧ Hid ((b = true → A) ∧ (b = false → B)) := by
  rcases h with ⟨rfl, h⟩ | ⟨rfl, h⟩
  · exact ⟨true, rfl, ⟨fun _ => h, fun h => absurd h (by decide)⟩⟩
  · exact ⟨false, rfl, ⟨fun h => absurd h (by decide), fun _ => h⟩⟩
set_option maxRecDepth 100000 in
theorem iter_any (n n0 : Nat) (hn : 1 ≤ n) (w : World) (hT : Tab w) (hg : 0 < n0) (hn0 : n0 ≤ w.heap.size) :
    SeqO Fence.wide n Tryd.prog 31 #[] (fun k => #[.string (nameK k), .string (textK k)]) (Below n0) 3 w := by
  intro l J Jx W hW' hJ hJx hY h0
  have hW := hW'.mono hn0
  have hsW : n0 ≤ W.heap.size := Nat.le_trans hn0 hW'.size
  clear hW'
  have hro : Fence.wide.round = none := rfl
  refine callsIn_of_wp Tryd.func31 rfl trivial ?_ hro
  simp only [Tryd.ntmps31, List.size_toArray, List.length_cons, List.length_nil, Nat.reduceAdd, Nat.reduceSub, Array.replicate_succ, Array.replicate_zero, List.push_toArray, List.append_toArray, List.nil_append, List.cons_append]
  refine wpIn_scope_straight (wpIn_seq (wpIn_label ?_))
  simp only [Exit.then]
  gi_wp2_with (refine ⟨trivial, ?_⟩; gi_at_call 32; refine (callsIn_mk (languages_any _)).mono ?_; rintro e w1 ⟨rfl, hb, hsz, hB1, hB2, hB3⟩)
  have hs1 : n0 ≤ w1.heap.size := Nat.le_trans hsW hb.size
  have hWB := hW.trans (hb.mono hsW)
  have hJ1 := abides_below hJ h0 hb
  clear hb hsz hB1 hB2 hB3 h0
  obtain ⟨B, hB⟩ : ∃ B, W.heap.size + 1 = B := ⟨_, rfl⟩
  rw [hB]
  clear hB
  gi_loopw [5] (fun i wr => ∃ k : Nat, k ≤ 3 ∧ i = .int .i64 k ∧ J k wr ∧ Below n0 w wr ∧ n0 ≤ wr.heap.size) (fun i _ => 3 - (intOf i).toNat)
  case atStart => exact ⟨0, by omega, rfl, hJ1, hWB, hs1⟩
  case round =>
    obtain ⟨k, hk, rfl, hJk, hbr, hsr⟩ := hrel
    by_cases hlt : k < 3
    · have hidx := fun W => index_all12 k B hlt W
      obtain ⟨t, u, B', hlk, hf, hwt⟩ := langK_form k B hlt
      rw [hlk] at hidx
      clear hlk hJ1 hWB
      have hb3 := hbr.alloc hsr (.cells #[.string (nameK k), .string t, .string u, .slice (some ⟨B', 0, none⟩) 4 4] 58)
      have hmx : Tryd.prog.follows .mixedOrders = true := by kernel_rfl
      have hwh : ∀ W, Below n0 w W → n0 ≤ W.heap.size → J k W → W.cell? ⟨wr.heap.size, 0, none⟩ = some (.string (nameK k)) → Calls Tryd.prog 29 #[.agg #[.string (nameK k), .string t, .string u, .slice (some ⟨B', 0, none⟩) 4 4]] W fun e w' => e = .returned (.string (textK k)) ∧ Below n0 w w' ∧ n0 ≤ w'.heap.size ∧ J k w' ∧ w'.cell? ⟨wr.heap.size, 0, none⟩ = some (.string (nameK k)) := by
        intro W1 hb1 hs1 hJ1 hc1
        refine (whole_fine _ _ _ _ _ (hT.below hb1 hg) (by omega) hf).mono ?_
        rintro e w' ⟨rfl, hb'⟩
        exact ⟨by rw [hwt], hb1.trans (hb'.mono hs1), Nat.le_trans hs1 hb'.size, abides_below hJ hJ1 hb', (hb'.cell (World.block_lt_of_cell? _ _ hc1)).trans hc1⟩
      gi_wp2
      gi_region_with_o (first
        | (refine ⟨trivial, ?_⟩; gi_at_call 29; refine (callsIn_mk (hwh _ hb3.drew (by rw [World.size_drew, World.size_alloc]; omega) ?_ ?_)).mono ?_; exact abides_below hJ hJk (((Below.refl _ wr).alloc (Nat.le_refl _) _).drew); exact (Blk.new wr _ _).drew.cell 0; rintro e w2 ⟨rfl, hb4, hs4, hJ4, hc4⟩; obtain ⟨fn, tmps, assign, body, hy, hR⟩ := hY k w2 hJ4 hlt)
        | (refine hR.mono ?_; rintro e W' h; obtain ⟨b, rfl, hb⟩ := yield_bool h))
      all_goals
        have hin := Lib.hid (And.intro hs4 (And.intro hb4 hlt))
        clear hb3 hbr hs4 hb4 hJ4 hc4 hwh hidx hf hwt hJk hy hR
        cases b
        · gi_wp2
          refine bodyPost_end (results_none rfl _ _ _) rfl ?_
          exact ⟨⟨_, rfl⟩, .inr ⟨k + 1, by have := hin.out.2.2; omega, hb.out.2 (by trivial)⟩⟩
        · gi_wp2
          go_roundw
          case rel => exact ⟨k + 1, by omega, by go_num, (hb.out.1 (by trivial)).1, hin.out.2.1.trans (hb.out.1 (by trivial)).2, Nat.le_trans hin.out.1 (hb.out.1 (by trivial)).2.size⟩
          case measure => simp [intOf]; omega
    · obtain rfl : k = 3 := by omega
      gi_wp2
      simp only [Exit.noGoto]
      refine bodyPost_end (results_none rfl _ _ _) rfl ?_
      exact ⟨⟨_, rfl⟩, .inl hJk⟩
end Go.Proofs.YtmkidbenndhhjaaDoor.Lx
