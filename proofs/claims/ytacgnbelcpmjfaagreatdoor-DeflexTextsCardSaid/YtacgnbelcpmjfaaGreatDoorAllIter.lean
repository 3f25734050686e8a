/-
  WALKS: All's iterator.
-/
import Derived.Test.YtacgnbelcpmjfaaGreatDoorIter
import Derived.Test.YtacgnbelcpmjfaaGreatDoorReader
import Derived.Test.YtacgnbelcpmjfaaGreatDoorPrintA
import Derived.Test.YtacgnbelcpmjfaaGreatDoorLaws
set_option linter.unusedVariables false
set_option linter.unusedSimpArgs false
namespace Go.Proofs.YtacgnbelcpmjfaaGreatDoor.Dx
open Go.RowKit Go.Proofs Mx Go.Shelf
attribute [local go_sem] Oper.semAt_some
/-- What lies below n0 is kept, and so are all cells from n1 on. -/
def Kw (n0 n1 : Nat) (A B : World) : Prop := Below n0 A B ∧ ∀ (k : Nat) (cs : Array Value) (t : TypeId) (fr : Nat × Nat), n1 ≤ k → A.heap[k]? = some (.cells cs t fr) → B.heap[k]? = some (.cells cs t fr)
theorem Kw.trans {n0 n1 : Nat} {A B C : World} (h : Kw n0 n1 A B) (k : Kw n0 n1 B C) : Kw n0 n1 A C := ⟨h.1.trans k.1, fun i cs t fr hi he => k.2 i cs t fr hi (h.2 i cs t fr hi he)⟩
theorem Kw.refl (n0 n1 : Nat) (A : World) : Kw n0 n1 A A := ⟨Below.refl _ _, fun _ _ _ _ _ h => h⟩
theorem Kw.alloc {n0 n1 : Nat} {A B : World} (h : Kw n0 n1 A B) (hs : n0 ≤ B.heap.size) (o : Obj) : Kw n0 n1 A (B.alloc o) :=
  ⟨h.1.alloc hs o, fun i cs t fr hi he => by
    have h2 := h.2 i cs t fr hi he
    rw [Below.heap_alloc B o i (Array.getElem?_eq_some_iff.1 h2).1]; exact h2⟩
theorem Kw.set {n0 n1 : Nat} {A B : World} (h : Kw n0 n1 A B) {p : Addr} (h0 : n0 ≤ p.block) (h1 : p.block < n1) (u : Value) : Kw n0 n1 A (B.setCell p u) :=
  ⟨h.1.setCell h0 u, fun i cs t fr hi he => by rw [Below.heap_setCell B p u i (by omega)]; exact h.2 i cs t fr hi he⟩
theorem Kw.drewN {n0 n1 : Nat} {A B : World} (h : Kw n0 n1 A B) (n : Nat) : Kw n0 n1 A (B.drewN n) := ⟨below_drewN h.1 n, h.2⟩
theorem Kw.put {n0 n1 : Nat} {w W : World} (hb : n0 ≤ w.heap.size) (l : Nat) (o o' : Obj) (hl : w.heap.size ≤ l) (ho : W.heap[l]? = some o) (hc : o.isCells = false) (hw : o.isWalk = false) : Kw n0 n1 W (W.putObj l o') :=
  ⟨⟨rfl, rfl, rfl, by simp [World.putObj], fun k hk => World.putObj_heap_other (by omega)⟩, fun i cs t fr hi he => by
    rw [World.putObj_heap_other (show i ≠ l by rintro rfl; rw [ho] at he; injection he with he; subst he; cases hc)]; exact he⟩
theorem Kw.own {n0 n1 : Nat} {A B : World} (h : Kw n0 n1 A B) {base : Nat} {e : TypeId} {size : Nat} {v : Value} {n : Nat} {xs : List Value} (ho : A.ownsRow base e size v n xs) (hb : n1 ≤ base) : B.ownsRow base e size v n xs := by
  refine ⟨ho.1, ?_⟩
  rcases ho.2 with h2 | ⟨g, cap, cur, hv, hg, hh, r⟩
  · exact .inl h2
  · exact .inr ⟨g, cap, cur, hv, hg, h.2 _ _ _ _ (Nat.le_trans hb hg) hh, r⟩
theorem readR_len (l : List UInt8) : (readR l).1.length ≤ 1048576 := by
  unfold readR
  split
  · exact Nat.zero_le _
  · have := (lexF_may 0 l).2.2
    simp only
    omega
def wordK (l : List (Nat × Wd)) (k : Nat) : Nat × Wd := l.getD k (0, ⟨0, [], 0, 0⟩)
def encW (l : List (Nat × Wd)) (k : Nat) : Array Value := #[.int .i64 (k : Int), wdV ((wordK l k).1 : Int) (wordK l k).2]
theorem wordK_get (l : List (Nat × Wd)) (k : Nat) (h : k < l.length) : l[k]? = some (wordK l k) := by
  simp [wordK, List.getD, h]
set_option maxRecDepth 100000 in
set_option maxHeartbeats 2000000 in
theorem all_iter (s : ByteArray) (n n0 n1 bs : Nat) (hn : 1 ≤ n) (w : World) (E : Env w) (hn0 : n0 ≤ w.heap.size) (hn1 : n1 ≤ w.heap.size) (hbs : Blk w bs 9 #[.string s]) :
    SeqO Fence.wide n Tryz.prog 21 #[.pointer (some ⟨bs, 0, none⟩)] (encW (readR s.data.toList).1) (Kw n0 n1) (readR s.data.toList).1.length w := by
  intro l J Jx W hW' hJ hJx hY h0
  have hbW : Blk W bs 9 #[.string s] := hbs.below hW' hbs.lt
  have hW := hW'.mono hn0
  have hsW : w.heap.size ≤ W.heap.size := hW'.size
  have EW : Env W := E.below hW' E.big
  have hread := read_all W W.heap.size s (W.alloc (.cells #[.slice none 0 0] 23)) (Blk.new_ rfl _ _) ((Below.refl _ W).alloc (Nat.le_refl _) _) (Nat.le_refl _) EW
  have hmf : ∀ (fn : Fn) (first cap : Array Value) (w : World), (Instr.makeFunc fn first cap).run Tryz.prog w = .ok (.func fn first cap) w := fun _ _ _ _ => rfl
  clear hW'
  have c0 := (hbW.alloc (.cells #[.slice none 0 0] 23)).cell 0
  have hro : Fence.wide.round = none := rfl
  have hlen := readR_len s.data.toList
  generalize readR s.data.toList = R at *
  obtain ⟨ws, at_, en⟩ := R
  refine callsIn_of_wp Tryz.func21 rfl trivial ?_ hro
  simp only [Tryz.ntmps21, List.size_toArray, List.length_cons, List.length_nil, Nat.reduceAdd, Nat.reduceSub, Array.replicate_succ, Array.replicate_zero, List.push_toArray, List.append_toArray, List.nil_append, List.cons_append]
  gi_wp2
  refine ⟨trivial, (callsIn_mk hread).mono ?_⟩
  rintro e w1 ⟨rfl, v, hX⟩
  obtain ⟨B, hB, ho⟩ := hX.own
  obtain ⟨sa, sn, sc, rfl⟩ := own_slice ho
  obtain ⟨hsn, _⟩ := own_sliceW ho
  simp only at hsn ho hlen
  subst hsn
  have c1 := hX.cell.cell 0
  simp at c1
  have hJ1 := abides_below hJ h0 hX.bel
  have hBn : n1 ≤ B := by omega
  have HX := Lib.hid (And.intro ho (And.intro hJ1 hBn))
  clear ho hJ1 hBn hX hread h0 c0
  gi_wp2
  gi_loopw [11] (fun i wr => ∃ k : Nat, k ≤ ws.length ∧ i = .int .i64 k ∧ J k wr ∧ wr.ownsRow B 35 8 (.slice sa ws.length sc) ws.length (wcells ws)) (fun i _ => ws.length - (intOf i).toNat)
  case atStart => exact ⟨0, Nat.zero_le _, rfl, HX.out.2.1, HX.out.1⟩
  case round =>
    obtain ⟨k, hk, rfl, hJk, hown⟩ := hrel
    by_cases hlt : k < ws.length
    · obtain ⟨g, cap, he, _, _⟩ := hown.form (by omega)
      cases he
      obtain ⟨_, _, _, _, hrow⟩ := own_row hown
      obtain ⟨q, hq⟩ : ∃ q, wordK ws k = q := ⟨_, rfl⟩
      obtain ⟨p, v⟩ := q
      have hget := wordK_get ws k hlt
      rw [hq] at hget
      obtain ⟨x0, x1, x2, x3, x4, x5, x6, x7⟩ := hrow.cells k p v (by rw [wI, List.getElem?_map, hget]; rfl)
      simp only [Nat.zero_add] at x0 x1 x2 x3 x4 x5 x6 x7
      have hlt' : (k : Int) < (ws.length : Int) := by omega
      have hk0 : (0 : Int) ≤ (k : Int) := by omega
      have hJ2 : J k (wr.alloc (.cells #[.int .i64 v.kind, .int .i64 (p : Int), .string ⟨v.text.toArray⟩, .int .u64 (wd v.set 0), .int .u64 (wd v.set 1), .int .u64 (wd v.set 2), .int .u64 (wd v.set 3), .int .i64 v.num] 35)) := abides_below hJ hJk ((Below.refl _ wr).alloc (Nat.le_refl _) _)
      have hyk := hY k _ hJ2 hlt
      simp only [encW, hq, wdV, wdC] at hyk
      obtain ⟨fn, tmps, assign, body, hyr, hR⟩ := hyk
      have HI := Lib.hid (And.intro hown hlt)
      clear hJ2 hrow hget hJk hown
      gi_wp2
      refine hR.mono ?_
      rintro e W' h
      obtain ⟨b, rfl, hb⟩ := yield_bool h
      clear hR hyr
      cases b
      · gi_wp2
        refine bodyPost_ret (results_none rfl _ _ _) rfl ?_
        exact ⟨⟨_, rfl⟩, .inr ⟨k + 1, HI.out.2, hb.out.2 (by trivial)⟩⟩
      · gi_wp2
        have hn := hb.out.1 (by trivial)
        have ho2 := hn.2.own (HI.out.1.alloc _) HX.out.2.2
        go_roundw
        case rel => exact ⟨k + 1, HI.out.2, rfl, hn.1, ho2⟩
        case measure => simp [intOf]; have := HI.out.2; omega
    · obtain rfl : k = ws.length := by omega
      have HJ := Lib.hid hJk
      clear hJk hown
      gi_wp2
      refine bodyPost_end (results_none rfl _ _ _) rfl ?_
      exact ⟨⟨_, rfl⟩, .inl HJ.out⟩
end Go.Proofs.YtacgnbelcpmjfaaGreatDoor.Dx
