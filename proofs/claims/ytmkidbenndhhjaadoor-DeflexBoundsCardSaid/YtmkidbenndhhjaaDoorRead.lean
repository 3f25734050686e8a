/-
  WALKS: read, and what it defers.
-/
import Derived.Test.YtmkidbenndhhjaaDoorStep
import Derived.Defers
import Derived.Recover
set_option linter.unusedVariables false
set_option linter.unusedSimpArgs false
namespace Go.Proofs.YtmkidbenndhhjaaDoor.Dx
open Go.RowKit Go.Proofs Mx

theorem catch_idle (p q : Addr) (w : World) :
    CallsD Tryd.prog 58 #[.pointer (some p), .pointer (some q)] .returning w fun e u' w' => e = .returned (.tuple #[]) ∧ u' = .returning ∧ w' = w := by
  refine callsD_of_wpS Tryd.func58 rfl fun c₀ cs hu => ?_
  apply wpS_seq
  apply wpS_region
  simp [wpOpsS, go_sem, recoverD, hu, Tryd.ntmps58, Exit.thenS]
  refine wpS_of_wp ?_
  go_wp2
  cases c₀
  simp_all [bodyPostS, results, Tryd.results58]

set_option maxRecDepth 100000 in
set_option maxHeartbeats 1000000 in
theorem catch_refused (a b : Nat) (k : Nat) (older : List PanicEntry) (w : World) (ha : Blk w a 3 #[.int .i64 0]) (hb : Blk w b 37 #[.int .i64 0]) (hab : a ≠ b) :
    CallsD Tryd.prog 58 #[.pointer (some ⟨a, 0, none⟩), .pointer (some ⟨b, 0, none⟩)] (.panicking ({ v := .iface 97 (.agg #[.int .i64 (k : Int)]), recovered := false } :: older)) w fun e u' w' =>
      e = .returned (.tuple #[]) ∧ u' = .panicking ({ v := .iface 97 (.agg #[.int .i64 (k : Int)]), recovered := true } :: older) ∧
      w' = ((w.setCell ⟨a, 0, none⟩ (.int .i64 (k : Int))).setCell ⟨b, 0, none⟩ (.int .i64 130)).alloc (.cells #[.int .i64 (k : Int)] 97) := by
  obtain ⟨a0, af⟩ := ha.facts1
  obtain ⟨b0, bf⟩ := hb.facts1
  have haw := ha.lt
  have hbw := hb.lt
  refine callsD_of_wpS Tryd.func58 rfl fun c₀ cs hu => ?_
  apply wpS_seq
  apply wpS_region
  simp [wpOpsS, go_sem, recoverD, hu, Tryd.ntmps58, Exit.thenS]
  refine wpS_of_wp ?_
  have hta : ∀ (v : Value) (w : World), (Instr.typeAssert (.iface 97 v) 20 97 true).run Tryd.prog w = .ok (.tuple #[v, .bool true]) w := fun _ _ => by kernel_rfl
  rw [show (#[Value.pointer (some ⟨a, 0, none⟩), Value.pointer (some ⟨b, 0, none⟩)] ++ (Array.replicate 11 undef).setIfInBounds 3 (Value.iface 97 (Value.agg #[Value.int .i64 (k : Int)])) : Array Value) = #[Value.pointer (some ⟨a, 0, none⟩), Value.pointer (some ⟨b, 0, none⟩), undef, undef, undef, Value.iface 97 (Value.agg #[Value.int .i64 (k : Int)]), undef, undef, undef, undef, undef, undef, undef] from rfl]
  go_wp2
  simp [bodyPostS, results, Tryd.results58]

theorem res2 (tmps : Array Value) (w : World) (a b : Nat) (x y : Int) (hp : tmps.getD 4 undef = .pointer (some ⟨a, 0, none⟩)) (hq : tmps.getD 5 undef = .pointer (some ⟨b, 0, none⟩)) (ha : Blk w a 3 #[.int .i64 x]) (hb : Blk w b 37 #[.int .i64 y]) :
    (results Tryd.f38 tmps).run Tryd.prog w = .ok (.tuple #[.int .i64 x, .int .i64 y]) w := by
  have a0 := ha.cell 0
  have b0 := hb.cell 0
  simp at a0 b0 hp hq
  simp [results, Tryd.results38, go_sem, hp, hq, a0, b0]
/-- What is known behind a call of read: the words, in the variable c. -/
structure LX (w0 wr : World) (c : Nat) (ws : List (Nat × Wd)) (v : Value) : Prop where
  own : ∃ B, c < B ∧ wr.ownsRow B 51 8 v ws.length (wcells ws)
  cell : Blk wr c 36 #[v]
  bel : Below w0.heap.size w0 wr
  low : w0.heap.size ≤ c
/-- A text's words up to the first that can't be read; where that is, which error. -/
def readR (l : List UInt8) : List (Nat × Wd) × Int × Int :=
  if 1048576 < l.length then ([], 0, 3) else ((lexF 0 l).1, match (lexF 0 l).2 with | none => (0, 0) | some p => ((p : Int), 130))
def ReadsOut (w0 : World) (c : Nat) (r : List (Nat × Wd) × Int × Int) (e : Ending) (w' : World) : Prop :=
  e = .returned (.tuple #[.int .i64 r.2.1, .int .i64 r.2.2]) ∧ ∃ v, LX w0 w' c r.1 v
theorem LE.lx {w0 wb wr : World} {g c a b : Nat} {ws : List (Nat × Wd)} {v x y : Value} (h : LE w0 wb wr g c ws v) (ha : c < a ∧ a < g) (hb : c < b ∧ b < g) :
    LX w0 ((wr.setCell ⟨a, 0, none⟩ x).setCell ⟨b, 0, none⟩ y) c ws v :=
  ⟨⟨g + 1, by omega, ownsRow_setCell_below (ownsRow_setCell_below h.own (show a < g + 1 by omega) _) (show b < g + 1 by omega) _⟩,
   (h.cell.far (p := ⟨a, 0, none⟩) (by simp; omega) _).far (p := ⟨b, 0, none⟩) (by simp; omega) _,
   (h.bel.setCell (p := ⟨a, 0, none⟩) (by have := h.low; simp; omega) _).setCell (p := ⟨b, 0, none⟩) (by have := h.low; simp; omega) _, h.low⟩
theorem LX.alloc {w0 wr : World} {c : Nat} {ws : List (Nat × Wd)} {v : Value} (h : LX w0 wr c ws v) (o : Obj) : LX w0 (wr.alloc o) c ws v := by
  obtain ⟨B, hB, ho⟩ := h.own
  exact ⟨⟨B, hB, ho.alloc o⟩, h.cell.alloc o, h.bel.alloc h.bel.size o, h.low⟩

set_option maxRecDepth 100000 in
set_option maxHeartbeats 2000000 in
theorem read_lex (w0 : World) (c : Nat) (s : ByteArray) (w : World) (hc : Blk w c 36 #[.slice none 0 0]) (hb0 : Below w0.heap.size w0 w) (hlow : w0.heap.size ≤ c) (E : Env w0) :
    Calls Tryd.prog 38 #[.string s, .func (.func 39) #[] #[.pointer (some ⟨c, 0, none⟩)]] w (ReadsOut w0 c (readR s.data.toList)) := by
  have hcw := hc.lt
  have hmf : ∀ (fn : Fn) (first cap : Array Value) (w : World), (Instr.makeFunc fn first cap).run Tryd.prog w = .ok (.func fn first cap) w := fun _ _ _ _ => rfl
  by_cases hbig : 1048576 < s.size
  · have hz : (1048576 : Int) < (s.size : Int) := by omega
    have H := Lib.hid (And.intro hc (And.intro hb0 hlow))
    have HR := Lib.hid (show readR s.data.toList = ([], 0, 3) by rw [readR, if_pos (by rw [← Lib.size_eq]; exact hbig)])
    clear hc hb0 hlow hbig
    go_enter_defers Tryd.func38, Tryd.ntmps38
    go_wp2_with fail
    have bb : Blk ((w.alloc (.cells #[.int .i64 0] 3)).alloc (.cells #[.int .i64 3] 37)) (w.heap.size + 1) 37 #[.int .i64 3] := Blk.new_ (by simp) _ _
    have ba : Blk ((w.alloc (.cells #[.int .i64 0] 3)).alloc (.cells #[.int .i64 3] 37)) w.heap.size 3 #[.int .i64 0] := (Blk.new_ rfl _ _).alloc _
    refine ⟨.tuple #[.int .i64 0, .int .i64 3], res2 _ _ _ _ _ _ (by rfl) (by rfl) ba bb, ?_⟩
    rw [HR.out]
    exact ⟨rfl, .slice none 0 0, ⟨c + 1, by omega, rfl, .inl ⟨rfl, rfl⟩⟩, (H.out.1.alloc _).alloc _, (H.out.2.1.alloc H.out.2.1.size _).alloc (by have := H.out.2.1.size; simp; omega) _, H.out.2.2⟩
  · have hz : ¬ (1048576 : Int) < (s.size : Int) := by omega
    obtain ⟨W0, hW0⟩ : ∃ W0, (((w.alloc (.cells #[.int .i64 0] 3)).alloc (.cells #[.int .i64 0] 37)).alloc (.cells #[.string s, .int .i64 0] 69)) = W0 := ⟨_, rfl⟩
    have ba : Blk W0 w.heap.size 3 #[.int .i64 0] := by rw [← hW0]; exact ((Blk.new_ rfl _ _).alloc _).alloc _
    have bb : Blk W0 (w.heap.size + 1) 37 #[.int .i64 0] := by rw [← hW0]; exact (Blk.new_ (by simp) _ _).alloc _
    have br : Rd W0 (w.heap.size + 2) s 0 := by rw [← hW0]; exact Blk.new_ (by simp) _ _
    have bc : Blk W0 c 36 #[.slice none 0 0] := by rw [← hW0]; exact ((hc.alloc _).alloc _).alloc _
    have bB : Below w0.heap.size w0 W0 := by rw [← hW0]; exact ((hb0.alloc hb0.size _).alloc (by have := hb0.size; simp; omega) _).alloc (by have := hb0.size; simp; omega) _
    have hS : LS w0 W0 W0 (w.heap.size + 2) c s 0 [] (.slice none 0 0) := ⟨⟨rfl, .inl ⟨rfl, rfl⟩⟩, bc, br, bB, hlow, by omega, fun _ _ _ => rfl⟩
    have hstep := step_lex w0 (w.heap.size + 2) c s _ W0 (by omega) hS E
    have hlen : ¬ 1048576 < s.data.toList.length := by rw [← Lib.size_eq]; exact hbig
    have HL := Lib.hid hlen
    obtain ⟨R, hr⟩ : ∃ R, lexF 0 s.data.toList = R := ⟨_, rfl⟩
    obtain ⟨ws, o⟩ := R
    rw [hr] at hstep
    have H := Lib.hid (And.intro hstep (And.intro ba bb))
    have HW := Lib.hid hW0
    clear hstep ba bb br bc bB hS hW0 hlen hc hb0 hbig
    have HR := Lib.hid hr
    clear hr
    go_enter_defers Tryd.func38, Tryd.ntmps38
    go_wp2_with fail
    rw [HW.out]
    refine H.out.1.mono ?_
    rintro e w2 ⟨⟨v, hE⟩, he⟩
    have ba2 : Blk w2 w.heap.size 3 #[.int .i64 0] := (hE.keep _ (by omega) (by omega)).trans H.out.2.1
    have bb2 : Blk w2 (w.heap.size + 1) 37 #[.int .i64 0] := (hE.keep _ (by omega) (by omega)).trans H.out.2.2
    have HE := Lib.hid (And.intro hE (And.intro ba2 bb2))
    cases o with
    | none =>
      obtain rfl : e = .returned (.tuple #[]) := he
      obtain ⟨a0, af⟩ := ba2.facts1
      obtain ⟨b0, bf⟩ := bb2.facts1
      clear ba2 bb2 hE
      go_wp2_with fail
      refine leaves_cons (f := 58) (args := #[.pointer (some ⟨w.heap.size, 0, none⟩), .pointer (some ⟨w.heap.size + 1, 0, none⟩)]) (by simp) (by simp [go_sem]) ?_
      refine (catch_idle ⟨w.heap.size, 0, none⟩ ⟨w.heap.size + 1, 0, none⟩ _).mono ?_
      rintro e u' w'' ⟨rfl, rfl, rfl⟩
      refine ⟨.tuple #[.int .i64 0, .int .i64 0], res2 _ _ _ _ _ _ (by rfl) (by rfl) ((HE.out.2.1.set_ 0 _).far (p := ⟨w.heap.size + 1, 0, none⟩) (by simp) _) ((HE.out.2.2.far (p := ⟨w.heap.size, 0, none⟩) (by simp) _).set_ 0 _), ?_⟩
      rw [readR, if_neg HL.out, HR.out]
      exact ⟨rfl, v, HE.out.1.lx (by omega) (by omega)⟩
    | some p =>
      obtain rfl : e = .panicked (refusedAt p) := he
      clear hE
      refine leaves_cons (f := 58) (args := #[.pointer (some ⟨w.heap.size, 0, none⟩), .pointer (some ⟨w.heap.size + 1, 0, none⟩)]) (by simp) (by simp [go_sem]) ?_
      refine (catch_refused w.heap.size (w.heap.size + 1) p [] w2 ba2 bb2 (by omega)).mono ?_
      rintro e u' w'' ⟨rfl, rfl, rfl⟩
      refine ⟨.tuple #[.int .i64 (p : Int), .int .i64 130], res2 _ _ _ _ _ _ (by rfl) (by rfl) (((HE.out.2.1.set_ 0 _).far (p := ⟨w.heap.size + 1, 0, none⟩) (by simp) _).alloc _) (((HE.out.2.2.far (p := ⟨w.heap.size, 0, none⟩) (by simp) _).set_ 0 _).alloc _), ?_⟩
      rw [readR, if_neg HL.out, HR.out]
      exact ⟨rfl, v, (HE.out.1.lx (by omega) (by omega)).alloc _⟩
set_option maxRecDepth 100000 in
set_option maxHeartbeats 2000000 in
theorem read_all (w0 : World) (c : Nat) (s : ByteArray) (w : World) (hc : Blk w c 36 #[.slice none 0 0]) (hb0 : Below w0.heap.size w0 w) (hlow : w0.heap.size ≤ c) (E : Env w0) :
    Calls Tryd.prog 38 #[.string s, .func (.func 50) #[] #[.pointer (some ⟨c, 0, none⟩)]] w (ReadsOut w0 c (readR s.data.toList)) := by
  have hcw := hc.lt
  have hmf : ∀ (fn : Fn) (first cap : Array Value) (w : World), (Instr.makeFunc fn first cap).run Tryd.prog w = .ok (.func fn first cap) w := fun _ _ _ _ => rfl
  by_cases hbig : 1048576 < s.size
  · have hz : (1048576 : Int) < (s.size : Int) := by omega
    have H := Lib.hid (And.intro hc (And.intro hb0 hlow))
    have HR := Lib.hid (show readR s.data.toList = ([], 0, 3) by rw [readR, if_pos (by rw [← Lib.size_eq]; exact hbig)])
    clear hc hb0 hlow hbig
    go_enter_defers Tryd.func38, Tryd.ntmps38
    go_wp2_with fail
    have bb : Blk ((w.alloc (.cells #[.int .i64 0] 3)).alloc (.cells #[.int .i64 3] 37)) (w.heap.size + 1) 37 #[.int .i64 3] := Blk.new_ (by simp) _ _
    have ba : Blk ((w.alloc (.cells #[.int .i64 0] 3)).alloc (.cells #[.int .i64 3] 37)) w.heap.size 3 #[.int .i64 0] := (Blk.new_ rfl _ _).alloc _
    refine ⟨.tuple #[.int .i64 0, .int .i64 3], res2 _ _ _ _ _ _ (by rfl) (by rfl) ba bb, ?_⟩
    rw [HR.out]
    exact ⟨rfl, .slice none 0 0, ⟨c + 1, by omega, rfl, .inl ⟨rfl, rfl⟩⟩, (H.out.1.alloc _).alloc _, (H.out.2.1.alloc H.out.2.1.size _).alloc (by have := H.out.2.1.size; simp; omega) _, H.out.2.2⟩
  · have hz : ¬ (1048576 : Int) < (s.size : Int) := by omega
    obtain ⟨W0, hW0⟩ : ∃ W0, (((w.alloc (.cells #[.int .i64 0] 3)).alloc (.cells #[.int .i64 0] 37)).alloc (.cells #[.string s, .int .i64 0] 69)) = W0 := ⟨_, rfl⟩
    have ba : Blk W0 w.heap.size 3 #[.int .i64 0] := by rw [← hW0]; exact ((Blk.new_ rfl _ _).alloc _).alloc _
    have bb : Blk W0 (w.heap.size + 1) 37 #[.int .i64 0] := by rw [← hW0]; exact (Blk.new_ (by simp) _ _).alloc _
    have br : Rd W0 (w.heap.size + 2) s 0 := by rw [← hW0]; exact Blk.new_ (by simp) _ _
    have bc : Blk W0 c 36 #[.slice none 0 0] := by rw [← hW0]; exact ((hc.alloc _).alloc _).alloc _
    have bB : Below w0.heap.size w0 W0 := by rw [← hW0]; exact ((hb0.alloc hb0.size _).alloc (by have := hb0.size; simp; omega) _).alloc (by have := hb0.size; simp; omega) _
    have hS : LS w0 W0 W0 (w.heap.size + 2) c s 0 [] (.slice none 0 0) := ⟨⟨rfl, .inl ⟨rfl, rfl⟩⟩, bc, br, bB, hlow, by omega, fun _ _ _ => rfl⟩
    have hstep := step_all w0 (w.heap.size + 2) c s _ W0 (by omega) hS E
    have hlen : ¬ 1048576 < s.data.toList.length := by rw [← Lib.size_eq]; exact hbig
    have HL := Lib.hid hlen
    obtain ⟨R, hr⟩ : ∃ R, lexF 0 s.data.toList = R := ⟨_, rfl⟩
    obtain ⟨ws, o⟩ := R
    rw [hr] at hstep
    have H := Lib.hid (And.intro hstep (And.intro ba bb))
    have HW := Lib.hid hW0
    clear hstep ba bb br bc bB hS hW0 hlen hc hb0 hbig
    have HR := Lib.hid hr
    clear hr
    go_enter_defers Tryd.func38, Tryd.ntmps38
    go_wp2_with fail
    rw [HW.out]
    refine H.out.1.mono ?_
    rintro e w2 ⟨⟨v, hE⟩, he⟩
    have ba2 : Blk w2 w.heap.size 3 #[.int .i64 0] := (hE.keep _ (by omega) (by omega)).trans H.out.2.1
    have bb2 : Blk w2 (w.heap.size + 1) 37 #[.int .i64 0] := (hE.keep _ (by omega) (by omega)).trans H.out.2.2
    have HE := Lib.hid (And.intro hE (And.intro ba2 bb2))
    cases o with
    | none =>
      obtain rfl : e = .returned (.tuple #[]) := he
      obtain ⟨a0, af⟩ := ba2.facts1
      obtain ⟨b0, bf⟩ := bb2.facts1
      clear ba2 bb2 hE
      go_wp2_with fail
      refine leaves_cons (f := 58) (args := #[.pointer (some ⟨w.heap.size, 0, none⟩), .pointer (some ⟨w.heap.size + 1, 0, none⟩)]) (by simp) (by simp [go_sem]) ?_
      refine (catch_idle ⟨w.heap.size, 0, none⟩ ⟨w.heap.size + 1, 0, none⟩ _).mono ?_
      rintro e u' w'' ⟨rfl, rfl, rfl⟩
      refine ⟨.tuple #[.int .i64 0, .int .i64 0], res2 _ _ _ _ _ _ (by rfl) (by rfl) ((HE.out.2.1.set_ 0 _).far (p := ⟨w.heap.size + 1, 0, none⟩) (by simp) _) ((HE.out.2.2.far (p := ⟨w.heap.size, 0, none⟩) (by simp) _).set_ 0 _), ?_⟩
      rw [readR, if_neg HL.out, HR.out]
      exact ⟨rfl, v, HE.out.1.lx (by omega) (by omega)⟩
    | some p =>
      obtain rfl : e = .panicked (refusedAt p) := he
      clear hE
      refine leaves_cons (f := 58) (args := #[.pointer (some ⟨w.heap.size, 0, none⟩), .pointer (some ⟨w.heap.size + 1, 0, none⟩)]) (by simp) (by simp [go_sem]) ?_
      refine (catch_refused w.heap.size (w.heap.size + 1) p [] w2 ba2 bb2 (by omega)).mono ?_
      rintro e u' w'' ⟨rfl, rfl, rfl⟩
      refine ⟨.tuple #[.int .i64 (p : Int), .int .i64 130], res2 _ _ _ _ _ _ (by rfl) (by rfl) (((HE.out.2.1.set_ 0 _).far (p := ⟨w.heap.size + 1, 0, none⟩) (by simp) _).alloc _) (((HE.out.2.2.far (p := ⟨w.heap.size, 0, none⟩) (by simp) _).set_ 0 _).alloc _), ?_⟩
      rw [readR, if_neg HL.out, HR.out]
      exact ⟨rfl, v, (HE.out.1.lx (by omega) (by omega)).alloc _⟩
end Go.Proofs.YtmkidbenndhhjaaDoor.Dx
