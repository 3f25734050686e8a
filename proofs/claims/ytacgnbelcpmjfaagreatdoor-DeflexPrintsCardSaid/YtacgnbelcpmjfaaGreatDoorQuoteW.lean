/-
  WALKS: Quote.
-/
import Derived.Test.YtacgnbelcpmjfaaGreatDoorSText
import Derived.Lib.AtoiErrMem
import Derived.Deep.RegionLaw
import Derived.StillTailTactics
set_option linter.unusedVariables false
set_option linter.unusedSimpArgs false
namespace Go.Proofs.YtacgnbelcpmjfaaGreatDoor.Dx
open Go.RowKit Go.Proofs Mx
open Go.Lib (byteCells)

structure QS (w W1 wr : World) (s : ByteArray) (v : Value) (k : Nat) (acc : List UInt8) : Prop where
  own : wr.ownsRow w.heap.size 5 1 v acc.length (byteCells acc)
  src : wr.heap[w.heap.size + 1]? = W1.heap[w.heap.size + 1]?
  bel : Below w.heap.size w wr
  acc_ : acc = 34 :: (s.data.toList.take k).flatMap quoteB
theorem QS.append {w W1 wr w2 : World} {s : ByteArray} {v v' : Value} {k : Nat} {acc more : List UInt8} {ob : Obj} {cs : Array Value} {n : Nat} (h : QS w W1 wr s v k acc)
    (hfr : W1.heap[w.heap.size + 1]? = some (.cells cs 5 (n, n + 1))) (hlt : w.heap.size + 1 < wr.heap.size)
    (hown : w2.ownsRow w.heap.size 5 1 v' (acc.length + more.length) (byteCells acc ++ byteCells more)) (hgrow : (wr.alloc ob).grownBy w2 v.ownBlock)
    (hm : (s.data.toList.take (k + 1)).flatMap quoteB = (s.data.toList.take k).flatMap quoteB ++ more) : QS w W1 w2 s v' (k + 1) (acc ++ more) := by
  have hne : v.ownBlock ≠ some (w.heap.size + 1) := by
    intro e
    rcases h.own.2 with ⟨rfl, _⟩ | ⟨g, cap, cur, rfl, _, hh, _⟩
    · cases e
    · have : g = w.heap.size + 1 := by simpa [Value.ownBlock] using e
      subst this
      rw [h.src, hfr] at hh
      injection hh with hh
      injection hh with _ _ h3
      injection h3 with _ h4
      omega
  refine ⟨?_, ?_, ?_, ?_⟩
  · have : byteCells acc ++ byteCells more = byteCells (acc ++ more) := by simp [byteCells]
    rw [this] at hown
    simpa using hown
  · rw [hgrow.block _ (by simp; omega) (fun e => hne e.symm), Below.heap_alloc _ _ _ hlt]
    exact h.src
  · exact (h.bel.alloc h.bel.size ob).grown hgrow (by have := h.bel.size; simp; omega) (fun g hg => (h.own.lt g hg).1)
  · rw [h.acc_, hm]; rfl
theorem quote_next (s : ByteArray) (k : Nat) (h : k < s.size) : (s.data.toList.take (k + 1)).flatMap quoteB = (s.data.toList.take k).flatMap quoteB ++ quoteB s[k] := by
  have hl : k < s.data.toList.length := by rw [← Lib.size_eq]; exact h
  rw [List.take_succ_eq_append_getElem hl, List.flatMap_append, Array.getElem_toList]
  simp
  rfl
theorem step_append_own {P : Program} {ops : Array Oper} {o : Oper} {a : Act} {w : World} {K : Act → World → Prop} {Q : Exit → Act → World → Prop} {E : Prop} (base : Nat)
    (hg : o.guard = none) (s x : Operand) (t : TypeId) (hop : o.op = Op.call { callee := Callee.builtin Builtin.append, args := #[s, x], argTypes := #[t, t] })
    (e : TypeId) (i : TypeInfo) (z : Value) (size bytes : Nat) (h1 : P.underlying t = some (.slice e)) (h2 : P.info? e = some i) (h3 : i.zero = some z) (h4 : i.size = size) (h5 : i.bytes = bytes) (h6 : z.cells.size = size) (h7 : 0 < size)
    (v : Value) (n : Nat) (xs : List Value) (hs : a.eval s = v) (hown : w.ownsRow base e size v n xs)
    (ad : Addr) (m c : Nat) (news : List Value) (hx : a.eval x = .slice (some ad) m c) (hn : news.length = m * size) (hc : ∀ j u, news[j]? = some u → w.cell? (ad.add j) = some u) (h1c : ∀ u ∈ news, u.oneCell' = true)
    (b1 : n + m ≤ maxLen) (b2 : (n + m) * bytes ≤ 140737488355328) (hbase : base ≤ w.heap.size)
    (hK : ∀ v' w', w'.ownsRow base e size v' (n + m) (xs ++ news) → w.grownBy w' v.ownBlock → K (a.put o.dst v') w') :
    if Region.wanted o (yielded ops a.tmps) = true then Oper.wp P o a w K Q else E := by
  have hw : Region.wanted o (yielded ops a.tmps) = true := by simp [Region.wanted, hg]
  rw [if_pos hw]
  obtain ⟨v', w', hrun, r1, r2, _⟩ := run_append_own (P := P) w base t o.type e i z size bytes h1 h2 h3 h4 h5 h6 h7 v n xs hown ad m c news hn hc h1c b1 b2 hbase
  unfold Oper.wp
  simp [execOp, hop, resolve, invoke, builtin, hs, hx, hrun, Result.andThen]
  exact hK v' w' r1 r2
theorem grown_undrew {a w : World} {row : Option Nat} (h : a.drew.grownBy w row) : a.grownBy w row := ⟨h.os, h.tape, h.output, h.size, h.block⟩
theorem new4 {w : World} {a b c d : Value} {t : TypeId} {j : Nat} {u : Value} (h : [a, b, c, d][j]? = some u) : (w.alloc (.cells #[a, b, c, d] t)).cell? (Addr.add ⟨w.heap.size, 0, none⟩ j) = some u := by
  have B := Blk.new w t #[a, b, c, d]
  match j, h with
  | 0, h => simp at h; subst h; exact B.cell 0
  | 1, h => simp at h; subst h; exact B.cell 1
  | 2, h => simp at h; subst h; exact B.cell 2
  | 3, h => simp at h; subst h; exact B.cell 3
theorem hexx (c : UInt8) : bits BinOp.and IntKind.u8 (c.toNat : Int) 15 = (c.toNat : Int) % 16 ∧ (0 ≤ (c.toNat : Int) / 16 ∧ (c.toNat : Int) / 16 < 16) ∧ (0 ≤ (c.toNat : Int) % 16 ∧ (c.toNat : Int) % 16 < 16) := by
  have := c.toNat_lt
  refine ⟨?_, by omega, by omega⟩
  exact all_bytes (p := fun c => bits BinOp.and IntKind.u8 (c.toNat : Int) 15 = (c.toNat : Int) % 16) (by decide +kernel) c
theorem hexx0 (n : Nat) (h : n < 16) : (⟨#[48, 49, 50, 51, 52, 53, 54, 55, 56, 57, 97, 98, 99, 100, 101, 102]⟩ : ByteArray)[n]'h = hexd n := by
  have : ∀ n : Fin 16, (⟨#[48, 49, 50, 51, 52, 53, 54, 55, 56, 57, 97, 98, 99, 100, 101, 102]⟩ : ByteArray)[n.val]'n.isLt = hexd n := by decide +kernel
  exact this ⟨n, h⟩
theorem hexx1 (c : UInt8) : (⟨#[48, 49, 50, 51, 52, 53, 54, 55, 56, 57, 97, 98, 99, 100, 101, 102]⟩ : ByteArray)[((c.toNat : Int) / 16).toNat]'(show _ < 16 by have := c.toNat_lt; omega) = hexd (c.toNat / 16) := by
  have := hexx0 (c.toNat / 16) (by have := c.toNat_lt; omega)
  rw [← this]; congr 1
theorem hexx2 (c : UInt8) : (⟨#[48, 49, 50, 51, 52, 53, 54, 55, 56, 57, 97, 98, 99, 100, 101, 102]⟩ : ByteArray)[((c.toNat : Int) % 16).toNat]'(show _ < 16 by have := c.toNat_lt; omega) = hexd (c.toNat % 16) := by
  have := hexx0 (c.toNat % 16) (by have := c.toNat_lt; omega)
  rw [← this]; congr 1
theorem hexx3 (c : UInt8) : (⟨#[48, 49, 50, 51, 52, 53, 54, 55, 56, 57, 97, 98, 99, 100, 101, 102]⟩ : ByteArray)[c.toNat % 16]'(show _ < 16 by have := c.toNat_lt; omega) = hexd (c.toNat % 16) := hexx0 _ _
set_option maxRecDepth 100000 in
set_option maxHeartbeats 2000000 in
theorem quote_any (s : ByteArray) (hs : s.size ≤ 400000000) (w : World) :
    Calls Tryz.prog 29 #[.string s] w fun e w' => e = .returned (.string ⟨(quoteF s.data.toList).toArray⟩) ∧ Below w.heap.size w w' := by
  obtain ⟨i0, hi, hz0, hz1, hz2⟩ := info_parts infoByte
  have hcv := Lib.run_convert_string_bytes (P := Tryz.prog) (w.alloc (.cells #[.int .u8 34] 5)) 9 56 5 s (u := .string) rfl rfl rfl
  have hcell := Lib.bytesWorld_cell (w.alloc (.cells #[.int .u8 34] 5)) 5 s
  have hfr := Lib.bytesWorld_at_new (w.alloc (.cells #[.int .u8 34] 5)) 5 s
  have hsz := Lib.bytesWorld_size (w.alloc (.cells #[.int .u8 34] 5)) 5 s
  have hbl := Lib.bytesWorld_below (w.alloc (.cells #[.int .u8 34] 5)) 5 s
  have hold := Lib.bytesWorld_at_old (w.alloc (.cells #[.int .u8 34] 5)) 5 s w.heap.size (by simp)
  obtain ⟨cap, hcap⟩ : ∃ cap, grownCap (w.alloc (.cells #[.int .u8 34] 5)) s.size 0 5 = cap := ⟨_, rfl⟩
  rw [hcap] at hcv
  generalize Lib.bytesWorld (w.alloc (.cells #[.int .u8 34] 5)) 5 s = W1 at hcv hcell hfr hsz hbl hold
  simp only [World.size_alloc] at hcv hcell hfr hsz
  have hS0 : QS w W1 W1 s (.slice (some ⟨w.heap.size, 0, none⟩) 1 1) 0 [34] := by
    refine ⟨⟨rfl, .inr ⟨w.heap.size, 1, #[.int .u8 34], rfl, Nat.le_refl _, ?_, Nat.le_refl _, by decide, rfl, rfl⟩⟩, rfl, ?_, rfl⟩
    · rw [hold]; exact heap_alloc_new w _
    · exact ((Below.refl _ w).alloc (Nat.le_refl _) _).trans (hbl.mono (by simp))
  have H0 := Lib.hid (And.intro hS0 (And.intro hfr (And.intro hsz hcell)))
  clear hfr hsz hbl hold hcell hcap hS0
  go_enter Tryz.func29, Tryz.ntmps29
  go_wp2_with fail
  clear hcv
  go_loopw [3, 11] (fun v i wr => ∃ (k : Nat) (acc : List UInt8), k ≤ s.size ∧ i = .int .i64 k ∧ QS w W1 wr s v k acc ∧ acc.length ≤ 1 + 4 * k ∧ w.heap.size + 1 < wr.heap.size) (fun _ i _ => s.size - (intOf i).toNat)
  case atStart => exact ⟨0, [34], Nat.zero_le _, rfl, H0.out.1, by simp, by have := H0.out.2.2.1; omega⟩
  case round =>
    obtain ⟨k, acc, hk, rfl, hq, hal, hrs⟩ := hrel
    obtain ⟨sa, sc, rfl⟩ := own_shape hq.own
    by_cases hlt : k < s.size
    · obtain ⟨c, hc⟩ : ∃ c, s[k] = c := ⟨_, rfl⟩
      have hck : wr.cell? ⟨w.heap.size + 1, k, none⟩ = some (.int .u8 (c.toNat : Int)) := by
        rw [World.cell?_of_block hq.src, H0.out.2.2.2 k hlt]
        have : s.data.toList.getD k 0 = c := by
          have hl : k < s.data.toList.length := by rw [← Lib.size_eq]; exact hlt
          rw [List.getD, List.getElem?_eq_getElem hl, Array.getElem_toList]; exact hc
        rw [this]
      have hm := quote_next s k hlt
      rw [hc] at hm
      have hix := Tryz.strings_IndexByte ⟨#[10, 9, 13, 34, 92]⟩ (c.toNat : Int)
      rw [tu, show (⟨#[10, 9, 13, 34, 92]⟩ : ByteArray).data.toList = [10, 9, 13, 34, 92] from rfl] at hix
      have hki : (k : Int) < (s.size : Int) := by omega
      have hc256 := c.toNat_lt
      have HQ := Lib.hid (And.intro hq hm)
      clear hq hm
      by_cases hp : [10, 9, 13, 34, 92].contains c = true
      · --MARKED
        obtain ⟨x, j, hj, hjx, hbx, hqb⟩ : ∃ (x : UInt8) (j : Nat), j < 5 ∧ Lib.indexByte [10, 9, 13, 34, 92] c = (j : Int) ∧ (∀ hb, (⟨#[110, 116, 114, 34, 92]⟩ : ByteArray)[j]'hb = x) ∧ quoteB c = [92, x] := by
          have hc5 : c = 10 ∨ c = 9 ∨ c = 13 ∨ c = 34 ∨ c = 92 := by simpa using hp
          rcases hc5 with rfl | rfl | rfl | rfl | rfl
          · exact ⟨110, 0, by decide, rfl, fun _ => rfl, rfl⟩
          · exact ⟨116, 1, by decide, rfl, fun _ => rfl, rfl⟩
          · exact ⟨114, 2, by decide, rfl, fun _ => rfl, rfl⟩
          · exact ⟨34, 3, by decide, rfl, fun _ => rfl, rfl⟩
          · exact ⟨92, 4, by decide, rfl, fun _ => rfl, rfl⟩
        rw [hjx] at hix
        have HI := Lib.hid hix
        have HB := Lib.hid hqb
        have hj0 : (0 : Int) ≤ (j : Int) := by omega
        have hj1 : (j : Int) < 5 := by omega
        have hj2 : (0 : Int) ≤ (j : Int) ∧ (j : Int) < 5 := ⟨hj0, hj1⟩
        have hbx' : (⟨#[110, 116, 114, 34, 92]⟩ : ByteArray)[j]'(show j < 5 from hj) = x := hbx _
        clear hp hc hix hjx hbx hqb
        go_wp2_with fail
        refine (HI.out _).mono ?_
        rintro e w2 ⟨rfl, rfl⟩
        go_wp2_with (at_builtin; refine wpList_append_own _ rfl _ _ 56 rfl w.heap.size 5 i0 (.int .u8 0) 1 1 Tryz.underlying56 hi hz0 hz1 hz2 rfl (by decide) _ _ _ rfl (HQ.out.1.own.alloc _) ⟨w2.heap.size, 0, none⟩ 2 2 [(.int .u8 92), (.int .u8 (x.toNat : Int))] rfl rfl ?c1 ?c2 ?c3 ?c4 ?c5 ?_)
        case c1 =>
          intro j u hj
          match j, hj with
          | 0, hj => simp at hj; subst hj; exact (Blk.new _ _ _).cell 0
          | 1, hj => simp at hj; subst hj; exact (Blk.new _ _ _).cell 1
        case c2 => intro u hu; simp at hu; rcases hu with rfl | rfl <;> rfl
        case c3 => unfold maxLen; omega
        case c4 => omega
        case c5 => simp; omega
        intro v' w3 hown' hgrow _
        have hq3 := HQ.out.1.append (more := [92, x]) H0.out.2.1 hrs hown' hgrow (by rw [HQ.out.2, HB.out])
        have hz3 := hgrow.size
        have H3 := Lib.hid hq3
        clear hown' hgrow hq3
        go_wp2_with fail
        go_roundw
        case rel => exact ⟨k + 1, acc ++ [92, x], by omega, by go_num, H3.out, by simp; omega, by simp at hz3; omega⟩
        case measure => simp [intOf]; omega
      · have hpx : Lib.indexByte [10, 9, 13, 34, 92] c = -1 := by
          have hp' : [10, 9, 13, 34, 92].contains c = false := by simpa using hp
          revert hp'
          exact all_bytes (p := fun c => [10, 9, 13, 34, 92].contains c = false → Lib.indexByte [10, 9, 13, 34, 92] c = -1) (by decide +kernel) c
        rw [hpx] at hix
        have HI := Lib.hid hix
        clear hix hpx
        by_cases hh : c.toNat < 32 ∨ 126 < c.toNat
        · have hqb : quoteB c = [92, 120, hexd (c.toNat / 16), hexd (c.toNat % 16)] := by
            simp at hp
            unfold quoteB
            rw [if_neg hp.1, if_neg hp.2.1, if_neg hp.2.2.1, if_neg hp.2.2.2.1, if_neg hp.2.2.2.2, if_pos hh]
          have HB := Lib.hid hqb
          have hh' : (c.toNat : Int) < 32 ∨ (¬ (c.toNat : Int) < 32 ∧ 126 < (c.toNat : Int)) := by omega
          clear hqb hp hh hc
          rcases hh' with hh | ⟨hh, hh2⟩
          all_goals
            obtain ⟨hq0, hq1, hq2⟩ := hexx c
            have hq3 := hexx1 c
            have hq4 := hexx2 c
            have hq5 := hexx3 c
            go_wp2_with fail
            refine (HI.out _).mono ?_
            rintro e w2 ⟨rfl, rfl⟩
            go_wp2_with fail
            go_region_law (refine step_append_own w.heap.size rfl (.tmp 36) (.tmp 43) 56 rfl 5 i0 (.int .u8 0) 1 1 Tryz.underlying56 hi hz0 hz1 hz2 rfl (by decide) _ _ _ (by simp [Act.eval, Act.put]) (HQ.out.1.own.alloc _) ⟨w2.heap.size, 0, none⟩ 4 4 [.int .u8 92, .int .u8 120, .int .u8 (hexd (c.toNat / 16)).toNat, .int .u8 (hexd (c.toNat % 16)).toNat] (by simp [Act.eval, Act.put]) rfl (fun j u hj => new4 hj) (fun u hu => by simp at hu; rcases hu with rfl | rfl | rfl | rfl <;> rfl) (by unfold maxLen; omega) (by omega) (by simp; omega) ?_; intro v' w3 hown' hgrow)
            all_goals
              have hgrow := grown_undrew hgrow
              have hq3 := HQ.out.1.append (more := [92, 120, hexd (c.toNat / 16), hexd (c.toNat % 16)]) H0.out.2.1 hrs hown' hgrow (by rw [HQ.out.2, HB.out])
              have hz3 := hgrow.size
              have H3 := Lib.hid hq3
              clear hown' hgrow hq3
              go_wp2_with fail
              go_roundw
              case rel => exact ⟨k + 1, acc ++ [92, 120, hexd (c.toNat / 16), hexd (c.toNat % 16)], by omega, by go_num, H3.out, by simp; omega, by simp at hz3; omega⟩
              case measure => simp [intOf]; omega
        · have hqb : quoteB c = [c] := by
            simp at hp
            unfold quoteB
            rw [if_neg hp.1, if_neg hp.2.1, if_neg hp.2.2.1, if_neg hp.2.2.2.1, if_neg hp.2.2.2.2, if_neg hh]
          have HB := Lib.hid hqb
          have hh1 : ¬ (c.toNat : Int) < 32 := by omega
          have hh2 : ¬ 126 < (c.toNat : Int) := by omega
          clear hqb hp hh hc
          --PLAIN
          go_wp2_with fail
          refine (HI.out _).mono ?_
          rintro e w2 ⟨rfl, rfl⟩
          go_wp2_with (at_builtin; refine wpList_append_own _ rfl _ _ 56 rfl w.heap.size 5 i0 (.int .u8 0) 1 1 Tryz.underlying56 hi hz0 hz1 hz2 rfl (by decide) _ _ _ rfl (HQ.out.1.own.alloc _) ⟨w2.heap.size, 0, none⟩ 1 1 [(.int .u8 (c.toNat : Int))] rfl rfl ?c1 ?c2 ?c3 ?c4 ?c5 ?_)
          case c1 =>
            intro j u hj
            match j, hj with
            | 0, hj => simp at hj; subst hj; exact (Blk.new _ _ _).cell 0
          case c2 => intro u hu; simp at hu; subst hu; rfl
          case c3 => unfold maxLen; omega
          case c4 => omega
          case c5 => simp; omega
          intro v' w3 hown' hgrow _
          have hq3 := HQ.out.1.append (more := [c]) H0.out.2.1 hrs hown' hgrow (by rw [HQ.out.2, HB.out])
          have hz3 := hgrow.size
          have H3 := Lib.hid hq3
          clear hown' hgrow hq3
          go_wp2_with fail
          go_roundw
          case rel => exact ⟨k + 1, acc ++ [c], by omega, by go_num, H3.out, by simp; omega, by simp at hz3; omega⟩
          case measure => simp [intOf]; omega
    · obtain rfl : k = s.size := by omega
      have hfin : acc ++ [34] = quoteF s.data.toList := by
        rw [hq.acc_, List.take_of_length_le (by rw [← Lib.size_eq]; exact Nat.le_refl _)]; rfl
      have hown := hq.own
      have hbel := hq.bel
      have HQ := Lib.hid (And.intro hown (And.intro hbel hfin))
      clear hq hown hbel hfin
      go_wp2_with (at_builtin; refine wpList_append_own _ rfl _ _ 56 rfl w.heap.size 5 i0 (.int .u8 0) 1 1 Tryz.underlying56 hi hz0 hz1 hz2 rfl (by decide) _ _ _ rfl (HQ.out.1.alloc _) ⟨wr.heap.size, 0, none⟩ 1 1 [.int .u8 34] rfl rfl ?c1 ?c2 ?c3 ?c4 ?c5 ?_)
      case c1 =>
        intro j u hj
        match j, hj with
        | 0, hj => simp at hj; subst hj; exact (Blk.new _ _ _).cell 0
      case c2 => intro u hu; simp at hu; subst hu; rfl
      case c3 => unfold maxLen; omega
      case c4 => omega
      case c5 => simp; omega
      intro v' w3 hown' hgrow _
      have hb3 : Below w.heap.size w w3 := (HQ.out.2.1.alloc HQ.out.2.1.size _).grown hgrow (by simp; omega) (fun g hg => (HQ.out.1.lt g hg).1)
      have ho3 : w3.ownsRow w.heap.size 5 1 v' (acc ++ [34]).length (byteCells (acc ++ [34])) := by
        have := hown'
        rw [show [Value.int .u8 34] = [.int .u8 ((34 : UInt8).toNat : Int)] from rfl, byteCells_snoc] at this
        simpa using this
      have hcv2 := conv_own (P := Tryz.prog) (src := 56) (dst := 9) (by rfl) (by rfl) (by rfl) ho3
      obtain ⟨nn, hnn⟩ : ∃ nn, (acc ++ [34]).length = nn := ⟨_, rfl⟩
      rw [hnn] at ho3
      obtain ⟨sa, sc, rfl⟩ := own_shape ho3
      clear hnn
      have H3 := Lib.hid hb3
      clear hown' hgrow hb3 ho3
      go_wp2_with fail
      go_ret
      rw [HQ.out.2.2]
      exact ⟨rfl, H3.out⟩
end Go.Proofs.YtacgnbelcpmjfaaGreatDoor.Dx
