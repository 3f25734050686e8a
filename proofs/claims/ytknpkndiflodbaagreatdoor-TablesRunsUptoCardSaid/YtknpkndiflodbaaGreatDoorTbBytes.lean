/-
  WALKS: sets.Bytes and its iterator (turned from deflex's texts).
-/
import Derived.Test.YtknpkndiflodbaaGreatDoorTbMem
import Derived.Test.YtknpkndiflodbaaGreatDoorRangeA
import Derived.Lib.TrailingZeros
import Derived.Shelf.Spec.TrailingZeros
import Derived.Laws.Bits128
import Derived.Laws.Rows
import Derived.Shelf.Abstract
import Derived.Shelf.RegionOpen
import Derived.OwnWalkIn
import Derived.TacticsInMore
import Derived.LoopNIn
import Derived.LoopIn
set_option linter.unusedVariables false
set_option linter.unusedSimpArgs false
namespace Go.Proofs.YtknpkndiflodbaaGreatDoor.Tb
open Go Go.RowKit Go.Proofs Mx Go.Shelf
/-- Below it lie the library's variables that the walks read. -/
abbrev LB : Nat := 1 + 1
def bytesTo (M n : Nat) : List UInt8 := ((List.range n).filter (fun i => M.testBit i)).map UInt8.ofNat
def bytesOf (M : Nat) : List UInt8 := bytesTo M 256
theorem bytesTo_succ (M n : Nat) : bytesTo M (n + 1) = if M.testBit n then bytesTo M n ++ [UInt8.ofNat n] else bytesTo M n := by
  unfold bytesTo
  rw [List.range_succ, List.filter_append]
  cases h : M.testBit n <;> simp [h]
def wdN (M j : Nat) : Nat := M / 2 ^ (64 * j) % 18446744073709551616
theorem wd_nat (M j : Nat) : wd M j = ((wdN M j : Nat) : Int) := rfl
theorem wdN_lt (M j : Nat) : wdN M j < 2 ^ 64 := Nat.mod_lt _ (by decide)
theorem and_pow (k A B p q : Nat) (hp : p < 2 ^ k) (hq : q < 2 ^ k) : (2 ^ k * A + p) &&& (2 ^ k * B + q) = 2 ^ k * (A &&& B) + (p &&& q) := by
  have h1 : ((2 ^ k * A + p) &&& (2 ^ k * B + q)) % 2 ^ k = p &&& q := by
    rw [Nat.and_mod_two_pow, Nat.mul_add_mod, Nat.mul_add_mod, Nat.mod_eq_of_lt hp, Nat.mod_eq_of_lt hq]
  have h2 : ((2 ^ k * A + p) &&& (2 ^ k * B + q)) / 2 ^ k = A &&& B := by
    have := Nat.shiftRight_and_distrib (a := 2 ^ k * A + p) (b := 2 ^ k * B + q) (i := k)
    rw [Nat.shiftRight_eq_div_pow, Nat.shiftRight_eq_div_pow, Nat.shiftRight_eq_div_pow] at this
    rw [this, Nat.mul_add_div (Nat.two_pow_pos k), Nat.mul_add_div (Nat.two_pow_pos k), Nat.div_eq_of_lt hp, Nat.div_eq_of_lt hq]
    rfl
  rw [← Nat.div_add_mod ((2 ^ k * A + p) &&& (2 ^ k * B + q)) (2 ^ k), h1, h2]
/-- The lowest bit that is 1, and what is left without it. -/
theorem low_clear (x k m : Nat) (h : x = 2 ^ k * (2 * m + 1)) : x &&& (x - 1) = 2 ^ k * (2 * m) := by
  have hp := Nat.two_pow_pos k
  have e1 : x = 2 ^ k * (2 * m + 1) + 0 := h
  have e2 : x - 1 = 2 ^ k * (2 * m) + (2 ^ k - 1) := by rw [h, Nat.mul_add, Nat.mul_one]; omega
  have e3 : (2 * m + 1) &&& (2 * m) = 2 * m := by
    have := and_pow 1 m m 1 0 (by decide) (by decide)
    simpa using this
  rw [e2]
  conv => lhs; lhs; rw [e1]
  rw [and_pow k _ _ 0 _ hp (by omega), e3]
  simp
theorem filter_first (p q : Nat → Bool) (k : Nat) (hk : p k = true) (hlow : ∀ i, i < k → p i = false) (hq : ∀ i, q i = (p i && decide (i ≠ k))) : ∀ n, k < n → (List.range n).filter p = k :: (List.range n).filter q := by
  intro n
  induction n with
  | zero => intro h; omega
  | succ n ih =>
    intro h
    rw [List.range_succ, List.filter_append, List.filter_append]
    by_cases hkn : k = n
    · subst hkn
      have h1 : (List.range k).filter p = [] := by
        rw [List.filter_eq_nil_iff]; intro i hi; rw [hlow i (by simpa using hi)]; simp
      have h2 : (List.range k).filter q = [] := by
        rw [List.filter_eq_nil_iff]; intro i hi; rw [hq, hlow i (by simpa using hi)]; simp
      rw [h1, h2]
      simp [hk, hq]
    · rw [ih (by omega)]
      have : q n = p n := by rw [hq]; simp; intro _; omega
      simp [List.filter_cons, this]
theorem bits_first (x k m n : Nat) (h : x = 2 ^ k * (2 * m + 1)) (hk : k < n) :
    (List.range n).filter (fun i => x.testBit i) = k :: (List.range n).filter (fun i => (2 ^ k * (2 * m)).testBit i) := by
  have ht : ∀ t i, (2 ^ k * t).testBit i = (decide (k ≤ i) && t.testBit (i - k)) := fun t i => by rw [Nat.testBit_two_pow_mul]
  refine filter_first _ _ k ?_ ?_ ?_ n hk
  · rw [h, ht]; simp
  · intro i hi; rw [h, ht]; simp; omega
  · intro i
    rw [h, ht, ht]
    rcases Nat.lt_trichotomy i k with hlt | rfl | hgt
    · have : decide (k ≤ i) = false := by simp; omega
      rw [this]; rfl
    · simp
    · obtain ⟨d, hd⟩ : ∃ d, i - k = d + 1 := ⟨i - k - 1, by omega⟩
      rw [hd, Nat.testBit_succ, Nat.testBit_succ, show (2 * m + 1) / 2 = m by omega, show 2 * m / 2 = m by omega]
      have : decide (i ≠ k) = true := by simp; omega
      rw [this]; simp
theorem bits_none (n : Nat) : (List.range n).filter (fun i => (0 : Nat).testBit i) = [] := by simp
/-- The bytes of word j of a set. -/
def wordBytes (M j : Nat) : List UInt8 := ((List.range 64).filter (fun i => (wdN M j).testBit i)).map (fun i => UInt8.ofNat (64 * j + i))
theorem bytesTo_word (M n : Nat) : ∀ m, bytesTo M (n + m) = bytesTo M n ++ ((List.range m).filter (fun i => M.testBit (n + i))).map (fun i => UInt8.ofNat (n + i)) := by
  intro m
  induction m with
  | zero => simp
  | succ m ih =>
    rw [← Nat.add_assoc, bytesTo_succ, ih, List.range_succ, List.filter_append, List.map_append]
    cases h : M.testBit (n + m) <;> simp [h]
theorem bytesOf_words (M : Nat) : bytesOf M = wordBytes M 0 ++ (wordBytes M 1 ++ (wordBytes M 2 ++ wordBytes M 3)) := by
  have hw : ∀ j, wordBytes M j = ((List.range 64).filter (fun i => M.testBit (64 * j + i))).map (fun i => UInt8.ofNat (64 * j + i)) := by
    intro j
    unfold wordBytes
    congr 1
    apply List.filter_congr
    intro i hi
    have : i < 64 := by simpa using hi
    rw [wdN, show (18446744073709551616 : Nat) = 2 ^ 64 by decide, Nat.testBit_mod_two_pow, Nat.testBit_div_two_pow]
    simp [this, Nat.add_comm]
  unfold bytesOf
  rw [show (256 : Nat) = 0 + 64 + 64 + 64 + 64 from rfl, bytesTo_word, bytesTo_word, bytesTo_word, bytesTo_word, hw, hw, hw, hw]
  simp [bytesTo]
/-- The table of the lowest bits, as its initialiser lays it. -/
def Bru (w : World) : Prop := ∀ j, j < 64 → w.cell? ⟨1, j, none⟩ = some (.int .u8 (Lib.deBruijn64tab.getD j 0))
theorem Bru.below {w w' : World} {B : Nat} (h : Bru w) (hb : Below B w w') (hB : LB ≤ B) : Bru w' := fun j hj =>
  (hb.cell (p := ⟨1, j, none⟩) (Nat.lt_of_lt_of_le (show 1 < LB by decide) hB)).trans (h j hj)
set_option maxHeartbeats 1000000 in
theorem tz_core (x k idx : Nat) (w : World) (hx0 : ((x : Int) == 0) = false)
    (key : IntKind.u64.wrap (bits BinOp.and IntKind.u64 (x : Int) (IntKind.u64.wrap (-(x : Int))) * 285870213051353865) / 288230376151711744 = (idx : Int))
    (hi : idx < 64) (hk : k < 64) (hcell : w.cell? ⟨1, idx, none⟩ = some (.int .u8 k)) :
    Calls Tryz.prog 141 #[.int .u64 (x : Int)] w fun e w' => e = .returned (.int .i64 k) ∧ w = w' := by
  go_enter Tryz.func141, Tryz.ntmps141
  go_wp2_with (simp only [key])
  go_ret
  exact ⟨rfl, rfl⟩
theorem tz_any (x : Nat) (hx : x < 18446744073709551616) (hx0 : x ≠ 0) (w : World) (hT : Bru w) :
    Calls Tryz.prog 141 #[.int .u64 (x : Int)] w fun e w' => e = .returned (.int .i64 (Lib.ctz 64 x)) ∧ w = w' := by
  obtain ⟨hlow, hk⟩ := Lib.lowest_bit 64 x hx0 hx
  obtain ⟨hi, htab⟩ := Lib.deBruijn64_at _ hk
  have hi' : Lib.ctz 64 x < 64 := hk
  have hcell := hT _ (show _ < 64 from hi)
  rw [htab] at hcell
  exact tz_core x _ _ w (by simp; omega) (tz64_key x _ hx hx0 hlow) hi hk hcell
theorem ix0 (a b c d : Value) (w : World) : (Instr.index 26 (.agg #[a, b, c, d]) (.int .i64 0)).run Tryz.prog w = .ok a w := by kernel_rfl
theorem ix1 (a b c d : Value) (w : World) : (Instr.index 26 (.agg #[a, b, c, d]) (.int .i64 1)).run Tryz.prog w = .ok b w := by kernel_rfl
theorem ix2 (a b c d : Value) (w : World) : (Instr.index 26 (.agg #[a, b, c, d]) (.int .i64 2)).run Tryz.prog w = .ok c w := by kernel_rfl
theorem ix3 (a b c d : Value) (w : World) : (Instr.index 26 (.agg #[a, b, c, d]) (.int .i64 3)).run Tryz.prog w = .ok d w := by kernel_rfl
attribute [local go_sem] Oper.semAt_some
theorem callsIn_mk {n : Nat} {P : Program} {f : FuncId} {args : Array Value} {w : World} {R : Ending → World → Prop} (h : Calls P f args w R) : CallsIn Fence.wide n P f args w R := callsIn_wide.2 h
theorem abides_below {β : Type} {B : Nat} {J : β → World → Prop} (h : AbidesFrom B J) {s : β} {W W' : World} (hs : J s W) (hb : Below W.heap.size W W') : J s W' :=
  h s W W' none hs ⟨hb.os, hb.tape, hb.output, hb.size, fun k hk _ => hb.block k hk⟩ (fun r e => by cases e)
theorem yield_bool {e : Ending} {A B : Prop} (h : (e = .returned (.bool true) ∧ A) ∨ (e = .returned (.bool false) ∧ B)) : ∃ b, e = .returned (.bool b) ∧ Hid ((b = true → A) ∧ (b = false → B)) := by
  rcases h with ⟨rfl, h⟩ | ⟨rfl, h⟩
  · exact ⟨true, rfl, ⟨fun _ => h, fun h => absurd h (by decide)⟩⟩
  · exact ⟨false, rfl, ⟨fun h => absurd h (by decide), fun _ => h⟩⟩
theorem bytes_any (M : Nat) (w : World) :
    Calls Tryz.prog 113 #[setV M] w fun e w' => e = .returned (.func (.func 140) #[] #[.pointer (some ⟨w.heap.size, 0, none⟩)]) ∧ w' = w.alloc (.cells (setC M) 26) := by
  have hmf : ∀ (fn : Fn) (first cap : Array Value) (w : World), (Instr.makeFunc fn first cap).run Tryz.prog w = .ok (.func fn first cap) w := fun _ _ _ _ => rfl
  unfold setV
  go_enter Tryz.func113, Tryz.ntmps113
  go_wp2
  go_ret
  exact ⟨rfl, rfl⟩
def byteK (M k : Nat) : UInt8 := (bytesOf M).getD k 0
def tailW (M j : Nat) : List UInt8 :=
  if j = 0 then bytesOf M else if j = 1 then wordBytes M 1 ++ (wordBytes M 2 ++ wordBytes M 3) else if j = 2 then wordBytes M 2 ++ wordBytes M 3 else if j = 3 then wordBytes M 3 else []
def restW (j y : Nat) : List UInt8 := ((List.range 64).filter (fun i => y.testBit i)).map (fun i => UInt8.ofNat (64 * j + i))
theorem tailW_next (M j : Nat) (hj : j < 4) : tailW M j = restW j (wdN M j) ++ tailW M (j + 1) := by
  match j, hj with
  | 0, _ => exact bytesOf_words M
  | 1, _ => rfl
  | 2, _ => rfl
  | 3, _ => show wordBytes M 3 = wordBytes M 3 ++ []; simp
theorem restW_zero (j : Nat) : restW j 0 = [] := by simp [restW]
theorem restW_next (j y : Nat) (hy : y ≠ 0) (hlt : y < 2 ^ 64) : ∃ t, t < 64 ∧ t = Lib.ctz 64 y ∧ y &&& (y - 1) < y ∧ restW j y = UInt8.ofNat (64 * j + t) :: restW j (y &&& (y - 1)) := by
  have hc : Lib.ctz 64 y = Lib.ctzFrom 64 y := by rw [Lib.ctz, if_neg hy]
  obtain ⟨m, hm, ht⟩ := Lib.ctzFrom_spec 64 y (by omega) hlt
  refine ⟨Lib.ctzFrom 64 y, ht, hc.symm, ?_, ?_⟩
  · have := @Nat.and_le_right y (y - 1); omega
  · have h1 := bits_first y _ m 64 hm ht
    rw [low_clear y _ m hm]
    unfold restW
    rw [h1]
    rfl
theorem drop_getD (l : List UInt8) (k : Nat) (b : UInt8) (t : List UInt8) (h : l.drop k = b :: t) : k < l.length ∧ l.getD k 0 = b ∧ l.drop (k + 1) = t := by
  have hk : k < l.length := by
    rcases Nat.lt_or_ge k l.length with h1 | h1
    · exact h1
    · rw [List.drop_eq_nil_of_le h1] at h; cases h
  rw [List.drop_eq_getElem_cons hk] at h
  injection h with h1 h2
  exact ⟨hk, by simp [List.getD, List.getElem?_eq_getElem hk, h1], h2⟩

set_option maxRecDepth 100000 in
set_option maxHeartbeats 2000000 in
theorem bytes_iter (M n n0 bs : Nat) (hn : 1 ≤ n) (w : World) (hT : Bru w) (hn6 : LB ≤ n0) (hn0 : n0 ≤ w.heap.size) (hbs : Blk w bs 26 (setC M)) :
    SeqP Fence.wide n Tryz.prog 140 #[.pointer (some ⟨bs, 0, none⟩)] (fun k => #[.int .u8 ((byteK M k).toNat : Int)]) (Below n0) (bytesOf M).length w := by
  intro l J Jx W hW' hY h0
  have hbW : Blk W bs 26 (setC M) := hbs.below hW' hbs.lt
  have hW := hW'.mono hn0
  have hsW : n0 ≤ W.heap.size := Nat.le_trans hn0 hW'.size
  clear hW'
  obtain ⟨c0, c1, c2, c3, cf⟩ := Blk.facts4 (v0 := .int .u64 ((wdN M 0 : Nat) : Int)) (v1 := .int .u64 ((wdN M 1 : Nat) : Int)) (v2 := .int .u64 ((wdN M 2 : Nat) : Int)) (v3 := .int .u64 ((wdN M 3 : Nat) : Int)) hbW
  have hro : Fence.wide.round = none := rfl
  have i0 := ix0
  have i1 := ix1
  have i2 := ix2
  have i3 := ix3
  refine callsIn_of_wp Tryz.func140 rfl trivial ?_ hro
  simp only [Tryz.ntmps140, List.size_toArray, List.length_cons, List.length_nil, Nat.reduceAdd, Nat.reduceSub, Array.replicate_succ, Array.replicate_zero, List.push_toArray, List.append_toArray, List.nil_append, List.cons_append]
  gi_wp2
  gi_loopw [6] (fun i wr => ∃ j k : Nat, j ≤ 4 ∧ i = .int .i64 j ∧ (bytesOf M).drop k = tailW M j ∧ J k wr ∧ Below n0 w wr ∧ n0 ≤ wr.heap.size ∧ k ≤ (bytesOf M).length) (fun i _ => 4 - (intOf i).toNat)
  case atStart => exact ⟨0, 0, by omega, rfl, rfl, h0, hW, hsW, Nat.zero_le _⟩
  case round =>
    obtain ⟨j, k, hj, rfl, hdr, hJk, hbr, hsr, hkN⟩ := hrel
    have HO := Lib.hid (And.intro hdr (And.intro hJk (And.intro hbr (And.intro hsr hkN))))
    clear hdr hJk hbr hsr hkN h0 hW
    rcases (show j = 0 ∨ j = 1 ∨ j = 2 ∨ j = 3 ∨ j = 4 by omega) with rfl | rfl | rfl | rfl | rfl
    · gi_wp2
      obtain ⟨wo, rfl⟩ : ∃ wo : World, wo = wr := ⟨_, rfl⟩
      gi_loopw [4] (fun v wr => ∃ y k : Nat, v = .int .u64 (y : Int) ∧ y < 2 ^ 64 ∧ (bytesOf M).drop k = restW 0 y ++ tailW M 1 ∧ J k wr ∧ Below n0 w wr ∧ n0 ≤ wr.heap.size ∧ k ≤ (bytesOf M).length) (fun v _ => (intOf v).toNat)
      case atStart => exact ⟨wdN M 0, k, rfl, wdN_lt M 0, by rw [HO.out.1]; exact tailW_next M 0 (by decide), HO.out.2.1, HO.out.2.2.1, HO.out.2.2.2⟩
      case round =>
        obtain ⟨y, k, rfl, hy, hdr, hJk, hbr, hsr, hkN⟩ := hrel
        clear HO
        by_cases hy0 : y = 0
        · subst hy0
          rw [restW_zero, List.nil_append] at hdr
          have HI := Lib.hid (And.intro hdr (And.intro hJk (And.intro hbr (And.intro hsr hkN))))
          clear hdr hJk hbr hsr hkN
          gi_wp2
          go_roundw
          case rel => exact ⟨1, k, by omega, rfl, HI.out⟩
          case measure => simp [intOf]
        · obtain ⟨t, ht, htz, hlow, hrest⟩ := restW_next 0 y hy0 hy
          rw [hrest, List.cons_append] at hdr
          obtain ⟨hk1, hk2, hk3⟩ := drop_getD _ _ _ _ hdr
          have hy64 : y < 18446744073709551616 := hy
          have htzc := fun W hT => tz_any y hy64 hy0 W hT
          rw [← htz] at htzc
          have HT := Lib.hid htzc
          have hby : (((UInt8.ofNat (64 * 0 + t)).toNat : Nat) : Int) = ((64 * 0 + t : Nat) : Int) := by simp; omega
          have hbk : ((byteK M k).toNat : Int) = ((64 * 0 + t : Nat) : Int) := by rw [← hby]; unfold byteK; rw [hk2]
          have hne : ((y : Int) != 0) = true := by simp; omega
          have hyk := hY k _ hJk hk1
          have hbk2 : ((byteK M k).toNat : Int) = (t : Int) := by rw [hbk]; omega
          rw [hbk2] at hyk
          obtain ⟨fn, tmps, assign, body, hyr, hR⟩ := hyk
          have htb : (t : Int) ≤ 63 := by omega
          have hz : y &&& (y - 1) < 2 ^ 64 := by omega
          have hand : bits .and .u64 (y : Int) (IntKind.u64.wrap ((y : Int) - 1)) = ((y &&& (y - 1) : Nat) : Int) := by
            have := bits_and_u64_nat y (y - 1) hy64 (by omega)
            rw [← this]; congr 1; rw [IntKind.wrap_u64]; omega
          have HI := Lib.hid (And.intro hk3 (And.intro hJk (And.intro hbr (And.intro hsr (And.intro hbk (And.intro hlow (And.intro hz hk1)))))))
          clear hkN
          clear hdr hJk hbr hsr hk3 hby hbk hlow hz hk1 hk2 hrest htz htzc hy0 hbk2
          gi_wp2
          refine ⟨trivial, (callsIn_mk (HT.out _ (hT.below HI.out.2.2.1 hn6))).mono ?_⟩
          rintro e w1 ⟨rfl, rfl⟩
          gi_wp2
          refine hR.mono ?_
          rintro e W' h
          obtain ⟨b, rfl, hb⟩ := yield_bool h
          clear hR hyr
          cases b
          · gi_wp2
            refine bodyPost_ret (results_none rfl _ _ _) rfl ?_
            exact ⟨⟨_, rfl⟩, .inr ⟨k + 1, HI.out.2.2.2.2.2.2.2, hb.out.2 (by trivial)⟩⟩
          · gi_wp2
            have hn := hb.out.1 (by trivial)
            have hrel : (bytesOf M).drop (k + 1) = restW 0 (y &&& (y - 1)) ++ tailW M 1 ∧ J (k + 1) W' ∧ Below n0 w W' ∧ n0 ≤ W'.heap.size ∧ k + 1 ≤ (bytesOf M).length :=
              ⟨HI.out.1, hn.1, HI.out.2.2.1.trans hn.2, Nat.le_trans HI.out.2.2.2.1 hn.2.size, HI.out.2.2.2.2.2.2.2⟩
            go_roundw
            case rel => (repeat apply Exists.intro); exact ⟨⟨y &&& (y - 1), k + 1, rfl, HI.out.2.2.2.2.2.2.1, hrel⟩, rfl⟩
            case measure => simp [intOf]; exact HI.out.2.2.2.2.2.1
    · gi_wp2
      obtain ⟨wo, rfl⟩ : ∃ wo : World, wo = wr := ⟨_, rfl⟩
      gi_loopw [4] (fun v wr => ∃ y k : Nat, v = .int .u64 (y : Int) ∧ y < 2 ^ 64 ∧ (bytesOf M).drop k = restW 1 y ++ tailW M 2 ∧ J k wr ∧ Below n0 w wr ∧ n0 ≤ wr.heap.size ∧ k ≤ (bytesOf M).length) (fun v _ => (intOf v).toNat)
      case atStart => exact ⟨wdN M 1, k, rfl, wdN_lt M 1, by rw [HO.out.1]; exact tailW_next M 1 (by decide), HO.out.2.1, HO.out.2.2.1, HO.out.2.2.2⟩
      case round =>
        obtain ⟨y, k, rfl, hy, hdr, hJk, hbr, hsr, hkN⟩ := hrel
        clear HO
        by_cases hy0 : y = 0
        · subst hy0
          rw [restW_zero, List.nil_append] at hdr
          have HI := Lib.hid (And.intro hdr (And.intro hJk (And.intro hbr (And.intro hsr hkN))))
          clear hdr hJk hbr hsr hkN
          gi_wp2
          go_roundw
          case rel => exact ⟨2, k, by omega, rfl, HI.out⟩
          case measure => simp [intOf]
        · obtain ⟨t, ht, htz, hlow, hrest⟩ := restW_next 1 y hy0 hy
          rw [hrest, List.cons_append] at hdr
          obtain ⟨hk1, hk2, hk3⟩ := drop_getD _ _ _ _ hdr
          have hy64 : y < 18446744073709551616 := hy
          have htzc := fun W hT => tz_any y hy64 hy0 W hT
          rw [← htz] at htzc
          have HT := Lib.hid htzc
          have hby : (((UInt8.ofNat (64 * 1 + t)).toNat : Nat) : Int) = ((64 * 1 + t : Nat) : Int) := by simp; omega
          have hbk : ((byteK M k).toNat : Int) = ((64 * 1 + t : Nat) : Int) := by rw [← hby]; unfold byteK; rw [hk2]
          have hne : ((y : Int) != 0) = true := by simp; omega
          have hyk := hY k _ hJk hk1
          have hbk2 : ((byteK M k).toNat : Int) = 64 + (t : Int) := by rw [hbk]; omega
          rw [hbk2] at hyk
          obtain ⟨fn, tmps, assign, body, hyr, hR⟩ := hyk
          have htb : (t : Int) ≤ 63 := by omega
          have hz : y &&& (y - 1) < 2 ^ 64 := by omega
          have hand : bits .and .u64 (y : Int) (IntKind.u64.wrap ((y : Int) - 1)) = ((y &&& (y - 1) : Nat) : Int) := by
            have := bits_and_u64_nat y (y - 1) hy64 (by omega)
            rw [← this]; congr 1; rw [IntKind.wrap_u64]; omega
          have HI := Lib.hid (And.intro hk3 (And.intro hJk (And.intro hbr (And.intro hsr (And.intro hbk (And.intro hlow (And.intro hz hk1)))))))
          clear hkN
          clear hdr hJk hbr hsr hk3 hby hbk hlow hz hk1 hk2 hrest htz htzc hy0 hbk2
          gi_wp2
          refine ⟨trivial, (callsIn_mk (HT.out _ (hT.below HI.out.2.2.1 hn6))).mono ?_⟩
          rintro e w1 ⟨rfl, rfl⟩
          gi_wp2
          refine hR.mono ?_
          rintro e W' h
          obtain ⟨b, rfl, hb⟩ := yield_bool h
          clear hR hyr
          cases b
          · gi_wp2
            refine bodyPost_ret (results_none rfl _ _ _) rfl ?_
            exact ⟨⟨_, rfl⟩, .inr ⟨k + 1, HI.out.2.2.2.2.2.2.2, hb.out.2 (by trivial)⟩⟩
          · gi_wp2
            have hn := hb.out.1 (by trivial)
            have hrel : (bytesOf M).drop (k + 1) = restW 1 (y &&& (y - 1)) ++ tailW M 2 ∧ J (k + 1) W' ∧ Below n0 w W' ∧ n0 ≤ W'.heap.size ∧ k + 1 ≤ (bytesOf M).length :=
              ⟨HI.out.1, hn.1, HI.out.2.2.1.trans hn.2, Nat.le_trans HI.out.2.2.2.1 hn.2.size, HI.out.2.2.2.2.2.2.2⟩
            go_roundw
            case rel => (repeat apply Exists.intro); exact ⟨⟨y &&& (y - 1), k + 1, rfl, HI.out.2.2.2.2.2.2.1, hrel⟩, rfl⟩
            case measure => simp [intOf]; exact HI.out.2.2.2.2.2.1
    · gi_wp2
      obtain ⟨wo, rfl⟩ : ∃ wo : World, wo = wr := ⟨_, rfl⟩
      gi_loopw [4] (fun v wr => ∃ y k : Nat, v = .int .u64 (y : Int) ∧ y < 2 ^ 64 ∧ (bytesOf M).drop k = restW 2 y ++ tailW M 3 ∧ J k wr ∧ Below n0 w wr ∧ n0 ≤ wr.heap.size ∧ k ≤ (bytesOf M).length) (fun v _ => (intOf v).toNat)
      case atStart => exact ⟨wdN M 2, k, rfl, wdN_lt M 2, by rw [HO.out.1]; exact tailW_next M 2 (by decide), HO.out.2.1, HO.out.2.2.1, HO.out.2.2.2⟩
      case round =>
        obtain ⟨y, k, rfl, hy, hdr, hJk, hbr, hsr, hkN⟩ := hrel
        clear HO
        by_cases hy0 : y = 0
        · subst hy0
          rw [restW_zero, List.nil_append] at hdr
          have HI := Lib.hid (And.intro hdr (And.intro hJk (And.intro hbr (And.intro hsr hkN))))
          clear hdr hJk hbr hsr hkN
          gi_wp2
          go_roundw
          case rel => exact ⟨3, k, by omega, rfl, HI.out⟩
          case measure => simp [intOf]
        · obtain ⟨t, ht, htz, hlow, hrest⟩ := restW_next 2 y hy0 hy
          rw [hrest, List.cons_append] at hdr
          obtain ⟨hk1, hk2, hk3⟩ := drop_getD _ _ _ _ hdr
          have hy64 : y < 18446744073709551616 := hy
          have htzc := fun W hT => tz_any y hy64 hy0 W hT
          rw [← htz] at htzc
          have HT := Lib.hid htzc
          have hby : (((UInt8.ofNat (64 * 2 + t)).toNat : Nat) : Int) = ((64 * 2 + t : Nat) : Int) := by simp; omega
          have hbk : ((byteK M k).toNat : Int) = ((64 * 2 + t : Nat) : Int) := by rw [← hby]; unfold byteK; rw [hk2]
          have hne : ((y : Int) != 0) = true := by simp; omega
          have hyk := hY k _ hJk hk1
          have hbk2 : ((byteK M k).toNat : Int) = 128 + (t : Int) := by rw [hbk]; omega
          rw [hbk2] at hyk
          obtain ⟨fn, tmps, assign, body, hyr, hR⟩ := hyk
          have htb : (t : Int) ≤ 63 := by omega
          have hz : y &&& (y - 1) < 2 ^ 64 := by omega
          have hand : bits .and .u64 (y : Int) (IntKind.u64.wrap ((y : Int) - 1)) = ((y &&& (y - 1) : Nat) : Int) := by
            have := bits_and_u64_nat y (y - 1) hy64 (by omega)
            rw [← this]; congr 1; rw [IntKind.wrap_u64]; omega
          have HI := Lib.hid (And.intro hk3 (And.intro hJk (And.intro hbr (And.intro hsr (And.intro hbk (And.intro hlow (And.intro hz hk1)))))))
          clear hkN
          clear hdr hJk hbr hsr hk3 hby hbk hlow hz hk1 hk2 hrest htz htzc hy0 hbk2
          gi_wp2
          refine ⟨trivial, (callsIn_mk (HT.out _ (hT.below HI.out.2.2.1 hn6))).mono ?_⟩
          rintro e w1 ⟨rfl, rfl⟩
          gi_wp2
          refine hR.mono ?_
          rintro e W' h
          obtain ⟨b, rfl, hb⟩ := yield_bool h
          clear hR hyr
          cases b
          · gi_wp2
            refine bodyPost_ret (results_none rfl _ _ _) rfl ?_
            exact ⟨⟨_, rfl⟩, .inr ⟨k + 1, HI.out.2.2.2.2.2.2.2, hb.out.2 (by trivial)⟩⟩
          · gi_wp2
            have hn := hb.out.1 (by trivial)
            have hrel : (bytesOf M).drop (k + 1) = restW 2 (y &&& (y - 1)) ++ tailW M 3 ∧ J (k + 1) W' ∧ Below n0 w W' ∧ n0 ≤ W'.heap.size ∧ k + 1 ≤ (bytesOf M).length :=
              ⟨HI.out.1, hn.1, HI.out.2.2.1.trans hn.2, Nat.le_trans HI.out.2.2.2.1 hn.2.size, HI.out.2.2.2.2.2.2.2⟩
            go_roundw
            case rel => (repeat apply Exists.intro); exact ⟨⟨y &&& (y - 1), k + 1, rfl, HI.out.2.2.2.2.2.2.1, hrel⟩, rfl⟩
            case measure => simp [intOf]; exact HI.out.2.2.2.2.2.1
    · gi_wp2
      obtain ⟨wo, rfl⟩ : ∃ wo : World, wo = wr := ⟨_, rfl⟩
      gi_loopw [4] (fun v wr => ∃ y k : Nat, v = .int .u64 (y : Int) ∧ y < 2 ^ 64 ∧ (bytesOf M).drop k = restW 3 y ++ tailW M 4 ∧ J k wr ∧ Below n0 w wr ∧ n0 ≤ wr.heap.size ∧ k ≤ (bytesOf M).length) (fun v _ => (intOf v).toNat)
      case atStart => exact ⟨wdN M 3, k, rfl, wdN_lt M 3, by rw [HO.out.1]; exact tailW_next M 3 (by decide), HO.out.2.1, HO.out.2.2.1, HO.out.2.2.2⟩
      case round =>
        obtain ⟨y, k, rfl, hy, hdr, hJk, hbr, hsr, hkN⟩ := hrel
        clear HO
        by_cases hy0 : y = 0
        · subst hy0
          rw [restW_zero, List.nil_append] at hdr
          have HI := Lib.hid (And.intro hdr (And.intro hJk (And.intro hbr (And.intro hsr hkN))))
          clear hdr hJk hbr hsr hkN
          gi_wp2
          go_roundw
          case rel => exact ⟨4, k, by omega, rfl, HI.out⟩
          case measure => simp [intOf]
        · obtain ⟨t, ht, htz, hlow, hrest⟩ := restW_next 3 y hy0 hy
          rw [hrest, List.cons_append] at hdr
          obtain ⟨hk1, hk2, hk3⟩ := drop_getD _ _ _ _ hdr
          have hy64 : y < 18446744073709551616 := hy
          have htzc := fun W hT => tz_any y hy64 hy0 W hT
          rw [← htz] at htzc
          have HT := Lib.hid htzc
          have hby : (((UInt8.ofNat (64 * 3 + t)).toNat : Nat) : Int) = ((64 * 3 + t : Nat) : Int) := by simp; omega
          have hbk : ((byteK M k).toNat : Int) = ((64 * 3 + t : Nat) : Int) := by rw [← hby]; unfold byteK; rw [hk2]
          have hne : ((y : Int) != 0) = true := by simp; omega
          have hyk := hY k _ hJk hk1
          have hbk2 : ((byteK M k).toNat : Int) = 192 + (t : Int) := by rw [hbk]; omega
          rw [hbk2] at hyk
          obtain ⟨fn, tmps, assign, body, hyr, hR⟩ := hyk
          have htb : (t : Int) ≤ 63 := by omega
          have hz : y &&& (y - 1) < 2 ^ 64 := by omega
          have hand : bits .and .u64 (y : Int) (IntKind.u64.wrap ((y : Int) - 1)) = ((y &&& (y - 1) : Nat) : Int) := by
            have := bits_and_u64_nat y (y - 1) hy64 (by omega)
            rw [← this]; congr 1; rw [IntKind.wrap_u64]; omega
          have HI := Lib.hid (And.intro hk3 (And.intro hJk (And.intro hbr (And.intro hsr (And.intro hbk (And.intro hlow (And.intro hz hk1)))))))
          clear hkN
          clear hdr hJk hbr hsr hk3 hby hbk hlow hz hk1 hk2 hrest htz htzc hy0 hbk2
          gi_wp2
          refine ⟨trivial, (callsIn_mk (HT.out _ (hT.below HI.out.2.2.1 hn6))).mono ?_⟩
          rintro e w1 ⟨rfl, rfl⟩
          gi_wp2
          refine hR.mono ?_
          rintro e W' h
          obtain ⟨b, rfl, hb⟩ := yield_bool h
          clear hR hyr
          cases b
          · gi_wp2
            refine bodyPost_ret (results_none rfl _ _ _) rfl ?_
            exact ⟨⟨_, rfl⟩, .inr ⟨k + 1, HI.out.2.2.2.2.2.2.2, hb.out.2 (by trivial)⟩⟩
          · gi_wp2
            have hn := hb.out.1 (by trivial)
            have hrel : (bytesOf M).drop (k + 1) = restW 3 (y &&& (y - 1)) ++ tailW M 4 ∧ J (k + 1) W' ∧ Below n0 w W' ∧ n0 ≤ W'.heap.size ∧ k + 1 ≤ (bytesOf M).length :=
              ⟨HI.out.1, hn.1, HI.out.2.2.1.trans hn.2, Nat.le_trans HI.out.2.2.2.1 hn.2.size, HI.out.2.2.2.2.2.2.2⟩
            go_roundw
            case rel => (repeat apply Exists.intro); exact ⟨⟨y &&& (y - 1), k + 1, rfl, HI.out.2.2.2.2.2.2.1, hrel⟩, rfl⟩
            case measure => simp [intOf]; exact HI.out.2.2.2.2.2.1
    · gi_wp2
      have hk : k = (bytesOf M).length := by
        have := congrArg List.length HO.out.1
        rw [List.length_drop] at this
        have h4 : (tailW M 4).length = 0 := rfl
        have := HO.out.2.2.2.2
        omega
      refine bodyPost_end (results_none rfl _ _ _) rfl ?_
      rw [← hk]
      exact ⟨⟨_, rfl⟩, .inl HO.out.2.1⟩
end Go.Proofs.YtknpkndiflodbaaGreatDoor.Tb
