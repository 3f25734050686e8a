/- Walks and plain laws that the last text stands on: TbBytes, TbDEnv, MapA. -/
import Derived.Test.YtknpkndiflodbaaGreatDoorTs2
import Derived.Test.YtknpkndiflodbaaGreatDoorTs3
import Derived.Lib.TrailingZeros
import Derived.Shelf.Spec.TrailingZeros
import Derived.Laws.Bits128
import Derived.Laws.Rows
import Derived.Shelf.Abstract
import Derived.Shelf.RegionOpen
import Derived.OwnWalkIn
import Derived.TacticsInMore
import Derived.LoopNIn
import Derived.LoopIn
import Derived.Test.YtknpkndiflodbaaGreatDoorCards
import Derived.Test.YtknpkndiflodbaaGreatDoorTie
import Derived.ProofKit
import Derived.OpenShut
import Derived.LaidMore
import Derived.Lib.LaidTab
import Derived.SevenTiedAt
import Derived.Maps.OwnSet
import Derived.Maps.OwnOps
import Derived.WideKeyArr2
import Derived.WideKeyEntry
import Derived.DeepKeys4
set_option linter.unusedVariables false
set_option linter.unusedSimpArgs false
set_option maxRecDepth 100000
set_option maxHeartbeats 16000000
namespace Go.Proofs.YtknpkndiflodbaaGreatDoor.Tb
open Go Go.RowKit Go.Proofs Mx Go.Shelf
abbrev LB : Nat := 1 + 1
def bytesTo (M n : Nat) : List UInt8 := ((List.range n).filter (fun i => M.testBit i)).map UInt8.ofNat
def bytesOf (M : Nat) : List UInt8 := bytesTo M 256
theorem bytesTo_succ (M n : Nat) : bytesTo M (n + 1) = if M.testBit n then bytesTo M n ++ [UInt8.ofNat n] else bytesTo M n := by
 unfold bytesTo
 rw [List.range_succ, List.filter_append]
 cases h : M.testBit n <;> simp [h]
def wdN (M j : Nat) : Nat := M / 2 ^ (64 * j) % 18446744073709551616
theorem wdN_lt (M j : Nat) : wdN M j < 2 ^ 64 := Nat.mod_lt _ (by decide)
theorem and_pow (k A B p q : Nat) (hp : p < 2 ^ k) (hq : q < 2 ^ k) : (2 ^ k * A + p) &&& (2 ^ k * B + q) = 2 ^ k * (A &&& B) + (p &&& q) := by
 have h1 : ((2 ^ k * A + p) &&& (2 ^ k * B + q)) % 2 ^ k = p &&& q := by
  rw [Nat.and_mod_two_pow, Nat.mul_add_mod, Nat.mul_add_mod, Nat.mod_eq_of_lt hp, Nat.mod_eq_of_lt hq]
 have h2 : ((2 ^ k * A + p) &&& (2 ^ k * B + q)) / 2 ^ k = A &&& B := by
  have := Nat.shiftRight_and_distrib (a := 2 ^ k * A + p) (b := 2 ^ k * B + q) (i := k)
  rw [Nat.shiftRight_eq_div_pow, Nat.shiftRight_eq_div_pow, Nat.shiftRight_eq_div_pow] at this
  rw [this, Nat.mul_add_div (Nat.two_pow_pos k), Nat.mul_add_div (Nat.two_pow_pos k), Nat.div_eq_of_lt hp, Nat.div_eq_of_lt hq]
  rfl
 rw [<- Nat.div_add_mod ((2 ^ k * A + p) &&& (2 ^ k * B + q)) (2 ^ k), h1, h2]
theorem low_clear (x k m : Nat) (h : x = 2 ^ k * (2 * m + 1)) : x &&& (x - 1) = 2 ^ k * (2 * m) := by
 have hp := Nat.two_pow_pos k
 have e1 : x = 2 ^ k * (2 * m + 1) + 0 := h
 have e2 : x - 1 = 2 ^ k * (2 * m) + (2 ^ k - 1) := by rw [h, Nat.mul_add, Nat.mul_one]; omega
 have e3 : (2 * m + 1) &&& (2 * m) = 2 * m := by
  have := and_pow 1 m m 1 0 (by decide) (by decide)
  simpa using this
 rw [e2]
 conv => lhs; lhs; rw [e1]
 rw [and_pow k _ _ 0 _ hp (by omega), e3]
 simp
theorem filter_first (p q : Nat -> Bool) (k : Nat) (hk : p k = true) (hlow : ∀ i, i < k -> p i = false) (hq : ∀ i, q i = (p i && decide (i ≠ k))) : ∀ n, k < n -> (List.range n).filter p = k :: (List.range n).filter q := by
 intro n
 induction n with
 | zero => intro h; omega
 | succ n ih =>
  intro h
  rw [List.range_succ, List.filter_append, List.filter_append]
  by_cases hkn : k = n
  ·subst hkn
   have h1 : (List.range k).filter p = [] := by
    rw [List.filter_eq_nil_iff]; intro i hi; rw [hlow i (by simpa using hi)]; simp
   have h2 : (List.range k).filter q = [] := by
    rw [List.filter_eq_nil_iff]; intro i hi; rw [hq, hlow i (by simpa using hi)]; simp
   rw [h1, h2]
   simp [hk, hq]
  ·rw [ih (by omega)]
   have : q n = p n := by rw [hq]; simp; intro _; omega
   simp [List.filter_cons, this]
theorem bits_first (x k m n : Nat) (h : x = 2 ^ k * (2 * m + 1)) (hk : k < n) :
  (List.range n).filter (fun i => x.testBit i) = k :: (List.range n).filter (fun i => (2 ^ k * (2 * m)).testBit i) := by
 have ht : ∀ t i, (2 ^ k * t).testBit i = (decide (k <= i) && t.testBit (i - k)) := fun t i => by rw [Nat.testBit_two_pow_mul]
 refine filter_first _ _ k ?_ ?_ ?_ n hk
 ·rw [h, ht]; simp
 ·intro i hi; rw [h, ht]; simp; omega
 ·intro i
  rw [h, ht, ht]
  rcases Nat.lt_trichotomy i k with hlt | rfl | hgt
  ·have : decide (k <= i) = false := by simp; omega
   rw [this]; rfl
  ·simp
  ·obtain ⟨d, hd⟩ : ∃ d, i - k = d + 1 := ⟨i - k - 1, by omega⟩
   rw [hd, Nat.testBit_succ, Nat.testBit_succ, show (2 * m + 1) / 2 = m by omega, show 2 * m / 2 = m by omega]
   have : decide (i ≠ k) = true := by simp; omega
   rw [this]; simp
def wordBytes (M j : Nat) : List UInt8 := ((List.range 64).filter (fun i => (wdN M j).testBit i)).map (fun i => UInt8.ofNat (64 * j + i))
theorem bytesTo_word (M n : Nat) : ∀ m, bytesTo M (n + m) = bytesTo M n ++ ((List.range m).filter (fun i => M.testBit (n + i))).map (fun i => UInt8.ofNat (n + i)) := by
 intro m
 induction m with
 | zero => simp
 | succ m ih =>
  rw [<- Nat.add_assoc, bytesTo_succ, ih, List.range_succ, List.filter_append, List.map_append]
  cases h : M.testBit (n + m) <;> simp [h]
theorem bytesOf_words (M : Nat) : bytesOf M = wordBytes M 0 ++ (wordBytes M 1 ++ (wordBytes M 2 ++ wordBytes M 3)) := by
 have hw : ∀ j, wordBytes M j = ((List.range 64).filter (fun i => M.testBit (64 * j + i))).map (fun i => UInt8.ofNat (64 * j + i)) := by
  intro j
  unfold wordBytes
  congr 1
  apply List.filter_congr
  intro i hi
  have : i < 64 := by simpa using hi
  rw [wdN, show (18446744073709551616 : Nat) = 2 ^ 64 by decide, Nat.testBit_mod_two_pow, Nat.testBit_div_two_pow]
  simp [this, Nat.add_comm]
 unfold bytesOf
 rw [show (256 : Nat) = 0 + 64 + 64 + 64 + 64 from rfl, bytesTo_word, bytesTo_word, bytesTo_word, bytesTo_word, hw, hw, hw, hw]
 simp [bytesTo]
def Bru (w : World) : Prop := ∀ j, j < 64 -> w.cell? ⟨1, j, none⟩ = some (.int .u8 (Lib.deBruijn64tab.getD j 0))
theorem Bru.below {w w' : World} {B : Nat} (h : Bru w) (hb : Below B w w') (hB : LB <= B) : Bru w' := fun j hj =>
 (hb.cell (p := ⟨1, j, none⟩) (Nat.lt_of_lt_of_le (show 1 < LB by decide) hB)).trans (h j hj)
theorem tz_core (x k idx : Nat) (w : World) (hx0 : ((x : Int) == 0) = false)
  (key : IntKind.u64.wrap (bits BinOp.and IntKind.u64 (x : Int) (IntKind.u64.wrap (-(x : Int))) * 285870213051353865) / 288230376151711744 = (idx : Int))
  (hi : idx < 64) (hk : k < 64) (hcell : w.cell? ⟨1, idx, none⟩ = some (.int .u8 k)) :
  Calls Tryz.prog 141 #[.int .u64 (x : Int)] w fun e w' => e = .returned (.int .i64 k) /\ w = w' := by
 go_enter Tryz.func141, Tryz.ntmps141
 go_wp2_with (simp only [key])
 go_ret
 exact ⟨rfl, rfl⟩
theorem tz_any (x : Nat) (hx : x < 18446744073709551616) (hx0 : x ≠ 0) (w : World) (hT : Bru w) :
  Calls Tryz.prog 141 #[.int .u64 (x : Int)] w fun e w' => e = .returned (.int .i64 (Lib.ctz 64 x)) /\ w = w' := by
 obtain ⟨hlow, hk⟩ := Lib.lowest_bit 64 x hx0 hx
 obtain ⟨hi, htab⟩ := Lib.deBruijn64_at _ hk
 have hi' : Lib.ctz 64 x < 64 := hk
 have hcell := hT _ (show _ < 64 from hi)
 rw [htab] at hcell
 exact tz_core x _ _ w (by simp; omega) (tz64_key x _ hx hx0 hlow) hi hk hcell
theorem ix0 (a b c d : Value) (w : World) : (Instr.index 26 (.agg #[a, b, c, d]) (.int .i64 0)).run Tryz.prog w = .ok a w := by kernel_rfl
theorem ix1 (a b c d : Value) (w : World) : (Instr.index 26 (.agg #[a, b, c, d]) (.int .i64 1)).run Tryz.prog w = .ok b w := by kernel_rfl
theorem ix2 (a b c d : Value) (w : World) : (Instr.index 26 (.agg #[a, b, c, d]) (.int .i64 2)).run Tryz.prog w = .ok c w := by kernel_rfl
theorem ix3 (a b c d : Value) (w : World) : (Instr.index 26 (.agg #[a, b, c, d]) (.int .i64 3)).run Tryz.prog w = .ok d w := by kernel_rfl
attribute [local go_sem] Oper.semAt_some
theorem callsIn_mk {n : Nat} {P : Program} {f : FuncId} {args : Array Value} {w : World} {R : Ending -> World -> Prop} (h : Calls P f args w R) : CallsIn Fence.wide n P f args w R := callsIn_wide.2 h
theorem abides_below {β : Type} {B : Nat} {J : β -> World -> Prop} (h : AbidesFrom B J) {s : β} {W W' : World} (hs : J s W) (hb : Below W.heap.size W W') : J s W' :=
 h s W W' none hs ⟨hb.os, hb.tape, hb.output, hb.size, fun k hk _ => hb.block k hk⟩ (fun r e => by cases e)
theorem yield_bool {e : Ending} {A B : Prop} (h : (e = .returned (.bool true) /\ A) ∨ (e = .returned (.bool false) /\ B)) : ∃ b, e = .returned (.bool b) /\ Hid ((b = true -> A) /\ (b = false -> B)) := by
 rcases h with ⟨rfl, h⟩ | ⟨rfl, h⟩
 ·exact ⟨true, rfl, ⟨fun _ => h, fun h => absurd h (by decide)⟩⟩
 ·exact ⟨false, rfl, ⟨fun h => absurd h (by decide), fun _ => h⟩⟩
theorem bytes_any (M : Nat) (w : World) :
  Calls Tryz.prog 113 #[setV M] w fun e w' => e = .returned (.func (.func 140) #[] #[.pointer (some ⟨w.heap.size, 0, none⟩)]) /\ w' = w.alloc (.cells (setC M) 26) := by
 have hmf : ∀ (fn : Fn) (first cap : Array Value) (w : World), (Instr.makeFunc fn first cap).run Tryz.prog w = .ok (.func fn first cap) w := fun _ _ _ _ => rfl
 unfold setV
 go_enter Tryz.func113, Tryz.ntmps113
 go_wp2
 go_ret
 exact ⟨rfl, rfl⟩
def byteK (M k : Nat) : UInt8 := (bytesOf M).getD k 0
def tailW (M j : Nat) : List UInt8 :=
 if j = 0 then bytesOf M else if j = 1 then wordBytes M 1 ++ (wordBytes M 2 ++ wordBytes M 3) else if j = 2 then wordBytes M 2 ++ wordBytes M 3 else if j = 3 then wordBytes M 3 else []
def restW (j y : Nat) : List UInt8 := ((List.range 64).filter (fun i => y.testBit i)).map (fun i => UInt8.ofNat (64 * j + i))
theorem tailW_next (M j : Nat) (hj : j < 4) : tailW M j = restW j (wdN M j) ++ tailW M (j + 1) := by
 match j, hj with
 | 0, _ => exact bytesOf_words M
 | 1, _ => rfl
 | 2, _ => rfl
 | 3, _ => show wordBytes M 3 = wordBytes M 3 ++ []; simp
theorem restW_zero (j : Nat) : restW j 0 = [] := by simp [restW]
theorem restW_next (j y : Nat) (hy : y ≠ 0) (hlt : y < 2 ^ 64) : ∃ t, t < 64 /\ t = Lib.ctz 64 y /\ y &&& (y - 1) < y /\ restW j y = UInt8.ofNat (64 * j + t) :: restW j (y &&& (y - 1)) := by
 have hc : Lib.ctz 64 y = Lib.ctzFrom 64 y := by rw [Lib.ctz, if_neg hy]
 obtain ⟨m, hm, ht⟩ := Lib.ctzFrom_spec 64 y (by omega) hlt
 refine ⟨Lib.ctzFrom 64 y, ht, hc.symm, ?_, ?_⟩
 ·have := @Nat.and_le_right y (y - 1); omega
 ·have h1 := bits_first y _ m 64 hm ht
  rw [low_clear y _ m hm]
  unfold restW
  rw [h1]
  rfl
theorem drop_getD (l : List UInt8) (k : Nat) (b : UInt8) (t : List UInt8) (h : l.drop k = b :: t) : k < l.length /\ l.getD k 0 = b /\ l.drop (k + 1) = t := by
 have hk : k < l.length := by
  rcases Nat.lt_or_ge k l.length with h1 | h1
  ·exact h1
  ·rw [List.drop_eq_nil_of_le h1] at h; cases h
 rw [List.drop_eq_getElem_cons hk] at h
 injection h with h1 h2
 exact ⟨hk, by simp [List.getD, List.getElem?_eq_getElem hk, h1], h2⟩

theorem bytes_iter (M n n0 bs : Nat) (hn : 1 <= n) (w : World) (hT : Bru w) (hn6 : LB <= n0) (hn0 : n0 <= w.heap.size) (hbs : Blk w bs 26 (setC M)) :
  SeqP Fence.wide n Tryz.prog 140 #[.pointer (some ⟨bs, 0, none⟩)] (fun k => #[.int .u8 ((byteK M k).toNat : Int)]) (Below n0) (bytesOf M).length w := by
 intro l J Jx W hW' hY h0
 have hbW : Blk W bs 26 (setC M) := hbs.below hW' hbs.lt
 have hW := hW'.mono hn0
 have hsW : n0 <= W.heap.size := Nat.le_trans hn0 hW'.size
 clear hW'
 obtain ⟨c0, c1, c2, c3, cf⟩ := Blk.facts4 (v0 := .int .u64 ((wdN M 0 : Nat) : Int)) (v1 := .int .u64 ((wdN M 1 : Nat) : Int)) (v2 := .int .u64 ((wdN M 2 : Nat) : Int)) (v3 := .int .u64 ((wdN M 3 : Nat) : Int)) hbW
 have hro : Fence.wide.round = none := rfl
 have i0 := ix0
 have i1 := ix1
 have i2 := ix2
 have i3 := ix3
 refine callsIn_of_wp Tryz.func140 rfl trivial ?_ hro
 simp only [Tryz.ntmps140, List.size_toArray, List.length_cons, List.length_nil, Nat.reduceAdd, Nat.reduceSub, Array.replicate_succ, Array.replicate_zero, List.push_toArray, List.append_toArray, List.nil_append, List.cons_append]
 gi_wp2
 gi_loopw [6] (fun i wr => ∃ j k : Nat, j <= 4 /\ i = .int .i64 j /\ (bytesOf M).drop k = tailW M j /\ J k wr /\ Below n0 w wr /\ n0 <= wr.heap.size /\ k <= (bytesOf M).length) (fun i _ => 4 - (intOf i).toNat)
 case atStart => exact ⟨0, 0, by omega, rfl, rfl, h0, hW, hsW, Nat.zero_le _⟩
 case round =>
  obtain ⟨j, k, hj, rfl, hdr, hJk, hbr, hsr, hkN⟩ := hrel
  have HO := Hd (An hdr (An hJk (An hbr (An hsr hkN))))
  clear hdr hJk hbr hsr hkN h0 hW
  rcases (show j = 0 ∨ j = 1 ∨ j = 2 ∨ j = 3 ∨ j = 4 by omega) with rfl | rfl | rfl | rfl | rfl
  ·gi_wp2
   obtain ⟨wo, rfl⟩ : ∃ wo : World, wo = wr := ⟨_, rfl⟩
   gi_loopw [4] (fun v wr => ∃ y k : Nat, v = .int .u64 (y : Int) /\ y < 2 ^ 64 /\ (bytesOf M).drop k = restW 0 y ++ tailW M 1 /\ J k wr /\ Below n0 w wr /\ n0 <= wr.heap.size /\ k <= (bytesOf M).length) (fun v _ => (intOf v).toNat)
   case atStart => exact ⟨wdN M 0, k, rfl, wdN_lt M 0, by rw [HO.out.1]; exact tailW_next M 0 (by decide), HO.out.2.1, HO.out.2.2.1, HO.out.2.2.2⟩
   case round =>
    obtain ⟨y, k, rfl, hy, hdr, hJk, hbr, hsr, hkN⟩ := hrel
    clear HO
    by_cases hy0 : y = 0
    ·subst hy0
     rw [restW_zero, List.nil_append] at hdr
     have HI := Hd (An hdr (An hJk (An hbr (An hsr hkN))))
     clear hdr hJk hbr hsr hkN
     gi_wp2
     go_roundw
     case rel => exact ⟨1, k, by omega, rfl, HI.out⟩
     case measure => simp [intOf]
    ·obtain ⟨t, ht, htz, hlow, hrest⟩ := restW_next 0 y hy0 hy
     rw [hrest, List.cons_append] at hdr
     obtain ⟨hk1, hk2, hk3⟩ := drop_getD _ _ _ _ hdr
     have hy64 : y < 18446744073709551616 := hy
     have htzc := fun W hT => tz_any y hy64 hy0 W hT
     rw [<- htz] at htzc
     have HT := Hd htzc
     have hby : (((UInt8.ofNat (64 * 0 + t)).toNat : Nat) : Int) = ((64 * 0 + t : Nat) : Int) := by simp; omega
     have hbk : ((byteK M k).toNat : Int) = ((64 * 0 + t : Nat) : Int) := by rw [<- hby]; unfold byteK; rw [hk2]
     have hne : ((y : Int) != 0) = true := by simp; omega
     have hyk := hY k _ hJk hk1
     have hbk2 : ((byteK M k).toNat : Int) = (t : Int) := by rw [hbk]; omega
     rw [hbk2] at hyk
     obtain ⟨fn, tmps, assign, body, hyr, hR⟩ := hyk
     have htb : (t : Int) <= 63 := by omega
     have hz : y &&& (y - 1) < 2 ^ 64 := by omega
     have hand : bits .and .u64 (y : Int) (IntKind.u64.wrap ((y : Int) - 1)) = ((y &&& (y - 1) : Nat) : Int) := by
      have := bits_and_u64_nat y (y - 1) hy64 (by omega)
      rw [<- this]; congr 1; rw [IntKind.wrap_u64]; omega
     have HI := Hd (An hk3 (An hJk (An hbr (An hsr (An hbk (An hlow (An hz hk1)))))))
     clear hkN
     clear hdr hJk hbr hsr hk3 hby hbk hlow hz hk1 hk2 hrest htz htzc hy0 hbk2
     gi_wp2
     refine ⟨trivial, (callsIn_mk (HT.out _ (hT.below HI.out.2.2.1 hn6))).mono ?_⟩
     rintro e w1 ⟨rfl, rfl⟩
     gi_wp2
     refine hR.mono ?_
     rintro e W' h
     obtain ⟨b, rfl, hb⟩ := yield_bool h
     clear hR hyr
     cases b
     ·gi_wp2
      refine bodyPost_ret (results_none rfl _ _ _) rfl ?_
      exact ⟨⟨_, rfl⟩, .inr ⟨k + 1, HI.out.2.2.2.2.2.2.2, hb.out.2 (by trivial)⟩⟩
     ·gi_wp2
      have hn := hb.out.1 (by trivial)
      have hrel : (bytesOf M).drop (k + 1) = restW 0 (y &&& (y - 1)) ++ tailW M 1 /\ J (k + 1) W' /\ Below n0 w W' /\ n0 <= W'.heap.size /\ k + 1 <= (bytesOf M).length :=
       ⟨HI.out.1, hn.1, HI.out.2.2.1.trans hn.2, Nat.le_trans HI.out.2.2.2.1 hn.2.size, HI.out.2.2.2.2.2.2.2⟩
      go_roundw
      case rel => (repeat apply Exists.intro); exact ⟨⟨y &&& (y - 1), k + 1, rfl, HI.out.2.2.2.2.2.2.1, hrel⟩, rfl⟩
      case measure => simp [intOf]; exact HI.out.2.2.2.2.2.1
  ·gi_wp2
   obtain ⟨wo, rfl⟩ : ∃ wo : World, wo = wr := ⟨_, rfl⟩
   gi_loopw [4] (fun v wr => ∃ y k : Nat, v = .int .u64 (y : Int) /\ y < 2 ^ 64 /\ (bytesOf M).drop k = restW 1 y ++ tailW M 2 /\ J k wr /\ Below n0 w wr /\ n0 <= wr.heap.size /\ k <= (bytesOf M).length) (fun v _ => (intOf v).toNat)
   case atStart => exact ⟨wdN M 1, k, rfl, wdN_lt M 1, by rw [HO.out.1]; exact tailW_next M 1 (by decide), HO.out.2.1, HO.out.2.2.1, HO.out.2.2.2⟩
   case round =>
    obtain ⟨y, k, rfl, hy, hdr, hJk, hbr, hsr, hkN⟩ := hrel
    clear HO
    by_cases hy0 : y = 0
    ·subst hy0
     rw [restW_zero, List.nil_append] at hdr
     have HI := Hd (An hdr (An hJk (An hbr (An hsr hkN))))
     clear hdr hJk hbr hsr hkN
     gi_wp2
     go_roundw
     case rel => exact ⟨2, k, by omega, rfl, HI.out⟩
     case measure => simp [intOf]
    ·obtain ⟨t, ht, htz, hlow, hrest⟩ := restW_next 1 y hy0 hy
     rw [hrest, List.cons_append] at hdr
     obtain ⟨hk1, hk2, hk3⟩ := drop_getD _ _ _ _ hdr
     have hy64 : y < 18446744073709551616 := hy
     have htzc := fun W hT => tz_any y hy64 hy0 W hT
     rw [<- htz] at htzc
     have HT := Hd htzc
     have hby : (((UInt8.ofNat (64 * 1 + t)).toNat : Nat) : Int) = ((64 * 1 + t : Nat) : Int) := by simp; omega
     have hbk : ((byteK M k).toNat : Int) = ((64 * 1 + t : Nat) : Int) := by rw [<- hby]; unfold byteK; rw [hk2]
     have hne : ((y : Int) != 0) = true := by simp; omega
     have hyk := hY k _ hJk hk1
     have hbk2 : ((byteK M k).toNat : Int) = 64 + (t : Int) := by rw [hbk]; omega
     rw [hbk2] at hyk
     obtain ⟨fn, tmps, assign, body, hyr, hR⟩ := hyk
     have htb : (t : Int) <= 63 := by omega
     have hz : y &&& (y - 1) < 2 ^ 64 := by omega
     have hand : bits .and .u64 (y : Int) (IntKind.u64.wrap ((y : Int) - 1)) = ((y &&& (y - 1) : Nat) : Int) := by
      have := bits_and_u64_nat y (y - 1) hy64 (by omega)
      rw [<- this]; congr 1; rw [IntKind.wrap_u64]; omega
     have HI := Hd (An hk3 (An hJk (An hbr (An hsr (An hbk (An hlow (An hz hk1)))))))
     clear hkN
     clear hdr hJk hbr hsr hk3 hby hbk hlow hz hk1 hk2 hrest htz htzc hy0 hbk2
     gi_wp2
     refine ⟨trivial, (callsIn_mk (HT.out _ (hT.below HI.out.2.2.1 hn6))).mono ?_⟩
     rintro e w1 ⟨rfl, rfl⟩
     gi_wp2
     refine hR.mono ?_
     rintro e W' h
     obtain ⟨b, rfl, hb⟩ := yield_bool h
     clear hR hyr
     cases b
     ·gi_wp2
      refine bodyPost_ret (results_none rfl _ _ _) rfl ?_
      exact ⟨⟨_, rfl⟩, .inr ⟨k + 1, HI.out.2.2.2.2.2.2.2, hb.out.2 (by trivial)⟩⟩
     ·gi_wp2
      have hn := hb.out.1 (by trivial)
      have hrel : (bytesOf M).drop (k + 1) = restW 1 (y &&& (y - 1)) ++ tailW M 2 /\ J (k + 1) W' /\ Below n0 w W' /\ n0 <= W'.heap.size /\ k + 1 <= (bytesOf M).length :=
       ⟨HI.out.1, hn.1, HI.out.2.2.1.trans hn.2, Nat.le_trans HI.out.2.2.2.1 hn.2.size, HI.out.2.2.2.2.2.2.2⟩
      go_roundw
      case rel => (repeat apply Exists.intro); exact ⟨⟨y &&& (y - 1), k + 1, rfl, HI.out.2.2.2.2.2.2.1, hrel⟩, rfl⟩
      case measure => simp [intOf]; exact HI.out.2.2.2.2.2.1
  ·gi_wp2
   obtain ⟨wo, rfl⟩ : ∃ wo : World, wo = wr := ⟨_, rfl⟩
   gi_loopw [4] (fun v wr => ∃ y k : Nat, v = .int .u64 (y : Int) /\ y < 2 ^ 64 /\ (bytesOf M).drop k = restW 2 y ++ tailW M 3 /\ J k wr /\ Below n0 w wr /\ n0 <= wr.heap.size /\ k <= (bytesOf M).length) (fun v _ => (intOf v).toNat)
   case atStart => exact ⟨wdN M 2, k, rfl, wdN_lt M 2, by rw [HO.out.1]; exact tailW_next M 2 (by decide), HO.out.2.1, HO.out.2.2.1, HO.out.2.2.2⟩
   case round =>
    obtain ⟨y, k, rfl, hy, hdr, hJk, hbr, hsr, hkN⟩ := hrel
    clear HO
    by_cases hy0 : y = 0
    ·subst hy0
     rw [restW_zero, List.nil_append] at hdr
     have HI := Hd (An hdr (An hJk (An hbr (An hsr hkN))))
     clear hdr hJk hbr hsr hkN
     gi_wp2
     go_roundw
     case rel => exact ⟨3, k, by omega, rfl, HI.out⟩
     case measure => simp [intOf]
    ·obtain ⟨t, ht, htz, hlow, hrest⟩ := restW_next 2 y hy0 hy
     rw [hrest, List.cons_append] at hdr
     obtain ⟨hk1, hk2, hk3⟩ := drop_getD _ _ _ _ hdr
     have hy64 : y < 18446744073709551616 := hy
     have htzc := fun W hT => tz_any y hy64 hy0 W hT
     rw [<- htz] at htzc
     have HT := Hd htzc
     have hby : (((UInt8.ofNat (64 * 2 + t)).toNat : Nat) : Int) = ((64 * 2 + t : Nat) : Int) := by simp; omega
     have hbk : ((byteK M k).toNat : Int) = ((64 * 2 + t : Nat) : Int) := by rw [<- hby]; unfold byteK; rw [hk2]
     have hne : ((y : Int) != 0) = true := by simp; omega
     have hyk := hY k _ hJk hk1
     have hbk2 : ((byteK M k).toNat : Int) = 128 + (t : Int) := by rw [hbk]; omega
     rw [hbk2] at hyk
     obtain ⟨fn, tmps, assign, body, hyr, hR⟩ := hyk
     have htb : (t : Int) <= 63 := by omega
     have hz : y &&& (y - 1) < 2 ^ 64 := by omega
     have hand : bits .and .u64 (y : Int) (IntKind.u64.wrap ((y : Int) - 1)) = ((y &&& (y - 1) : Nat) : Int) := by
      have := bits_and_u64_nat y (y - 1) hy64 (by omega)
      rw [<- this]; congr 1; rw [IntKind.wrap_u64]; omega
     have HI := Hd (An hk3 (An hJk (An hbr (An hsr (An hbk (An hlow (An hz hk1)))))))
     clear hkN
     clear hdr hJk hbr hsr hk3 hby hbk hlow hz hk1 hk2 hrest htz htzc hy0 hbk2
     gi_wp2
     refine ⟨trivial, (callsIn_mk (HT.out _ (hT.below HI.out.2.2.1 hn6))).mono ?_⟩
     rintro e w1 ⟨rfl, rfl⟩
     gi_wp2
     refine hR.mono ?_
     rintro e W' h
     obtain ⟨b, rfl, hb⟩ := yield_bool h
     clear hR hyr
     cases b
     ·gi_wp2
      refine bodyPost_ret (results_none rfl _ _ _) rfl ?_
      exact ⟨⟨_, rfl⟩, .inr ⟨k + 1, HI.out.2.2.2.2.2.2.2, hb.out.2 (by trivial)⟩⟩
     ·gi_wp2
      have hn := hb.out.1 (by trivial)
      have hrel : (bytesOf M).drop (k + 1) = restW 2 (y &&& (y - 1)) ++ tailW M 3 /\ J (k + 1) W' /\ Below n0 w W' /\ n0 <= W'.heap.size /\ k + 1 <= (bytesOf M).length :=
       ⟨HI.out.1, hn.1, HI.out.2.2.1.trans hn.2, Nat.le_trans HI.out.2.2.2.1 hn.2.size, HI.out.2.2.2.2.2.2.2⟩
      go_roundw
      case rel => (repeat apply Exists.intro); exact ⟨⟨y &&& (y - 1), k + 1, rfl, HI.out.2.2.2.2.2.2.1, hrel⟩, rfl⟩
      case measure => simp [intOf]; exact HI.out.2.2.2.2.2.1
  ·gi_wp2
   obtain ⟨wo, rfl⟩ : ∃ wo : World, wo = wr := ⟨_, rfl⟩
   gi_loopw [4] (fun v wr => ∃ y k : Nat, v = .int .u64 (y : Int) /\ y < 2 ^ 64 /\ (bytesOf M).drop k = restW 3 y ++ tailW M 4 /\ J k wr /\ Below n0 w wr /\ n0 <= wr.heap.size /\ k <= (bytesOf M).length) (fun v _ => (intOf v).toNat)
   case atStart => exact ⟨wdN M 3, k, rfl, wdN_lt M 3, by rw [HO.out.1]; exact tailW_next M 3 (by decide), HO.out.2.1, HO.out.2.2.1, HO.out.2.2.2⟩
   case round =>
    obtain ⟨y, k, rfl, hy, hdr, hJk, hbr, hsr, hkN⟩ := hrel
    clear HO
    by_cases hy0 : y = 0
    ·subst hy0
     rw [restW_zero, List.nil_append] at hdr
     have HI := Hd (An hdr (An hJk (An hbr (An hsr hkN))))
     clear hdr hJk hbr hsr hkN
     gi_wp2
     go_roundw
     case rel => exact ⟨4, k, by omega, rfl, HI.out⟩
     case measure => simp [intOf]
    ·obtain ⟨t, ht, htz, hlow, hrest⟩ := restW_next 3 y hy0 hy
     rw [hrest, List.cons_append] at hdr
     obtain ⟨hk1, hk2, hk3⟩ := drop_getD _ _ _ _ hdr
     have hy64 : y < 18446744073709551616 := hy
     have htzc := fun W hT => tz_any y hy64 hy0 W hT
     rw [<- htz] at htzc
     have HT := Hd htzc
     have hby : (((UInt8.ofNat (64 * 3 + t)).toNat : Nat) : Int) = ((64 * 3 + t : Nat) : Int) := by simp; omega
     have hbk : ((byteK M k).toNat : Int) = ((64 * 3 + t : Nat) : Int) := by rw [<- hby]; unfold byteK; rw [hk2]
     have hne : ((y : Int) != 0) = true := by simp; omega
     have hyk := hY k _ hJk hk1
     have hbk2 : ((byteK M k).toNat : Int) = 192 + (t : Int) := by rw [hbk]; omega
     rw [hbk2] at hyk
     obtain ⟨fn, tmps, assign, body, hyr, hR⟩ := hyk
     have htb : (t : Int) <= 63 := by omega
     have hz : y &&& (y - 1) < 2 ^ 64 := by omega
     have hand : bits .and .u64 (y : Int) (IntKind.u64.wrap ((y : Int) - 1)) = ((y &&& (y - 1) : Nat) : Int) := by
      have := bits_and_u64_nat y (y - 1) hy64 (by omega)
      rw [<- this]; congr 1; rw [IntKind.wrap_u64]; omega
     have HI := Hd (An hk3 (An hJk (An hbr (An hsr (An hbk (An hlow (An hz hk1)))))))
     clear hkN
     clear hdr hJk hbr hsr hk3 hby hbk hlow hz hk1 hk2 hrest htz htzc hy0 hbk2
     gi_wp2
     refine ⟨trivial, (callsIn_mk (HT.out _ (hT.below HI.out.2.2.1 hn6))).mono ?_⟩
     rintro e w1 ⟨rfl, rfl⟩
     gi_wp2
     refine hR.mono ?_
     rintro e W' h
     obtain ⟨b, rfl, hb⟩ := yield_bool h
     clear hR hyr
     cases b
     ·gi_wp2
      refine bodyPost_ret (results_none rfl _ _ _) rfl ?_
      exact ⟨⟨_, rfl⟩, .inr ⟨k + 1, HI.out.2.2.2.2.2.2.2, hb.out.2 (by trivial)⟩⟩
     ·gi_wp2
      have hn := hb.out.1 (by trivial)
      have hrel : (bytesOf M).drop (k + 1) = restW 3 (y &&& (y - 1)) ++ tailW M 4 /\ J (k + 1) W' /\ Below n0 w W' /\ n0 <= W'.heap.size /\ k + 1 <= (bytesOf M).length :=
       ⟨HI.out.1, hn.1, HI.out.2.2.1.trans hn.2, Nat.le_trans HI.out.2.2.2.1 hn.2.size, HI.out.2.2.2.2.2.2.2⟩
      go_roundw
      case rel => (repeat apply Exists.intro); exact ⟨⟨y &&& (y - 1), k + 1, rfl, HI.out.2.2.2.2.2.2.1, hrel⟩, rfl⟩
      case measure => simp [intOf]; exact HI.out.2.2.2.2.2.1
  ·gi_wp2
   have hk : k = (bytesOf M).length := by
    have := congrArg List.length HO.out.1
    rw [List.length_drop] at this
    have h4 : (tailW M 4).length = 0 := rfl
    have := HO.out.2.2.2.2
    omega
   refine bodyPost_end (results_none rfl _ _ _) rfl ?_
   rw [<- hk]
   exact ⟨⟨_, rfl⟩, .inl HO.out.2.1⟩
end Go.Proofs.YtknpkndiflodbaaGreatDoor.Tb
namespace Go.Proofs.YtknpkndiflodbaaGreatDoor.TbCard
open Go.ChangeShapes Go.WideShapes Go.ChangeAt Go.RowKit Go.WideMaps Go.WideElems

theorem own : ownKnob Tryz.prog.godebug = none := by kernel_rfl
theorem laidOut : laidOutB Tryz.prog = true := by kernel_rfl
theorem gBruijn : Tryz.prog.globalNamed "math/bits.deBruijn64tab" = some 1 := by kernel_rfl
theorem tBru : (Tryz.prog.globals[1]?).map (·.type) = some 228 := by kernel_rfl
theorem cellsBru : Tryz.prog.cellsOf 228 = 64 := by kernel_rfl
theorem cellsByte : Tryz.prog.cellsOf 5 = 1 := by kernel_rfl
theorem datumBru : (Rows.laid_math_bits_deBruijn64tab : DataW Unit) = Lib.tabData .u8 (Lib.deBruijn64tab.map fun (n : Nat) => (n : Int)) := by kernel_rfl
theorem env_of_laid {W : World} (h : laidMetH Tryz.prog Rows.tablesLongRow.laid W) : Tb.Bru W /\ Tb.LB <= W.heap.size := by
 have h' : laidMet Tryz.prog Rows.tablesLongRow.laid W := by
  rw [MakeChecks.laidMetH_plain _ _ _ (by kernel_rfl)] at h
  exact h
 obtain ⟨ps, ⟨g0, t0, cs0, f0, p0, q0, hg0, ht0, hv0, hd0, ⟨g1, t1, cs1, f1, p1, q1, hg1, ht1, hv1, hd1, _⟩, _⟩, _, _⟩ := h'
 obtain rfl := Option.some.inj (gBruijn.symm.trans hg1)
 obtain rfl := Option.some.inj (tBru.symm.trans ht1)
 rw [datumBru] at hd1
 have hbru : Lib.TabIs Tryz.prog W "math/bits.deBruijn64tab" .u8 (Lib.deBruijn64tab.map fun (n : Nat) => (n : Int)) := by
  unfold Lib.TabIs
  rw [hv1, <- Lib.cells_of_tab Tryz.underlying228 Tryz.underlying5 cellsByte cellsBru hd1]
 have hB : Tb.Bru W := by
  intro j hj
  have hlen : Lib.deBruijn64tab.length = 64 := by decide
  have := hbru.cell gBruijn j (by rw [List.length_map, hlen]; exact hj)
  rw [this]
  simp [List.getD, hlen, hj]
 exact ⟨hB, World.block_lt_of_cell? _ _ (hB 0 (by decide))⟩
end Go.Proofs.YtknpkndiflodbaaGreatDoor.TbCard
namespace Go.Proofs.YtknpkndiflodbaaGreatDoor.Mx
open Go Go.RowKit Go.Maps

def asIs (v : Value) : Option (DataW Value × List MemPlace) := some (.held v, [])
def MapV (P : Program) (k : TypeId) (w : World) (b n : Nat) (f : Lit -> Option Value) : Prop :=
 ∃ D : DataW Value, w.ownsMap P k asIs b n D /\ ∀ l, (∃ v, keyOf P k v = some l) -> Maps.has D l = (f l).isSome /\ ∀ z, D.atKey l (.held z) = .held ((f l).getD z)
section
variable {P : Program} {k : TypeId} {w w' : World} {b n : Nat} {f : Lit → Option Value}
theorem MapV.made (w : World) (P : Program) (k : TypeId) : MapV P k (w.alloc (.map #[] 0)) w.heap.size 0 (fun _ => none) :=
 ⟨.map [], World.ownsMap_made w P k asIs, fun l _ => ⟨rfl, fun z => rfl⟩⟩
theorem MapV.of_block (h : MapV P k w b n f) (e : w'.heap[b]? = w.heap[b]?) : MapV P k w' b n f := by
 obtain ⟨D, ⟨es, clock, hb, F, hs, hD⟩, hf⟩ := h
 exact ⟨D, ⟨es, clock, e.trans hb, F, hs, hD⟩, hf⟩
theorem MapV.lt (h : MapV P k w b n f) : b < w.heap.size := by obtain ⟨D, hD, _⟩ := h; exact hD.lt
theorem MapV.mono (h : MapV P k w b n f) {m : Nat} (hm : n <= m) : MapV P k w b m f := by obtain ⟨D, hD, hf⟩ := h; exact ⟨D, hD.mono hm, hf⟩
theorem MapV.alloc (h : MapV P k w b n f) (o : Obj) : MapV P k (w.alloc o) b n f := h.of_block (Below.heap_alloc w o b h.lt)
theorem MapV.drew (h : MapV P k w b n f) : MapV P k w.drew b n f := h
theorem MapV.drewN (h : MapV P k w b n f) (m : Nat) : MapV P k (w.drewN m) b n f := h
theorem MapV.below {B : Nat} (h : MapV P k w b n f) (hb : Below B w w') (hB : b < B) : MapV P k w' b n f := h.of_block (hb.block b hB)
theorem MapV.grown {row : Option Nat} (h : MapV P k w b n f) (hb : w.grownBy w' row) (hne : some b ≠ row) : MapV P k w' b n f := h.of_block (hb.block b h.lt hne)
theorem MapV.setCell (h : MapV P k w b n f) {p : Addr} (hp : b ≠ p.block) (u : Value) : MapV P k (w.setCell p u) b n f := h.of_block (Below.heap_setCell w p u b hp)
theorem asIs_inv {v : Value} {d : DataW Value} {ps : List MemPlace} (h : asIs v = some (d, ps)) : d = .held v := by
 simp [asIs] at h; exact h.1.symm

theorem MapV.lookup {t e : TypeId} (h : MapV P k w b n f) (K : Keyed P k) (ht : P.underlying t = some (.map k e)) {z : Value} (hz : (zeroValue e).run P w = .ok z w)
  {key : Value} {kl : Lit} (hkey : keyOf P k key = some kl) : (Instr.lookup t (.map (some b)) key false).run P w = .ok ((f kl).getD z) w := by
 obtain ⟨D, hD, hf⟩ := h
 obtain ⟨v, ps, hrun, hv⟩ := hD.lookup K ht hz (zd := .held z) (zp := []) rfl hkey
 have h1 := asIs_inv hv
 rw [(hf kl ⟨key, hkey⟩).2 z] at h1
 injection h1 with h1
 rw [h1]; exact hrun
theorem MapV.look_ok {t e : TypeId} (h : MapV P k w b n f) (K : Keyed P k) (ht : P.underlying t = some (.map k e)) {z : Value} (hz : (zeroValue e).run P w = .ok z w)
  {key : Value} {kl : Lit} (hkey : keyOf P k key = some kl) : (Instr.lookup t (.map (some b)) key true).run P w = .ok (.tuple #[(f kl).getD z, .bool (f kl).isSome]) w := by
 obtain ⟨D, hD, hf⟩ := h
 obtain ⟨v, ps, hrun, hv⟩ := hD.look_ok K ht hz (zd := .held z) (zp := []) rfl hkey
 have h1 := asIs_inv hv
 rw [(hf kl ⟨key, hkey⟩).2 z] at h1
 injection h1 with h1
 rw [h1, <- (hf kl ⟨key, hkey⟩).1]; exact hrun
def putV (f : Lit -> Option Value) (kl : Lit) (v : Value) : Lit -> Option Value := fun l => if l.sameKey kl then some v else f l
theorem putV_same (f : Lit -> Option Value) {kl : Lit} (v : Value) (hk : WideAt.IsKeyLit kl) : putV f kl v kl = some v := by simp [putV, WideAt.sameKey_self hk]
theorem putV_other (f : Lit -> Option Value) {kl l : Lit} (v : Value) (h : l ≠ kl) : putV f kl v l = f l := by simp [putV, Maps.sameKey_ne h]
theorem putV_int (f : Lit -> Option Value) (q : IntKind) (a b : Int) (v : Value) : putV f (.int q a) v (.int q b) = if b = a then some v else f (.int q b) := by simp [putV, Lit.sameKey]
theorem putV_string (f : Lit -> Option Value) (a b : List UInt8) (v : Value) : putV f (.string a) v (.string b) = if b = a then some v else f (.string b) := by simp [putV, Lit.sameKey]
theorem MapV.put {D : DataW Value} (hm : IsMap D) (K : Keyed P k) {kl : Lit} {key : Value} (hkey : keyOf P k key = some kl) (v : Value)
  (hf : ∀ l, (∃ v, keyOf P k v = some l) -> Maps.has D l = (f l).isSome /\ ∀ z, D.atKey l (.held z) = .held ((f l).getD z)) :
  ∀ l, (∃ v, keyOf P k v = some l) -> Maps.has (D.put kl (.held v)) l = (putV f kl v l).isSome /\ ∀ z, (D.put kl (.held v)).atKey l (.held z) = .held ((putV f kl v l).getD z) := by
 intro l hl
 have hik := K.key hkey
 by_cases e : l = kl
 ·subst e
  rw [putV_same _ _ hik]
  exact ⟨has_put_same hm hik _, fun z => atKey_put_same hm hik _ _⟩
 ·rw [putV_other _ _ e]
  exact ⟨by rw [has_put_other e]; exact (hf l hl).1, fun z => by rw [atKey_put_other e]; exact (hf l hl).2 z⟩
theorem MapV.update {t e : TypeId} (h : MapV P k w b n f) (K : Keyed P k) (ht : P.underlying t = some (.map k e)) (hn : n < maxLen) {key val : Value} {kl : Lit}
  (hkey : keyOf P k key = some kl) : ∃ w', (Instr.mapUpdate t (.map (some b)) key val).run P w = .ok () w' /\ MapV P k w' b (n + 1) (putV f kl val) /\ w.grownBy w' (some b) := by
 obtain ⟨D, hD, hf⟩ := h
 obtain ⟨w', hrun, h1, h2⟩ := hD.update K ht hn hkey (val := val) (d := .held val) (ps := []) rfl
 exact ⟨w', hrun, ⟨_, h1, MapV.put hD.isMap K hkey val hf⟩, h2⟩
end
section
variable {P : Program} (w : World) {ops : Array Oper} {rest : List Oper} {o : Oper} {a : Act} {Q : Exit → Act → World → Prop}
theorem wpList_lookupV (hg : o.guard = none) (m x : Operand) (t : TypeId) (hop : o.op = Op.lookup t m x false)
  (k e : TypeId) (K : Keyed P k) (ht : P.underlying t = some (.map k e)) (z : Value) (hz : (zeroValue e).run P w = .ok z w) (b n : Nat) (f : Lit -> Option Value)
  (hm : a.eval m = .map (some b)) (hown : MapV P k w b n f) (key : Value) (kl : Lit) (hx : a.eval x = key) (hkey : keyOf P k key = some kl)
  (hK : wpList P ops Q rest (a.put o.dst ((f kl).getD z)) w) :
  wpList P ops Q (o :: rest) a w := by
 refine wpList_plain hg fun K' hK' => ?_
 unfold Oper.wp
 simp [execOp, hop, hm, hx, hown.lookup K ht hz hkey, Result.andThen]
 exact hK' _ _ hK
theorem wpList_mapUpdateV (hg : o.guard = none) (m x v : Operand) (t : TypeId) (hop : o.op = Op.mapUpdate t m x v)
  (k e : TypeId) (K : Keyed P k) (ht : P.underlying t = some (.map k e)) (b n : Nat) (f : Lit -> Option Value)
  (hm : a.eval m = .map (some b)) (hown : MapV P k w b n f) (hn : n < maxLen) (key val : Value) (kl : Lit) (hx : a.eval x = key) (hv : a.eval v = val) (hkey : keyOf P k key = some kl)
  (hK : ∀ w', MapV P k w' b (n + 1) (putV f kl val) -> w.grownBy w' (some b) -> wpList P ops Q rest (a.put o.dst undef) w') :
  wpList P ops Q (o :: rest) a w := by
 refine wpList_plain hg fun K' hK' => ?_
 obtain ⟨w', hrun, r1, r2⟩ := hown.update K ht hn hkey (val := val)
 unfold Oper.wp
 simp [execOp, hop, hm, hx, hv, hrun, Result.andThen]
 exact hK' _ _ (hK w' r1 r2)
end
section
variable {P : Program} (w : World)
theorem wp_mapUpdateV {o : Oper} {a : Act} {K' : Act -> World -> Prop} {Q : Exit -> Act -> World -> Prop} (m x v : Operand) (t : TypeId) (hop : o.op = Op.mapUpdate t m x v)
  (k e : TypeId) (K : Keyed P k) (ht : P.underlying t = some (.map k e)) (b n : Nat) (f : Lit -> Option Value)
  (hm : a.eval m = .map (some b)) (hown : MapV P k w b n f) (hn : n < maxLen) (key val : Value) (kl : Lit) (hx : a.eval x = key) (hv : a.eval v = val) (hkey : keyOf P k key = some kl)
  (hK : ∀ w', MapV P k w' b (n + 1) (putV f kl val) -> w.grownBy w' (some b) -> K' (a.put o.dst undef) w') : o.wp P a w K' Q := by
 obtain ⟨w', hrun, r1, r2⟩ := hown.update K ht hn hkey (val := val)
 unfold Oper.wp
 simp [execOp, hop, hm, hx, hv, hrun, Result.andThen]
 exact hK w' r1 r2
end
end Go.Proofs.YtknpkndiflodbaaGreatDoor.Mx
namespace Go.Proofs.YtknpkndiflodbaaGreatDoor.Mx
open Go Go.RowKit Go.Maps Go.WideMaps
section
variable {P : Program} {k e t : TypeId} {w w' : World} {b n : Nat} {f : Lit → Option Value}
theorem setBlock_twice (w : World) (b : Nat) (o o' : Obj) : ChangeMaps.setBlock (ChangeMaps.setBlock w b o) b o' = ChangeMaps.setBlock w b o' := by
 simp [ChangeMaps.setBlock]
theorem MapV.entry (h : MapV P k w b n f) (K : KeyLaw P k) (ht : P.underlying t = some (.map k e)) {z : Value} (hz : ∀ u : World, (zeroValue e).run P u = .ok z u) (hn : n < maxLen) {key : Value} {kl : Lit}
  (hkey : keyOf P k key = some kl) : ∃ (v0 : Value) (st : Int) (w1 : World), (Instr.mapEntry t (.map (some b)) key).run P w = .ok (.tuple #[v0, .int .i64 st]) w1 /\ (∀ a : Addr, a.block ≠ b -> w1.cell? a = w.cell? a) /\
   ∀ val, ∃ w2, (Instr.entryStore t (.map (some b)) (.int .i64 st) val).run P w1 = .ok () w2 /\ MapV P k w2 b (n + 1) (putV f kl val) /\ w.grownBy w2 (some b) := by
 obtain ⟨D, ⟨es, clock, hb, F, hs, hD⟩, hf⟩ := h
 obtain ⟨v0, st, es1, clock1, h1, _, h2⟩ := WideElems.entry_then_store (R := asIs) K ht hz hb F hkey
 refine ⟨v0, st, _, h1, fun a ha => ?_, fun val => ?_⟩
 ·apply World.cell?_of_block
  show (w.heap.setIfInBounds b _)[a.block]? = _
  rw [Array.getElem?_setIfInBounds_ne (Ne.symm ha)]
 ·have hlt : b < w.heap.size := (Array.getElem?_eq_some_iff.1 hb).1
  obtain ⟨es', clock', h3, h4⟩ := h2 (ChangeMaps.setBlock w b (.map es1 clock1)) val (by simp [ChangeMaps.setBlock, hlt])
  rw [setBlock_twice] at h3
  obtain ⟨w', hrun, hm, hg⟩ := MapV.update (P := P) (k := k) (w := w) (b := b) (n := n) (f := f) ⟨D, ⟨es, clock, hb, F, hs, hD⟩, hf⟩ (Keyed.of_law K) ht hn (val := val) hkey
  rw [hrun] at h4
  injection h4 with _ h4
  subst h4
  exact ⟨_, h3, hm, hg⟩
theorem MapV.entry_look (h : MapV P k w b n f) (K : KeyLaw P k) (ht : P.underlying t = some (.map k e)) {z : Value} (hz : ∀ u : World, (zeroValue e).run P u = .ok z u) (hn : n < maxLen) {key : Value} {kl : Lit}
  (hkey : keyOf P k key = some kl) {v : Value} {w1 : World} (hrun : (Instr.mapEntry t (.map (some b)) key).run P w = .ok v w1) :
  (Instr.lookup t (.map (some b)) key false).run P w1 = .ok ((f kl).getD z) w1 := by
 have hM := h
 obtain ⟨D, ⟨es, clock, hb, F, hs, hD⟩, hf⟩ := h
 have hlt : b < w.heap.size := (Array.getElem?_eq_some_iff.1 hb).1
 have hl := hM.lookup (Keyed.of_law K) ht (hz w) hkey
 rcases K.find w hkey es.toList F.keys with ⟨h1, h2⟩ | ⟨j, e0, h1, h2, h3⟩
 ·have e1 : (f kl).getD z = z := by
   simp [Instr.lookup, run_underlying ht, MapKept.run_getObj_map hb, K.check w es.isEmpty hkey, h1, hz, Result.andThen] at hl
   exact hl.symm
  obtain ⟨w2, hu, hm2, _⟩ := hM.update (Keyed.of_law K) ht hn (val := z) hkey
  have e2 : w1 = w2 := by
   simp [Instr.mapEntry, run_underlying ht, MapKept.run_getObj_map hb, K.check w false hkey, h1, hz, MapKept.run_setObj_map _ hb, Result.andThen, ChangeMaps.setBlock] at hrun
   simp [Instr.mapUpdate, run_underlying ht, MapKept.run_getObj_map hb, K.check w false hkey, h1, MapKept.run_setObj_map _ hb, Result.andThen, ChangeMaps.setBlock] at hu
   rw [<- hrun.2, <- hu]
  subst e2
  have hl2 := hm2.lookup (Keyed.of_law K) ht (hz w1) hkey
  rw [putV_same _ _ (Keyed.of_law K |>.key hkey)] at hl2
  rw [e1]
  exact hl2
 ·have hj : es[j]? = some e0 := by simpa using h2
  have hsame : es.modify j (fun e => { e with key := key }) = es := by
   apply Array.ext'
   rw [Array.toList_modify, ChangeMaps.modify_eq_set _ _ _ _ h2]
   have : ({ e0 with key := key } : MapEntry) = e0 := by rw [<- h3]
   rw [this]
   exact WideElems.set_self _ _ _ h2
  have e2 : w1 = ChangeMaps.setBlock w b (.map es clock) := by
   simp [Instr.mapEntry, run_underlying ht, MapKept.run_getObj_map hb, K.check w false hkey, h1, hj, h3, K.stays w hkey, hsame, MapKept.run_setObj_map _ hb, Result.andThen, ChangeMaps.setBlock] at hrun
   rw [<- hrun.2]; rfl
  have e3 : w1.heap[b]? = w.heap[b]? := by rw [e2, hb]; simp [ChangeMaps.setBlock, hlt]
  exact (hM.of_block e3).lookup (Keyed.of_law K) ht (hz w1) hkey
theorem keyOf_arr4 {q : IntKind} (A : ArrKey P k e 4) (he : P.underlying e = some (.int q)) (hsz : ∃ m, P.types.size = m + 1) {x0 x1 x2 x3 : Int} (h0 : (Lit.int q x0).wf = true) (h1 : (Lit.int q x1).wf = true) (h2 : (Lit.int q x2).wf = true) (h3 : (Lit.int q x3).wf = true) :
  keyOf P k (.agg #[.int q x0, .int q x1, .int q x2, .int q x3]) = some (.string (keyBytes [.int q x0, .int q x1, .int q x2, .int q x3])) := by
 have hkt := A.keyType hsz
 obtain ⟨m0, hm0⟩ := hsz
 unfold keyOf
 simp only [A.hu]
 rw [if_pos (by simp [hkt, Value.formed, A.hu, A.size]), hm0]
 unfold Program.keyLits
 simp only [A.hu, Value.cells]
 rw [if_pos (by rw [A.size]; rfl), A.one]
 simp [List.range_succ, Program.keyLits, he, h0, h1, h2, h3]
end
end Go.Proofs.YtknpkndiflodbaaGreatDoor.Mx
