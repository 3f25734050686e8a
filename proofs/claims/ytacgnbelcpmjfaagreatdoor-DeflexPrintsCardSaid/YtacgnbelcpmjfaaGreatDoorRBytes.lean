/-
  WALKS: the document's bytes of a set, its ranges.
-/
import Derived.Test.YtacgnbelcpmjfaaGreatDoorRBase
import Derived.Test.YtacgnbelcpmjfaaGreatDoorRanges
import Derived.Test.YtacgnbelcpmjfaaGreatDoorMemA
import Derived.Test.YtacgnbelcpmjfaaGreatDoorBuild2
import Derived.Deep.RegionLaw
import Derived.Deep.QuietTactic
import Derived.BigQuiet
set_option linter.unusedVariables false
set_option linter.unusedSimpArgs false
namespace Go.Proofs.YtacgnbelcpmjfaaGreatDoor.Dx
open Go.RowKit Go.Proofs Mx Bx
open Go.Lib (byteCells)
theorem wrap8 (i : Nat) (h : i < 256) : IntKind.u8.wrap (i : Int) = (i : Int) := by rw [IntKind.wrap_u8]; omega
theorem byte_nat (i : Nat) (h : i < 256) : ((UInt8.ofNat i).toNat : Int) = (i : Int) := by simp; omega
set_option maxRecDepth 100000 in
set_option maxHeartbeats 4000000 in
theorem rbytes_any (M : Nat) (w : World) :
    Calls Tryz.prog 68 #[setV M] w fun e w' => ∃ v, e = .returned v ∧ w'.ownsRow (w.heap.size + 1) 5 1 v (bytesOf M).length (byteCells (bytesOf M)) ∧ Below w.heap.size w w' := by
  have hhas := fun b hb W => has_any M b hb W
  obtain ⟨i0, hi, hz0, hz1, hz2⟩ := info_parts infoByte
  unfold setV
  go_enter Tryz.func68, Tryz.ntmps68
  go_wp2_with fail
  go_loopg [3, 4] 256 (fun m v3 v4 wr => ∃ i : Nat, i ≤ 256 ∧ m = 256 - i ∧ v4 = .int .i64 i ∧ wr.ownsRow (w.heap.size + 1) 5 1 v3 (bytesTo M i).length (byteCells (bytesTo M i)) ∧ Below (w.heap.size + 1) (w.alloc (.cells #[.int .u64 (wd M 0), .int .u64 (wd M 1), .int .u64 (wd M 2), .int .u64 (wd M 3)] 33)) wr)
  case atStart => exact ⟨0, by omega, rfl, rfl, World.ownsRow_nil _ _ _ _, Below.refl _ _⟩
  case round =>
    obtain ⟨i, hi256, hm, rfl, hown, hb⟩ := hrel
    obtain ⟨sa, sc, rfl⟩ := own_shape hown
    have hset : Blk wr w.heap.size 33 #[.int .u64 (wd M 0), .int .u64 (wd M 1), .int .u64 (wd M 2), .int .u64 (wd M 3)] := (Blk.new w _ _).below hb (Nat.lt_succ_self _)
    obtain ⟨y0, y1, y2, y3, yf⟩ := hset.facts4
    have hsz : w.heap.size + 1 ≤ wr.heap.size := by have := hset.lt; omega
    have A := Lib.hid (And.intro hm (And.intro hown (And.intro hb hsz)))
    clear hm hown hb hset hsz
    by_cases hlt : i < 256
    · have hlt' : (i : Int) < 256 := by omega
      have hcall := hhas i hlt wr
      have hw8 := wrap8 i hlt
      have hlen : (bytesTo M i).length ≤ 256 := by
        unfold bytesTo
        rw [List.length_map]
        exact Nat.le_trans (List.length_filter_le _ _) (by simp; omega)
      have hsucc := bytesTo_succ M i
      cases ht : M.testBit i with
      | true =>
        rw [ht] at hcall hsucc
        rw [if_pos rfl] at hsucc
        have HN := Lib.hid hsucc
        clear hsucc ht
        go_wp2_with fail
        refine hcall.mono ?_
        rintro e w2 ⟨rfl, hb2⟩
        have H2 := Lib.hid (And.intro (row_below A.out.2.1 hb2) (And.intro (A.out.2.2.1.trans (hb2.mono A.out.2.2.2)) (Nat.le_trans A.out.2.2.2 hb2.size)))
        clear hb2 hcall
        go_wp2_with (at_builtin; refine wpList_append_own _ rfl _ _ 56 rfl (w.heap.size + 1) 5 i0 (.int .u8 0) 1 1 Tryz.underlying56 hi hz0 hz1 hz2 rfl (by decide) _ _ _ rfl (H2.out.1.alloc _) ⟨w2.heap.size, 0, none⟩ 1 1 [.int .u8 (i : Int)] rfl rfl ?c1 ?c2 ?c3 ?c4 ?c5 ?_)
        case c1 =>
          intro j u hj
          match j, hj with
          | 0, hj => simp at hj; subst hj; first | (simp [Addr.add]; done) | exact (Blk.new _ _ _).cell 0
        case c2 => intro u hu; simp at hu; subst hu; rfl
        case c3 => unfold maxLen; omega
        case c4 => omega
        case c5 => have := H2.out.2.2; simp; omega
        intro v' w3 hown' hgrow _
        have hne : ∀ b, (Value.slice sa (bytesTo M i).length sc).ownBlock = some b → w.heap.size + 1 ≤ b := fun b hb => (H2.out.1.lt b hb).1
        have hb3 := ((H2.out.2.1.alloc H2.out.2.2 _).grown hgrow (by have := H2.out.2.2; simp; omega) (fun b hb => hne b hb))
        have hown3 : w3.ownsRow (w.heap.size + 1) 5 1 v' (bytesTo M (i + 1)).length (byteCells (bytesTo M (i + 1))) := by
          rw [HN.out]
          have h : byteCells (bytesTo M i) ++ [.int .u8 (i : Int)] = byteCells (bytesTo M i ++ [UInt8.ofNat i]) := by rw [← byteCells_snoc, byte_nat i hlt]
          rw [h] at hown'
          simpa using hown'
        have H3 := Lib.hid (And.intro hown3 hb3)
        clear hown' hgrow hne hb3 hown3
        go_wp2_with fail
        go_roundg (256 - (i + 1))
        case measure => have := A.out.1; omega
        case rel => exact ⟨i + 1, by omega, rfl, rfl, H3.out.1, H3.out.2⟩
      | false =>
        rw [ht] at hcall hsucc
        rw [if_neg (by decide)] at hsucc
        have HN := Lib.hid hsucc
        clear hsucc ht
        go_wp2_with fail
        refine hcall.mono ?_
        rintro e w2 ⟨rfl, hb2⟩
        have H2 := Lib.hid (And.intro (row_below A.out.2.1 hb2) (A.out.2.2.1.trans (hb2.mono A.out.2.2.2)))
        clear hb2 hcall
        go_wp2_with fail
        go_roundg (256 - (i + 1))
        case measure => have := A.out.1; omega
        case rel => exact ⟨i + 1, by omega, rfl, rfl, by rw [HN.out]; exact H2.out.1, H2.out.2⟩
    · obtain rfl : i = 256 := by omega
      go_wp2_with fail
      go_ret
      exact ⟨_, rfl, A.out.2.1, ((Below.refl w.heap.size w).alloc (Nat.le_refl _) _).trans (A.out.2.2.1.mono (Nat.le_succ _))⟩
end Go.Proofs.YtacgnbelcpmjfaaGreatDoor.Dx
