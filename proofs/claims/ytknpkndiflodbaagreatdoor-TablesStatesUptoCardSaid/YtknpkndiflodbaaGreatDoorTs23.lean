/- Walks and plain laws that the last text stands on: TbRef2T, ConcG. -/
import Derived.Test.YtknpkndiflodbaaGreatDoorTs20
import Derived.Deep.RegionHeld3
import Derived.Deep.RegionWith
import Derived.Deep.CutRange
import Derived.OwnWalk
import Derived.WalkMore
set_option linter.unusedVariables false
set_option linter.unusedSimpArgs false
set_option maxRecDepth 100000
set_option maxHeartbeats 16000000
namespace Go.Proofs.YtknpkndiflodbaaGreatDoor.Tb
open Go Go.RowKit Go.Proofs Mx
theorem flat_setS : ∀ (l : List Nat) (i : Nat) (x : Nat), i < l.length -> ((((flatK encSet l).set (i * 4) (.int .u64 (wd x 0))).set (i * 4 + 1) (.int .u64 (wd x 1))).set (i * 4 + 2) (.int .u64 (wd x 2))).set (i * 4 + 3) (.int .u64 (wd x 3)) = flatK encSet (l.set i x)
 | [], i, x, h => by simp at h
 | y :: l, 0, x, h => by simp [flatK_cons, encSet]
 | y :: l, i + 1, x, h => by
  have ih := flat_setS l i x (by simpa using h)
  rw [flatK_cons, List.set_cons_succ, flatK_cons, <- ih]
  have e0 : (i + 1) * 4 = (encSet y).length + i * 4 := by rw [encSet_len]; omega
  have e1 : (encSet y).length + i * 4 + 1 = (encSet y).length + (i * 4 + 1) := by omega
  have e2 : (encSet y).length + i * 4 + 2 = (encSet y).length + (i * 4 + 2) := by omega
  have e3 : (encSet y).length + i * 4 + 3 = (encSet y).length + (i * 4 + 3) := by omega
  rw [e0, e1, e2, e3, List.set_append_right _ _ (by omega), Nat.add_sub_cancel_left, List.set_append_right _ _ (by omega), Nat.add_sub_cancel_left, List.set_append_right _ _ (by omega), Nat.add_sub_cancel_left, List.set_append_right _ _ (by omega), Nat.add_sub_cancel_left]
theorem own_setS {w : World} {B g cap : Nat} {l : List Nat} {n : Nat} (h : w.ownsRow B 26 4 (.slice (some ⟨g, 0, none⟩) n cap) n (flatK encSet l)) (hn : l.length = n) (i x : Nat) (hi : i < n) :
  ((((w.setCell ⟨g, i * 4, none⟩ (.int .u64 (wd x 0))).setCell ⟨g, i * 4 + 1, none⟩ (.int .u64 (wd x 1))).setCell ⟨g, i * 4 + 2, none⟩ (.int .u64 (wd x 2))).setCell ⟨g, i * 4 + 3, none⟩ (.int .u64 (wd x 3))).ownsRow B 26 4 (.slice (some ⟨g, 0, none⟩) n cap) n (flatK encSet (l.set i x)) := by
 rw [<- flat_setS l i x (by omega)]
 exact own_put (own_put (own_put (own_put h _ (by omega) _) _ (by omega) _) _ (by omega) _) _ (by omega) _
theorem own_apart {w : World} {B B' : Nat} {e e' : TypeId} {z z' n n' : Nat} {v v' : Value} {xs xs' : List Value} (h : w.ownsRow B e z v n xs) (h' : w.ownsRow B' e' z' v' n' xs') (he : e ≠ e') : ∀ b, v.ownBlock = some b -> v'.ownBlock ≠ some b := by
 intro b hb hb'
 rcases h.2 with ⟨rfl, _⟩ | ⟨g, cap, cur, rfl, _, hh, _⟩
 ·simp [Value.ownBlock] at hb
 ·rcases h'.2 with ⟨rfl, _⟩ | ⟨g', cap', cur', rfl, _, hh', _⟩
  ·simp [Value.ownBlock] at hb'
  ·simp [Value.ownBlock] at hb hb'
   subst hb
   subst hb'
   rw [hh] at hh'
   injection hh' with hh'
   injection hh' with _ h2 _
   exact he h2
theorem own_ne {w : World} {B B' : Nat} {e e' : TypeId} {z z' n n' : Nat} {v v' : Value} {xs xs' : List Value} (h : w.ownsRow B e z v n xs) (h' : w.ownsRow B' e' z' v' n' xs') (he : e ≠ e') : v.ownBlock = none ∨ v.ownBlock ≠ v'.ownBlock := by
 cases hb : v.ownBlock with
 | none => exact .inl rfl
 | some b => exact .inr fun e => own_apart h h' he b hb e.symm
theorem sameB_take {L : List Nat} {b c k s : Nat} (h : L[k]? = some s) : sameB (L.take (k + 1)) b c = (sameB (L.take k) b c && (s.testBit b == s.testBit c)) := by
 unfold sameB
 rw [List.take_add_one, h]
 simp
theorem infoInt2 : (Tryz.prog.info? 3).map (fun i => (i.zero, i.size, i.bytes)) = some (some (.int .i64 0), 1, 8) := by kernel_rfl
theorem own_frozen {w : World} {B : Nat} {e : TypeId} {z g n cap : Nat} {xs : List Value} (h : w.ownsRow B e z (.slice (some ⟨g, 0, none⟩) n cap) n xs) : ∀ o, w.frozen? ⟨g, o, none⟩ = false := by
 rcases h.2 with ⟨h1, _⟩ | ⟨g', cap', cur, hv, _, hh, _⟩
 ·cases h1
 ·injection hv with e1 e2 e3
  injection e1 with e1
  injection e1 with e1
  subst e1
  exact fun o => Blk.frozen (show Blk w g e cur from hh) o
def AtI (L : List Nat) (b i : Nat) (at_ : Int) : Prop := (at_ = -1 /\ ∀ j, j < i -> sameB L b ((firsts L b).getD j 0) = false) ∨ ∃ j : Nat, j < i /\ at_ = (j : Int) /\ sameB L b ((firsts L b).getD j 0) = true
theorem rsplit_any (D : Nat -> Prop) (L : List Nat) (hL : L.length <= 2000000) (v : Value) (w : World) (hv : SliceK D encSet 4 w v L) :
  Calls Tryz.prog 80 #[v] w fun e w' => ∃ v', e = .returned v' /\ w'.ownsRow w.heap.size 26 4 v' (refSplit L).length (flatK encSet (refSplit L)) /\ Below w.heap.size w w' := by
 obtain ⟨la, lc, rfl, hc1, hc2, hk⟩ := hv
 have HK := Hd hk
 clear hk hc1 hc2
 go_enter Tryz.func80, Tryz.ntmps80
 go_wp2_with fail
 go_loopg [3, 4, 5] 256 (fun m v3 v4 v5 wr => ∃ b : Nat, b <= 256 /\ m = 256 - b /\ v5 = .int .i64 (b : Int) /\ wr.ownsRow w.heap.size 26 4 v3 (firsts L b).length (flatK encSet ((firsts L b).map (classB L b))) /\ wr.ownsRow w.heap.size 3 1 v4 (firsts L b).length (flatK encN (firsts L b)) /\ Below w.heap.size w wr)
 case atStart => exact ⟨0, by omega, rfl, rfl, World.ownsRow_nil _ _ _ _, World.ownsRow_nil _ _ _ _, Below.refl _ _⟩
 case round =>
  obtain ⟨b, hb, hm, rfl, ho3, ho4, hbl⟩ := hrel
  obtain ⟨oa, oc, rfl⟩ := own_shape ho3
  obtain ⟨fa, fc, rfl⟩ := own_shape ho4
  have hfl : (firsts L b).length <= b := by unfold firsts; exact Nat.le_trans (List.length_filter_le _ _) (by simp)
  by_cases hlt : b < 256
  ·have hb1 : (b : Int) < 256 := by omega
   have hb0 : (0 : Int) <= (b : Int) := by omega
   obtain ⟨F, hF⟩ : ∃ F, (firsts L b).length = F := ⟨_, rfl⟩
   have hF4 := own_sliceK encN_len ho4
   rw [hF] at ho3 ho4 hfl ⊢
   have A := Hd (An hm (An ho3 (An ho4 (An hbl (An hF hF4)))))
   clear hm ho3 ho4 hbl hF hF4
   obtain ⟨wo, rfl⟩ : ∃ wo : World, wo = wr := ⟨_, rfl⟩
   go_wp2_with fail
   go_loopg [6, 7] F (fun m v6 v7 wx => ∃ (i : Nat) (at_ : Int), i <= F /\ m = F - i /\ v7 = .int .i64 (i : Int) /\ v6 = .int .i64 at_ /\ AtI L b i at_ /\ Below wo.heap.size wo wx)
   case atStart => exact ⟨0, -1, by omega, rfl, rfl, rfl, .inl ⟨rfl, fun j hj => by omega⟩, Below.refl _ _⟩
   case round =>
    obtain ⟨i, at_, hi, hm, rfl, rfl, hat, hbx⟩ := hrel
    by_cases hiF : i < F
    ·obtain ⟨f, hf⟩ : ∃ f, (firsts L b)[i]? = some f := ⟨_, List.getElem?_eq_getElem (by rw [A.out.2.2.2.2.1]; exact hiF)⟩
     have hfb := (firsts_mem.1 (List.mem_of_getElem? hf)).1
     have hfd : (firsts L b).getD i 0 = f := by simp [List.getD, hf]
     obtain ⟨fa2, fc2, ei, _, _, hk4⟩ := A.out.2.2.2.2.2
     injection ei with ei1 _ ei3
     subst ei1
     subst ei3
     obtain ⟨fg, fo, rfl, _, hfr⟩ := hk4 (by rintro h; rw [h] at hf; simp at hf)
     have hiF1 : (i : Int) < (F : Int) := by omega
     have hi0 : (0 : Int) <= (i : Int) := by omega
     have hFb : F <= 256 := by omega
     have Q := Hd (An hm (An hat (An hbx (An hfr (An hf hfd)))))
     clear hm hat hbx hfr hf hfd hk4
     go_wp2_with fail
     go_loopg [8, 9] L.length (fun m v8 v9 wy => ∃ k : Nat, k <= L.length /\ m = L.length - k /\ v9 = .int .i64 (k : Int) /\ v8 = .bool (sameB (L.take k) b f) /\ Below wo.heap.size wo wy)
     case atStart => exact ⟨0, by omega, rfl, rfl, by simp [sameB], Q.out.2.2.1⟩
     case round =>
      obtain ⟨k, hk, hm, rfl, rfl, hby⟩ := hrel
      by_cases hkL : k < L.length
      ·obtain ⟨s, hs⟩ : ∃ s, L[k]? = some s := ⟨_, List.getElem?_eq_getElem hkL⟩
       have hkL1 : (k : Int) < (L.length : Int) := by omega
       have hk0 : (0 : Int) <= (k : Int) := by omega
       have hst := sameB_take (b := b) (c := f) hs
       cases hsm : sameB (L.take k) b f with
       | false =>
        rw [hsm, Bool.false_and] at hst
        have R := Hd (An hm (An hst hby))
        clear hm hst hby hsm
        go_upto_region 14 with fail
        go_quiet (fail)
        go_wp2_with fail
        go_roundg (L.length - (k + 1))
        case measure => have := R.out.1; omega
        case rel => exact ⟨k + 1, by omega, rfl, rfl, by rw [R.out.2.1], below_drewN R.out.2.2 _⟩
       | true =>
        rw [hsm, Bool.true_and] at hst
        obtain ⟨x, hx⟩ : ∃ x, s.testBit b = x := ⟨_, rfl⟩
        obtain ⟨y, hy⟩ : ∃ y, s.testBit f = y := ⟨_, rfl⟩
        rw [hx, hy] at hst
        have hax := fun W => rhas_any s b hlt W
        have hay := fun W => rhas_any s f (by omega) W
        rw [hx] at hax
        rw [hy] at hay
        obtain ⟨kg, ko, rfl, _, hkr⟩ := HK.out (by rintro h; rw [h] at hkL; simp at hkL)
        have hbw : Below w.heap.size w wr := A.out.2.2.2.1.trans (hby.mono A.out.2.2.2.1.size)
        have c0 := (World.cell?_of_block (hbw.block kg hkr.lt)).trans (hkr.cells k _ hs 0 _ rfl)
        have c1 := (World.cell?_of_block (hbw.block kg hkr.lt)).trans (hkr.cells k _ hs 1 _ rfl)
        have c2 := (World.cell?_of_block (hbw.block kg hkr.lt)).trans (hkr.cells k _ hs 2 _ rfl)
        have c3 := (World.cell?_of_block (hbw.block kg hkr.lt)).trans (hkr.cells k _ hs 3 _ rfl)
        have c4 := (World.cell?_of_block (hby.block fg Q.out.2.2.2.1.lt)).trans (Q.out.2.2.2.1.cells i _ Q.out.2.2.2.2.1 0 _ rfl)
        simp only [Nat.add_zero, Nat.mul_one] at c0 c4
        have lg : kg < wr.heap.size := World.block_lt_of_cell? _ _ c0
        have lf : fg < wr.heap.size := World.block_lt_of_cell? _ _ c4
        have MK := Hd (show ∀ W, Below wr.heap.size wr.drew W -> (W.cell? ⟨kg, ko + k * 4, none⟩ = some (.int .u64 (wd s 0)) /\ W.cell? ⟨kg, ko + k * 4 + 1, none⟩ = some (.int .u64 (wd s 1)) /\ W.cell? ⟨kg, ko + k * 4 + 2, none⟩ = some (.int .u64 (wd s 2)) /\ W.cell? ⟨kg, ko + k * 4 + 3, none⟩ = some (.int .u64 (wd s 3))) /\
          W.cell? ⟨fg, fo + i, none⟩ = some (.int .i64 (f : Int)) /\ Below wr.heap.size wr.drew W from fun W h => by
         have up : ∀ {g o : Nat} {u : Value}, g < wr.heap.size -> wr.cell? ⟨g, o, none⟩ = some u -> W.cell? ⟨g, o, none⟩ = some u := fun hg hc => (World.cell?_of_block (h.block _ hg)).trans hc
         exact ⟨⟨up lg c0, up lg c1, up lg c2, up lg c3⟩, up lf c4, h⟩)
        have hca : ∀ W, Below wr.heap.size wr.drew W -> Calls Tryz.prog 53 #[.agg #[.int .u64 (wd s 0), .int .u64 (wd s 1), .int .u64 (wd s 2), .int .u64 (wd s 3)], .int .i64 (b : Int)] W fun e W' => e = .returned (.bool x) /\ Below wr.heap.size wr.drew W' := fun W h => (hax W).mono fun e W' ⟨he, hb⟩ => ⟨he, h.trans (hb.mono h.size)⟩
        have hcb : ∀ W, Below wr.heap.size wr.drew W -> Calls Tryz.prog 53 #[.agg #[.int .u64 (wd s 0), .int .u64 (wd s 1), .int .u64 (wd s 2), .int .u64 (wd s 3)], .int .i64 (f : Int)] W fun e W' => e = .returned (.bool y) /\ Below wr.heap.size wr.drew W' := fun W h => (hay W).mono fun e W' ⟨he, hb⟩ => ⟨he, h.trans (hb.mono h.size)⟩
        have hU : Below wr.heap.size wr.drew wr.drew := Below.refl _ _
        have R := Hd (An hm (An hst hby))
        clear hm hst hby hsm hx hy hax hay hbw hkr hs c0 c1 c2 c3 c4 lg lf
        go_upto_region 14 with fail
        apply via
        ·intro KV
         go_region_held3 (fun W => (W.cell? ⟨kg, ko + k * 4, none⟩ = some (.int .u64 (wd s 0)) /\ W.cell? ⟨kg, ko + k * 4 + 1, none⟩ = some (.int .u64 (wd s 1)) /\ W.cell? ⟨kg, ko + k * 4 + 2, none⟩ = some (.int .u64 (wd s 2)) /\ W.cell? ⟨kg, ko + k * 4 + 3, none⟩ = some (.int .u64 (wd s 3))) /\
          W.cell? ⟨fg, fo + i, none⟩ = some (.int .i64 (f : Int)) /\ Below wr.heap.size wr.drew W)
          (first
           | exact MK.out _ hU
           | exact MK.out _ (by assumption))
          (first
           | (go_at_call_of 53 (f); refine (hcb _ (by assumption)).mono ?_; rintro e w5 ⟨rfl, hb5⟩)
           | (go_at_call_of 53 (b); refine (hca _ (by assumption)).mono ?_; rintro e w5 ⟨rfl, hb5⟩))
         all_goals (try go_simp)
         all_goals revert w5
         all_goals exact KV.out
        ·intro w5 hb5
         intros
         rename_i hheld
         clear hheld hca hcb hU MK
         have hb5 : Below wr.heap.size wr w5 := (show Below wr.heap.size wr wr.drew from (Below.refl _ _).drew).trans hb5
         have R5 := Hd (R.out.2.2.trans (hb5.mono R.out.2.2.size))
         clear hb5
         go_wp2_with fail
         go_roundg (L.length - (k + 1))
         case measure => have := R.out.1; omega
         case rel => exact ⟨k + 1, by omega, rfl, rfl, by rw [R.out.2.1], R5.out⟩
      ·obtain rfl : k = L.length := by omega
       have hsL : sameB (L.take L.length) b f = sameB L b f := by rw [List.take_length]
       rw [hsL]
       have R := Hd (An hby hsL)
       clear hm hby hsL
       cases hsm : sameB L b f with
       | true =>
        have HS := Hd hsm
        clear hsm
        go_wp2_with fail
        go_roundg (F - (i + 1))
        case measure => have := Q.out.1; omega
        case rel => exact ⟨i + 1, (i : Int), by omega, rfl, rfl, rfl, .inr ⟨i, by omega, rfl, by rw [Q.out.2.2.2.2.2]; exact HS.out⟩, R.out.1⟩
       | false =>
        have HS := Hd hsm
        clear hsm
        go_wp2_with fail
        go_roundg (F - (i + 1))
        case measure => have := Q.out.1; omega
        case rel =>
         refine ⟨i + 1, at_, by omega, rfl, rfl, rfl, ?_, R.out.1⟩
         rcases Q.out.2.1 with ⟨h1, h2⟩ | ⟨j, h1, h2, h3⟩
         ·refine .inl ⟨h1, fun j hj => ?_⟩
          rcases Nat.lt_or_ge j i with h | h
          ·exact h2 j h
          ·obtain rfl : j = i := by omega
           rw [Q.out.2.2.2.2.2]; exact HS.out
         ·exact .inr ⟨j, by omega, h2, h3⟩
    ·obtain rfl : i = F := by omega
     have ho3 := A.out.2.1.kept (row := none) ⟨hbx.os, hbx.tape, hbx.output, hbx.size, fun k hk _ => hbx.block k hk⟩ (by cases hv : (Value.slice oa i oc).ownBlock <;> simp)
     have ho4 := A.out.2.2.1.kept (row := none) ⟨hbx.os, hbx.tape, hbx.output, hbx.size, fun k hk _ => hbx.block k hk⟩ (by cases hv : (Value.slice fa i fc).ownBlock <;> simp)
     have hbw : Below w.heap.size w wr := A.out.2.2.2.1.trans (hbx.mono A.out.2.2.2.1.size)
     have hFb : i <= 256 := by omega
     have hml : ((firsts L b).map (classB L b)).length = i := by rw [List.length_map]; exact A.out.2.2.2.2.1
     have hsz := hbw.size
     rcases hat with ⟨rfl, hno⟩ | ⟨j, hj, rfl, hsj⟩
     ·have hnone : ∀ f ∈ firsts L b, sameB L b f = false := fun f hf => by
       obtain ⟨j, hj⟩ := List.getElem?_of_mem hf
       have := hno j (by rw [<- A.out.2.2.2.2.1]; exact (List.getElem?_eq_some_iff.1 hj).1)
       simpa [List.getD, hj] using this
      have X := Hd (An ho3 (An ho4 (An hbw (An hml (An (split_new hnone) (An (firsts_new hnone) hsz))))))
      clear ho3 ho4 hbw hml hnone hno hm hbx hsz
      obtain ⟨i0, hi0, hz0, hz1, hz2⟩ := info_parts infoSet
      have hs2 := X.out.2.2.2.2.2.2
      go_wp2_with (at_builtin; go_loud (refine wpList_append_ownF _ rfl _ _ 137 rfl w.heap.size 26 i0 (.agg #[.int .u64 0, .int .u64 0, .int .u64 0, .int .u64 0]) 4 32 Tryz.underlying137 hi0 hz0 hz1 hz2 rfl (by decide) _ i _ rfl (X.out.1.alloc _) ⟨wr.heap.size, 0, none⟩ 1 1 [.int .u64 0, .int .u64 0, .int .u64 0, .int .u64 0] rfl rfl ?c1 ?c2 ?c3 ?c4 ?c5 ?_))
      case c1 => exact cells_new2 wr _ _
      case c2 => intro u hu; simp at hu; subst hu; rfl
      case c3 => unfold maxLen; omega
      case c4 => omega
      case c5 => simp; omega
      intro v3 w5 hown5 hg5 hfr5
      have ez : flatK encSet ((firsts L b).map (classB L b)) ++ [.int .u64 0, .int .u64 0, .int .u64 0, .int .u64 0] = flatK encSet ((firsts L b).map (classB L b) ++ [0]) := by rw [<- flatK_snoc]; simp [encSet, wd]
      rw [ez] at hown5
      have ho4b := (X.out.2.1.alloc (.cells #[.int .u64 0, .int .u64 0, .int .u64 0, .int .u64 0] 26)).kept hg5 (own_ne (X.out.2.1) (X.out.1) (by decide))
      have hb5 := (X.out.2.2.1.alloc hs2 (.cells #[.int .u64 0, .int .u64 0, .int .u64 0, .int .u64 0] 26)).grown hg5 (by simp; omega) (fun b hb => (X.out.1.lt b hb).1)
      have hs5 := hb5.size
      obtain ⟨og, oc2, rfl, hog, hoc1, hoc2⟩ := own_some hown5 (by omega)
      have R5 := Hd (An hown5 (An ho4b hb5))
      clear hown5 hg5 hfr5 ez ho4b hb5 hi0 hz0 hz1 hz2 hoc1 hoc2
      obtain ⟨j0, hj0, hy0, hy1, hy2⟩ := info_parts infoInt2
      go_wp2_with (at_builtin; go_loud (refine wpList_append_ownF _ rfl _ _ 68 rfl w.heap.size 3 j0 (.int .i64 0) 1 8 Tryz.underlying68 hj0 hy0 hy1 hy2 rfl (by decide) _ i _ rfl (R5.out.2.1.alloc _) ⟨w5.heap.size, 0, none⟩ 1 1 [.int .i64 (b : Int)] rfl rfl ?c1 ?c2 ?c3 ?c4 ?c5 ?_))
      case c1 => exact cells_new2 w5 _ _
      case c2 => intro u hu; simp at hu; subst hu; rfl
      case c3 => unfold maxLen; omega
      case c4 => omega
      case c5 => simp; omega
      intro v4 w6 hown6 hg6 hfr6
      have ho3c := (R5.out.1.alloc (.cells #[.int .i64 (b : Int)] 3)).kept hg6 (own_ne (R5.out.1) (R5.out.2.1) (by decide))
      have hb6 := (R5.out.2.2.alloc hs5 (.cells #[.int .i64 (b : Int)] 3)).grown hg6 (by simp; omega) (fun b hb => (R5.out.2.1.lt b hb).1)
      have e4 : flatK encN (firsts L b) ++ [.int .i64 (b : Int)] = flatK encN (firsts L (b + 1)) := by rw [X.out.2.2.2.2.2.1, <- flatK_snoc]; rfl
      rw [e4] at hown6
      have hc : ∀ j u, (encSet 0)[j]? = some u -> w6.cell? ⟨og, i * 4 + j, none⟩ = some u := fun j u hu => by
       have h := ho3c.cells (g := og) rfl (i * 4 + j) u (flatK_get encSet_len _ i 0 j u (by rw [List.getElem?_append_right (by rw [X.out.2.2.2.1]; exact Nat.le_refl _), X.out.2.2.2.1]; simp) hu)
       rw [addr_add_, Nat.zero_add] at h
       exact h
      have c0 := hc 0 _ rfl
      have c1 := hc 1 _ rfl
      have c2 := hc 2 _ rfl
      have c3 := hc 3 _ rfl
      simp only [Nat.add_zero] at c0
      have hwi := rwith_any 0 b hlt
      have hii : (i : Int) < (i : Int) + 1 := by omega
      have hii0 : (0 : Int) <= (i : Int) := by omega
      have R6 := Hd (An ho3c (An hown6 hb6))
      have hogl := (ho3c.lt og rfl).2
      clear hown6 hg6 hfr6 ho3c hb6 e4 hc hj0 hy0 hy1 hy2
      go_wp2_with fail
      refine (hwi _).mono ?_
      rintro e w7 ⟨rfl, hb7⟩
      have hg7 : w6.grownBy w7 none := ⟨hb7.os, hb7.tape, hb7.output, hb7.size, fun k hk _ => hb7.block k hk⟩
      have ho3d := R6.out.1.kept hg7 (by right; simp [Value.ownBlock])
      have ho4d := R6.out.2.1.kept hg7 (by cases hv : v4.ownBlock <;> simp)
      have ff := own_frozen ho3d
      have hc7 : ∀ j u, (encSet 0)[j]? = some u -> w7.cell? ⟨og, i * 4 + j, none⟩ = some u := fun j u hu => by
       have h := ho3d.cells (g := og) rfl (i * 4 + j) u (flatK_get encSet_len _ i 0 j u (by rw [List.getElem?_append_right (by rw [X.out.2.2.2.1]; exact Nat.le_refl _), X.out.2.2.2.1]; simp) hu)
       rw [addr_add_, Nat.zero_add] at h
       exact h
      have d0 := hc7 0 _ rfl
      have d1 := hc7 1 _ rfl
      have d2 := hc7 2 _ rfl
      have d3 := hc7 3 _ rfl
      simp only [Nat.add_zero] at d0
      clear hc7
      have R7 := Hd (An ho3d (An ho4d (R6.out.2.2.trans (hb7.mono R6.out.2.2.size))))
      clear hb7 hg7 ho3d ho4d hwi c0 c1 c2 c3
      unfold setV
      go_wp2_with fail
      go_roundg (256 - (b + 1))
      case measure => have := A.out.1; omega
      case rel =>
       have h1 := own_setS R7.out.1 (by rw [List.length_append, X.out.2.2.2.1]; rfl) i (2 ^ b) (by omega)
       have hap := own_apart R7.out.2.1 R7.out.1 (by decide)
       have hst : ∀ (q : Nat) (u0 u1 u2 u3 : Value), q ≠ og -> ((((w7.setCell ⟨og, i * 4, none⟩ u0).setCell ⟨og, i * 4 + 1, none⟩ u1).setCell ⟨og, i * 4 + 2, none⟩ u2).setCell ⟨og, i * 4 + 3, none⟩ u3).heap[q]? = w7.heap[q]? := fun q u0 u1 u2 u3 hq =>
        (((Below.heap_setCell _ ⟨og, i * 4 + 3, none⟩ u3 q hq).trans (Below.heap_setCell _ ⟨og, i * 4 + 2, none⟩ u2 q hq)).trans (Below.heap_setCell _ ⟨og, i * 4 + 1, none⟩ u1 q hq)).trans (Below.heap_setCell _ ⟨og, i * 4, none⟩ u0 q hq)
       have hgr : ∀ (u0 u1 u2 u3 : Value), w7.grownBy ((((w7.setCell ⟨og, i * 4, none⟩ u0).setCell ⟨og, i * 4 + 1, none⟩ u1).setCell ⟨og, i * 4 + 2, none⟩ u2).setCell ⟨og, i * 4 + 3, none⟩ u3) (some og) := fun u0 u1 u2 u3 => grown_set (grown_set (grown_set (grown_set (grown_refl w7 (some og)) rfl u0) rfl u1) rfl u2) rfl u3
       refine ⟨b + 1, by omega, rfl, rfl, ?_, ?_, ?_⟩
       ·rw [X.out.2.2.2.2.1, X.out.2.2.2.2.2.1, List.length_append, A.out.2.2.2.2.1]
        have e : ((firsts L b).map (classB L b) ++ [0]).set i (2 ^ b) = (firsts L b).map (classB L b) ++ [2 ^ b] := by
         rw [List.set_append_right _ _ (by rw [X.out.2.2.2.1]; exact Nat.le_refl _), X.out.2.2.2.1]; simp
        rw [e] at h1
        exact h1
       ·rw [X.out.2.2.2.2.2.1, List.length_append, A.out.2.2.2.2.1, <- X.out.2.2.2.2.2.1]
        refine R7.out.2.1.kept (hgr _ _ _ _) ?_
        cases hv : v4.ownBlock with
        | none => exact .inl rfl
        | some q => exact .inr fun e => by injection e with e; exact hap q hv (by simp [Value.ownBlock, e])
       ·exact R7.out.2.2.grown (hgr _ _ _ _) R7.out.2.2.size (fun q hq => by injection hq with hq; omega)
     ·have hjf : ∃ f, (firsts L b)[j]? = some f := ⟨_, List.getElem?_eq_getElem (by rw [A.out.2.2.2.2.1]; exact hj)⟩
      obtain ⟨f, hf⟩ := hjf
      have hjl := (List.getElem?_eq_some_iff.1 hf).1
      have hsf : sameB L b (firsts L b)[j] = true := by
       rw [show (firsts L b)[j] = (firsts L b).getD j 0 by simp [List.getD, List.getElem?_eq_getElem hjl]]; exact hsj
      have hold := split_old hjl hsf
      have hfold := firsts_old (List.getElem_mem hjl) hsf
      obtain ⟨M, hM⟩ : ∃ M, classB L b (firsts L b)[j] = M := ⟨_, rfl⟩
      rw [hM] at hold
      have hMe : ((firsts L b).map (classB L b))[j]? = some M := by rw [List.getElem?_map, List.getElem?_eq_getElem hjl, <- hM]; rfl
      obtain ⟨og, oc2, eo, hog, hoc1, hoc2⟩ := own_some ho3 (by omega)
      injection eo with eo1 _ eo3
      subst eo1
      subst eo3
      have hc : ∀ j' u, (encSet M)[j']? = some u -> wr.cell? ⟨og, j * 4 + j', none⟩ = some u := fun j' u hu => by
       have h := ho3.cells (g := og) rfl (j * 4 + j') u (flatK_get encSet_len _ j M j' u hMe hu)
       rw [addr_add_, Nat.zero_add] at h
       exact h
      have c0 := hc 0 _ rfl
      have c1 := hc 1 _ rfl
      have c2 := hc 2 _ rfl
      have c3 := hc 3 _ rfl
      simp only [Nat.add_zero] at c0
      have hwi := rwith_any M b hlt
      have hji : (j : Int) < (i : Int) := by omega
      have hj0 : (0 : Int) <= (j : Int) := by omega
      have hjn : decide ((j : Int) < 0) = false := decide_eq_false (by omega)
      have hogl := (ho3.lt og rfl).2
      have X := Hd (An ho3 (An ho4 (An hbw (An hml (An hold (An hfold (An hMe hsz)))))))
      clear ho3 ho4 hbw hml hold hfold hMe hsz hsj hf hsf hM hc hm hbx hoc1 hoc2
      go_wp2_with fail
      refine (hwi _).mono ?_
      rintro e w7 ⟨rfl, hb7⟩
      have hg7 : wr.grownBy w7 none := ⟨hb7.os, hb7.tape, hb7.output, hb7.size, fun k hk _ => hb7.block k hk⟩
      have ho3d := X.out.1.kept hg7 (by right; simp [Value.ownBlock])
      have ho4d := X.out.2.1.kept hg7 (by cases hv : (Value.slice fa i fc).ownBlock <;> simp)
      have ff := own_frozen ho3d
      have hc7 : ∀ j' u, (encSet M)[j']? = some u -> w7.cell? ⟨og, j * 4 + j', none⟩ = some u := fun j' u hu => by
       have h := ho3d.cells (g := og) rfl (j * 4 + j') u (flatK_get encSet_len _ j M j' u X.out.2.2.2.2.2.2.1 hu)
       rw [addr_add_, Nat.zero_add] at h
       exact h
      have d0 := hc7 0 _ rfl
      have d1 := hc7 1 _ rfl
      have d2 := hc7 2 _ rfl
      have d3 := hc7 3 _ rfl
      simp only [Nat.add_zero] at d0
      have R7 := Hd (An ho3d (An ho4d (X.out.2.2.1.trans (hb7.mono X.out.2.2.1.size))))
      clear hb7 hg7 ho3d ho4d hwi c0 c1 c2 c3 hc7
      unfold setV
      go_wp2_with fail
      go_roundg (256 - (b + 1))
      case measure => have := A.out.1; omega
      case rel =>
       have h1 := own_setS R7.out.1 X.out.2.2.2.1 j (M ||| 2 ^ b) hj
       have hap := own_apart R7.out.2.1 R7.out.1 (by decide)
       have hgr : ∀ (u0 u1 u2 u3 : Value), w7.grownBy ((((w7.setCell ⟨og, j * 4, none⟩ u0).setCell ⟨og, j * 4 + 1, none⟩ u1).setCell ⟨og, j * 4 + 2, none⟩ u2).setCell ⟨og, j * 4 + 3, none⟩ u3) (some og) := fun u0 u1 u2 u3 => grown_set (grown_set (grown_set (grown_set (grown_refl w7 (some og)) rfl u0) rfl u1) rfl u2) rfl u3
       refine ⟨b + 1, by omega, rfl, rfl, ?_, ?_, ?_⟩
       ·rw [X.out.2.2.2.2.1, X.out.2.2.2.2.2.1, A.out.2.2.2.2.1]
        exact h1
       ·rw [X.out.2.2.2.2.2.1, A.out.2.2.2.2.1]
        refine R7.out.2.1.kept (hgr _ _ _ _) ?_
        cases hv : (Value.slice fa i fc).ownBlock with
        | none => exact .inl rfl
        | some q => exact .inr fun e => by injection e with e; exact hap q hv (by simp [Value.ownBlock, e])
       ·exact R7.out.2.2.grown (hgr _ _ _ _) R7.out.2.2.size (fun q hq => by injection hq with hq; omega)
  ·obtain rfl : b = 256 := by omega
   have R := Hd (An ho3 hbl)
   clear hm ho3 ho4 hbl
   go_wp2_with fail
   go_ret
   refine ⟨_, rfl, ?_, R.out.2⟩
   unfold refSplit
   rw [List.length_map]
   exact R.out.1
end Go.Proofs.YtknpkndiflodbaaGreatDoor.Tb
namespace Go.Proofs.YtknpkndiflodbaaGreatDoor.Mx
open Go.RowKit
section
variable {P : Program} {md : Region.Mode}
def liveB (gd : Nat -> Bool) (o : Oper) : Bool := match o.guard with | none => true | some (j, b) => gd j == b
def GuardsOk (R : Nat -> Value -> World -> Prop) (gd : Nat -> Bool) : List Nat -> Prop
 | [] => True
 | j :: r => (∀ v w, R j v w -> v = .bool (gd j)) /\ GuardsOk R gd r
theorem guardsOk_at {R : Nat -> Value -> World -> Prop} {gd : Nat -> Bool} : ∀ {js : List Nat} {j : Nat}, GuardsOk R gd js -> j ∈ js -> ∀ v w, R j v w -> v = .bool (gd j)
 | [], _, _, h => absurd h (by simp)
 | x :: r, j, hg, h => by
  rcases List.mem_cons.1 h with h | h
  ·subst h; exact hg.1
  ·exact guardsOk_at hg.2 h
def concGB (md : Region.Mode) (l : List Oper) (n : Nat) (js : List Nat) : Bool :=
 decide (n <= l.length) && (l.take n).all (fun o => o.dst.isSome) && decide (concDsts l n).Nodup &&
 ((List.range n).all fun i => ((l[i]?).map fun o => (o.after.all fun e => !Region.binds md e || decide (e.on < i)) && (match o.guard with | none => true | some (j, _) => decide (j < n) && decide (j ∈ js) && o.after.any fun e => Region.binds md e && e.on == j)).getD false) &&
 ((List.range l.length).all fun j => decide (j < n) || ((List.range n).all fun i => ((l[j]?).map fun o => o.after.any fun e => Region.binds md e && reachB md l n 12 e.on i).getD false))
structure ConcGOk (md : Region.Mode) (l : List Oper) (n : Nat) (js : List Nat) : Prop where
 le : n <= l.length
 guard : ∀ (i : Nat) (o : Oper), i < n -> l[i]? = some o -> ∀ j b, o.guard = some (j, b) -> j < n /\ j ∈ js /\ ∃ e ∈ o.after, Region.binds md e = true /\ e.on = j
 dst : ∀ (i : Nat) (o : Oper), i < n -> l[i]? = some o -> ∃ s, o.dst = some s
 apart : ∀ (i j : Nat) (oi oj : Oper) (s : Nat), i < n -> j < n -> l[i]? = some oi -> l[j]? = some oj -> oi.dst = some s -> oj.dst = some s -> i = j
 back : ∀ (i : Nat) (o : Oper), i < n -> l[i]? = some o -> ∀ e ∈ o.after, Region.binds md e = true -> e.on < i
 waits : ∀ (j : Nat) (o : Oper), n <= j -> l[j]? = some o -> ∀ i, i < n -> ∃ e ∈ o.after, Region.binds md e = true /\ reachB md l n 12 e.on i = true
theorem concGB_ok {l : List Oper} {n : Nat} {js : List Nat} (h : concGB md l n js = true) : ConcGOk md l n js := by
 unfold concGB at h
 simp only [Bool.and_eq_true, decide_eq_true_eq, List.all_eq_true, Bool.or_eq_true] at h
 obtain ⟨⟨⟨⟨h1, h2⟩, h3⟩, h4⟩, h5⟩ := h
 have tk : ∀ (i : Nat) (o : Oper), i < n -> l[i]? = some o -> (l.take n)[i]? = some o := fun i o hi ho => by rw [List.getElem?_take_of_lt hi]; exact ho
 refine ⟨h1, ?_, ?_, ?_, ?_, ?_⟩
 ·intro i o hi ho
  intro j b hgu
  have := h4 i (List.mem_range.2 hi)
  rw [ho] at this
  simp only [Option.map_some, Option.getD_some, Bool.and_eq_true, hgu, decide_eq_true_eq] at this
  obtain ⟨_, ⟨h6, h7⟩, h8⟩ := this
  rw [Array.any_eq_true] at h8
  obtain ⟨k, hk, h8⟩ := h8
  simp only [Bool.and_eq_true, beq_iff_eq] at h8
  exact ⟨h6, h7, _, Array.getElem_mem hk, h8.1, h8.2⟩
 ·intro i o hi ho
  have := h2 o (List.mem_of_getElem? (tk i o hi ho))
  exact Option.isSome_iff_exists.1 this
 ·intro i j oi oj s hi hj hoi hoj hsi hsj
  exact nodup_filterMap h3 (tk i oi hi hoi) (tk j oj hj hoj) hsi hsj
 ·intro i o hi ho e he hbe
  have := h4 i (List.mem_range.2 hi)
  rw [ho] at this
  simp only [Option.map_some, Option.getD_some, Bool.and_eq_true, Array.all_eq_true_iff_forall_mem, Bool.or_eq_true, Bool.not_eq_true', decide_eq_true_eq] at this
  rcases this.1 e he with h6 | h6
  ·rw [hbe] at h6; cases h6
  ·exact h6
 ·intro j o hj ho i hi
  have hjl := (List.getElem?_eq_some_iff.1 ho).1
  have := (h5 j (List.mem_range.2 hjl)).resolve_left (by omega) i (List.mem_range.2 hi)
  rw [ho] at this
  simp only [Option.map_some, Option.getD_some] at this
  rw [Array.any_eq_true] at this
  obtain ⟨k, hk, h⟩ := this
  simp only [Bool.and_eq_true] at h
  exact ⟨_, Array.getElem_mem hk, h.1, h.2⟩
def ConcObsG (P : Program) (md : Region.Mode) (l : List Oper) (n : Nat) (R : Nat -> Value -> World -> Prop) (G : World -> World -> Prop) (J : Array Bool -> World -> Prop) (Q : Exit -> Act -> World -> Prop) (a0 : Act) (w0 : World) (gd : Nat -> Bool) : List Oper -> Nat -> Prop
 | [], _ => True
 | o :: r, i => ((liveB gd o = true -> ConcOb P md l n R G J Q a0 w0 i o) /\ (liveB gd o = false -> ∀ (L : Array Bool) (w : World), G w0 w -> J L w -> G w w /\ J (L.setIfInBounds i true) w /\ R i undef w)) /\ ConcObsG P md l n R G J Q a0 w0 gd r (i + 1)
theorem concObsG_at {l : List Oper} {n : Nat} {R : Nat -> Value -> World -> Prop} {G : World -> World -> Prop} {J : Array Bool -> World -> Prop} {Q : Exit -> Act -> World -> Prop} {a0 : Act} {w0 : World} {gd : Nat -> Bool} :
  ∀ (r : List Oper) (k : Nat), ConcObsG P md l n R G J Q a0 w0 gd r k -> ∀ (i : Nat) (o : Oper), r[i]? = some o -> (liveB gd o = true -> ConcOb P md l n R G J Q a0 w0 (k + i) o) /\ (liveB gd o = false -> ∀ (L : Array Bool) (w : World), G w0 w -> J L w -> G w w /\ J (L.setIfInBounds (k + i) true) w /\ R (k + i) undef w)
 | [], k, _, i, o, h => by simp at h
 | x :: r, k, hobs, 0, o, h => by
  simp at h; subst h; exact hobs.1
 | x :: r, k, hobs, i + 1, o, h => by
  have := concObsG_at r (k + 1) hobs.2 i o (by simpa using h)
  rw [show k + (i + 1) = k + 1 + i by omega]; exact this
theorem wpAny_concG {l : List Oper} {n : Nat} {R : Nat -> Value -> World -> Prop} {G : World -> World -> Prop} {J : Array Bool -> World -> Prop} {Q : Exit -> Act -> World -> Prop} {a0 : Act} {w0 : World}
  {js : List Nat} {gd : Nat -> Bool} (hgd : GuardsOk R gd js) (hB : concGB md l n js = true) (hsz : ∀ s ∈ concDsts l n, s < a0.tmps.size) (htrans : ∀ {w1 w2 : World}, G w0 w1 -> G w1 w2 -> G w0 w2)
  (hop : ConcObsG P md l n R G J Q a0 w0 gd (l.take n) 0)
  (hend : ∀ (f : Nat -> Value) (w : World), G w0 w -> J ((Array.replicate n true) ++ (Array.replicate (l.length - n) false)) w -> (∀ i s, i < n -> (l[i]?).bind (·.dst) = some s -> R i (f s) w) ->
   wpAny P md l.toArray Q (l.length - n) ((Array.replicate n true) ++ (Array.replicate (l.length - n) false)) { tmps := (concDsts l n).foldl (fun x s => x.setIfInBounds s (f s)) a0.tmps, defers := a0.defers } w) :
  ∀ (m : Nat) (L : Array Bool) (a : Act) (w : World), ConcInv md l n R G J a0 w0 L a w -> (∀ (i : Nat) (o : Oper), i < n -> l[i]? = some o -> L.getD i false = true -> ∀ e ∈ o.after, Region.binds md e = true -> L.getD e.on false = true) -> (List.range n).countP (fun i => !L.getD i true) = m -> wpAny P md l.toArray Q (m + (l.length - n)) L a w := by
 have ok := concGB_ok hB
 have hle := ok.le
 intro m
 induction m with
 | zero =>
  intro L a w inv hcl hc
  have hall : ∀ i, i < n -> L.getD i false = true := fun i hi => by
   rw [List.countP_eq_zero] at hc
   have := hc i (List.mem_range.2 hi)
   rw [getD_flip (by rw [inv.size]; omega)] at this
   simpa using this
  have hL : L = (Array.replicate n true) ++ (Array.replicate (l.length - n) false) := by
   apply Array.ext (by simp [inv.size]; omega)
   intro i h1 h2
   by_cases hi : i < n
   ·have := hall i hi
    simp [h1] at this
    rw [this, Array.getElem_append_left (by simpa using hi)]; simp
   ·have := inv.tail i (by omega)
    simp [h1] at this
    rw [this, Array.getElem_append_right (by simp; omega)]; simp
  rw [Nat.zero_add]
  have h1 := hend (fun s => a.tmps.getD s undef) w inv.grow (hL ▸ inv.inv) (fun i s hi hs => inv.vals i (hall i hi) s hs)
  rw [hL]
  have ha : a = { tmps := (concDsts l n).foldl (fun x s => x.setIfInBounds s (a.tmps.getD s undef)) a0.tmps, defers := a0.defers } := by
   obtain ⟨t, d⟩ := a
   have e1 : d = a0.defers := inv.defers
   subst e1
   congr 1
   exact conc_rebuild _ _ _ inv.tmps inv.frame
  rw [ha]
  exact h1
 | succ m ih =>
  intro L a w inv hcl hc
  obtain ⟨k, hk, hkL⟩ : ∃ k, k < n /\ L.getD k true = false := by
   have : 0 < (List.range n).countP (fun i => !L.getD i true) := by omega
   rw [List.countP_pos_iff] at this
   obtain ⟨k, h1, h2⟩ := this
   exact ⟨k, List.mem_range.1 h1, by simpa using h2⟩
  rw [show m + 1 + (l.length - n) = (m + (l.length - n)) + 1 by omega, wpAny]
  constructor
  ·intro hr
   exfalso
   obtain ⟨i, hin, hiL, hmin⟩ : ∃ i, i < n /\ L.getD i true = false /\ ∀ j, j < i -> L.getD j true = true := by
    have h : ∃ i, i < n /\ L.getD i true = false := ⟨k, hk, hkL⟩
    have : ∀ b i, i <= b -> i < n -> L.getD i true = false -> ∃ i, i < n /\ L.getD i true = false /\ ∀ j, j < i -> L.getD j true = true := by
     intro b
     induction b with
     | zero => intro i hi h1 h2; exact ⟨i, h1, h2, fun j hj => by omega⟩
     | succ b ihb =>
      intro i hi h1 h2
      by_cases hx : ∃ j, j < i /\ L.getD j true = false
      ·obtain ⟨j, hj, h3⟩ := hx
       exact ihb j (by omega) (by omega) h3
      ·refine ⟨i, h1, h2, fun j hj => ?_⟩
       cases h4 : L.getD j true with
       | true => rfl
       | false => exact absurd ⟨j, hj, h4⟩ hx
    exact this k k (Nat.le_refl _) hk hkL
   have hil : i < l.length := by omega
   have ho : l[i]? = some l[i] := List.getElem?_eq_getElem hil
   have hmem : i ∈ Region.ready md l.toArray L := by
    rw [mem_ready]
    refine ⟨hiL, l[i], by simp, fun e he hbe => ?_⟩
    have hb := ok.back i _ hin ho e he hbe
    rw [<- getD_flip (by rw [inv.size]; omega)]
    exact hmin e.on hb
   rw [hr] at hmem
   cases hmem
  ·intro i hi
   obtain ⟨hiL, o, ho, hdep⟩ := mem_ready.1 hi
   have ho' : l[i]? = some o := by simpa using ho
   have hin : i < n := by
    rcases Nat.lt_or_ge i n with h | h
    ·exact h
    ·exfalso
     obtain ⟨e, he, hb, hon⟩ := ok.waits i o h ho' k hk
     have h1 := hdep e he hb
     have h2 : L.getD k false = true := reach_done hcl 12 _ k hon h1
     rw [<- getD_flip (by rw [inv.size]; omega)] at h2
     rw [hkL] at h2
     cases h2
   have hob := concObsG_at _ 0 hop i o (by rw [List.getElem?_take_of_lt hin]; exact ho')
   rw [Nat.zero_add] at hob
   obtain ⟨d, hd⟩ := ok.dst i o hin ho'
   have hdm : d ∈ concDsts l n := List.mem_filterMap.2 ⟨o, List.mem_of_getElem? (show (l.take n)[i]? = some o by rw [List.getElem?_take_of_lt hin]; exact ho'), hd⟩
   unfold wpOp
   rw [ho]
   have hw : Region.wanted o (yielded l.toArray a.tmps) = liveB gd o := by
    unfold Region.wanted liveB
    cases hgu : o.guard with
    | none => rfl
    | some q =>
     obtain ⟨j, b⟩ := q
     obtain ⟨hjn, hjs, e, he, hbe, hon⟩ := ok.guard i o hin ho' j b hgu
     have hjL := hdep e he hbe
     rw [hon] at hjL
     obtain ⟨oj, hoj⟩ : ∃ oj, l[j]? = some oj := ⟨_, List.getElem?_eq_getElem (show j < l.length by omega)⟩
     obtain ⟨s, hs⟩ := ok.dst j oj hjn hoj
     have hbind : (l[j]?).bind (·.dst) = some s := by rw [hoj]; exact hs
     have hv := guardsOk_at hgd hjs _ _ (inv.vals j hjL s hbind)
     have hsm : s ∈ concDsts l n := List.mem_filterMap.2 ⟨oj, List.mem_of_getElem? (show (l.take n)[j]? = some oj by rw [List.getElem?_take_of_lt hjn]; exact hoj), hs⟩
     have hlt : s < a.tmps.size := by rw [inv.tmps]; exact hsz s hsm
     have hget : a.tmps[s]? = some (.bool (gd j)) := by
      rw [Array.getElem?_eq_getElem hlt]
      simp [hlt] at hv
      rw [hv]
     have hy : yielded l.toArray a.tmps j = some (gd j) := by
      unfold yielded
      have e1 : (l.toArray[j]?).bind (·.dst) = some s := by simpa using hbind
      rw [e1]
      show (match a.tmps[s]? with | some (.bool b) => some b | _ => none) = _
      rw [hget]
     dsimp only
     rw [hy]
     cases gd j <;> cases b <;> rfl
   have ea : a = { tmps := a.tmps, defers := a0.defers } := by
    have := inv.defers
    obtain ⟨t, d⟩ := a
    have e1 : d = a0.defers := this
    subst e1
    rfl
   have fin : ∀ (v : Value) (w' : World), G w w' -> (∀ j u, j < n -> j ≠ i -> L.getD j false = true -> R j u w -> R j u w') -> J (L.setIfInBounds i true) w' -> R i v w' -> wpAny P md l.toArray Q (m + (l.length - n)) (L.setIfInBounds i true) (Act.put a o.dst v) w' := by
    intro v w' hG hst hJ hR
    refine ih _ _ _ ⟨by simp [inv.size], ?_, htrans inv.grow hG, hJ, by rw [hd]; exact inv.defers, ?_, ?_, ?_⟩ ?_ ?_
    ·intro j hj
     rw [getD_set_ne false (by omega)]; exact inv.tail j hj
    ·rw [hd]; simp [Act.put, inv.tmps]
    ·intro s hs
     have hne : d ≠ s := by rintro rfl; exact hs hdm
     rw [hd]
     show (a.tmps.setIfInBounds d v).getD s undef = _
     rw [<- inv.frame s hs]
     simp [Array.getElem?_setIfInBounds_ne hne]
    ·intro j hj s hs
     rw [hd]
     show R j ((a.tmps.setIfInBounds d v).getD s undef) w'
     by_cases hji : j = i
     ·subst hji
      rw [ho'] at hs
      simp at hs
      rw [hd] at hs
      injection hs with hs
      subst hs
      have hlt : d < a.tmps.size := by rw [inv.tmps]; exact hsz d hdm
      rw [show (a.tmps.setIfInBounds d v).getD d undef = v by simp [hlt]]
      exact hR
     ·have hj' : L.getD j false = true := by rwa [getD_set_ne false (Ne.symm hji)] at hj
      have hjn : j < n := by
       rcases Nat.lt_or_ge j n with h | h
       ·exact h
       ·rw [inv.tail j h] at hj'; cases hj'
      obtain ⟨oj, hoj⟩ : ∃ oj, l[j]? = some oj := ⟨_, List.getElem?_eq_getElem (show j < l.length by omega)⟩
      have hsj : oj.dst = some s := by rw [hoj] at hs; simpa using hs
      have hne : d ≠ s := by
       rintro rfl
       exact hji (ok.apart j i oj o d hjn hin hoj ho' hsj hd)
      have hv := inv.vals j hj' s hs
      have e : (a.tmps.setIfInBounds d v).getD s undef = a.tmps.getD s undef := by simp [Array.getElem?_setIfInBounds_ne hne]
      rw [e]
      exact hst j _ hjn hji hj' hv
    ·have hup : ∀ x, L.getD x false = true -> (L.setIfInBounds i true).getD x false = true := fun x hx => by
      by_cases hxi : x = i
      ·subst hxi; exact getD_set_self (by rw [inv.size]; omega)
      ·rw [getD_set_ne false (Ne.symm hxi)]; exact hx
     intro j oj hj hoj hjL e he hb
     by_cases hji : j = i
     ·subst hji
      rw [ho'] at hoj
      injection hoj with hoj
      subst hoj
      exact hup _ (hdep e he hb)
     ·rw [getD_set_ne false (Ne.symm hji)] at hjL
      exact hup _ (hcl j oj hj hoj hjL e he hb)
    ·have hcnt : ∀ (r : List Nat), r.Nodup -> i ∈ r -> r.countP (fun x => !(L.setIfInBounds i true).getD x true) + 1 = r.countP (fun x => !L.getD x true) := by
      intro r
      induction r with
      | nil => intro _ h; cases h
      | cons x r ihr =>
       intro hn hm
       rw [List.nodup_cons] at hn
       rw [List.countP_cons, List.countP_cons]
       by_cases hx : x = i
       ·subst hx
        have h0 : ∀ y ∈ r, (L.setIfInBounds x true).getD y true = L.getD y true := fun y hy => getD_set_ne true (by rintro rfl; exact hn.1 hy)
        have h1 : r.countP (fun y => !(L.setIfInBounds x true).getD y true) = r.countP (fun y => !L.getD y true) := by
         apply List.countP_congr
         intro y hy
         rw [h0 y hy]
        rw [h1, hiL]
        have h2 : (L.setIfInBounds x true).getD x true = true := by rw [getD_flip (by simp [inv.size]; omega)]; exact getD_set_self (by rw [inv.size]; omega)
        rw [h2]
        simp
       ·have h2 := ihr hn.2 (by rcases List.mem_cons.1 hm with h | h; exact absurd h.symm hx; exact h)
        rw [getD_set_ne true (Ne.symm hx)]
        omega
     have := hcnt (List.range n) List.nodup_range (List.mem_range.2 hin)
     omega
   dsimp only
   rw [hw]
   cases hlv : liveB gd o with
   | false =>
    rw [if_neg (by decide)]
    obtain ⟨s1, s2, s3⟩ := hob.2 hlv L w inv.grow inv.inv
    exact fin undef w s1 (fun _ _ _ _ _ h => h) s2 s3
   | true =>
   simp only [if_true]
   have key := hob.1 hlv L a.tmps w inv.grow inv.inv inv.size hiL hdep inv.frame (fun e he hb s hs => inv.vals e.on (hdep e he hb) s hs) (wpAny P md l.toArray Q (m + (l.length - n)) (L.setIfInBounds i true))
   rw [<- ea] at key
   exact .inl (key fin)
theorem wp_region_concG {id : Nat} {l : List Oper} (n : Nat) {Q : Exit -> Act -> World -> Prop} {a0 : Act} {w : World} (R : Nat -> Value -> World -> Prop) (G : World -> World -> Prop) (J : Array Bool -> World -> Prop)
  (js : List Nat) (gd : Nat -> Bool) (hm : P.follows .mixedOrders = true) (hB : concGB .any l n js = true) (hS : Region.seqB .any l.toArray (l.length - n) n ((Array.replicate n true) ++ (Array.replicate (l.length - n) false)) = true)
  (hsz : ((concDsts l n).all fun s => decide (s < a0.tmps.size)) = true) (h0 : G w.drew w.drew) (hJ : J (Array.replicate l.length false) w.drew)
  (htrans : ∀ {w1 w2 : World}, G w.drew w1 -> G w1 w2 -> G w.drew w2)
  (hgd : GuardsOk R gd js) (hop : ConcObsG P .any l n R G J Q a0 w.drew gd (l.take n) 0)
  (hend : ∀ (f : Nat -> Value) (w1 : World), G w.drew w1 -> J ((Array.replicate n true) ++ (Array.replicate (l.length - n) false)) w1 -> (∀ i s, i < n -> (l[i]?).bind (·.dst) = some s -> R i (f s) w1) ->
   wpList P l.toArray Q (l.drop n) { tmps := (concDsts l n).foldl (fun x s => x.setIfInBounds s (f s)) a0.tmps, defers := a0.defers } w1) :
  (Code.region id l.toArray true).wp P Q a0 w := by
 refine wp_region_any hm ?_
 have hle := (concGB_ok hB).le
 have hrep : ∀ j, (Array.replicate l.length false).getD j false = false := fun j => by
  by_cases h : j < l.length <;> simp [h]
 have hd : (l.drop n).length = l.length - n := by simp
 have key := wpAny_concG (P := P) (md := .any) (Q := Q) (a0 := a0) (w0 := w.drew) hgd hB (by simpa using hsz) htrans hop (fun f w1 h1 h2 h3 => by
  have := wpAny_of_seq (P := P) (md := .any) (Q' := Q) (l.drop n) n _ _ w1 (fun j => by simp [List.getElem?_drop]) (by rw [hd]; exact hS) (hend f w1 h1 h2 h3)
  rwa [hd] at this) n (Array.replicate l.length false) a0 w.drew
  ⟨by simp, fun j _ => hrep j, h0, hJ, rfl, rfl, fun _ _ => rfl, fun i hi => by rw [hrep] at hi; cases hi⟩ (fun i o hi ho h => by rw [hrep] at h; cases h) (by
   rw [List.countP_eq_length.2 (fun i hi => by
    have h := List.mem_range.1 hi
    rw [getD_flip (by simp; omega), hrep]; rfl)]
   simp)
 have e : n + (l.length - n) = l.toArray.size := by simp; omega
 rw [e] at key
 have e2 : l.toArray.size = l.length := by simp
 rw [<- e2] at key
 exact key
end
end Go.Proofs.YtknpkndiflodbaaGreatDoor.Mx
