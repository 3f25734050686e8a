/-
  WALKS: number.
-/
import Derived.Test.YtknpkndiflodbaaGreatDoorTbMaker
import Derived.Test.YtknpkndiflodbaaGreatDoorTbClosed
import Derived.Test.YtknpkndiflodbaaGreatDoorTbBuild
import Derived.Test.YtknpkndiflodbaaGreatDoorShelfT
import Derived.Deep.RegionWith
import Derived.StillTailTactics
import Derived.Test.YtknpkndiflodbaaGreatDoorRowsA
set_option linter.unusedVariables false
set_option linter.unusedSimpArgs false
namespace Go.Proofs.YtknpkndiflodbaaGreatDoor.Tb
open Go Go.RowKit Go.Proofs Go.Maps Mx Bx
theorem keyF_take (l : List It) (i : Nat) (x : It) (h : l[i]? = some x) : keyF (l.take (i + 1)) = keyF (l.take i) ++ keyIt x := by
  unfold keyF
  rw [List.take_add_one, h]
  simp
theorem dec_short (n : Nat) (h : n < 100) : (Lib.decDigits n).length ≤ 2 := by
  have h1 : (List.range 100).all (fun n => decide ((Lib.decDigits n).length ≤ 2)) = true := by decide +kernel
  have h2 := List.all_eq_true.1 h1 n (by simp; omega)
  simpa using h2
theorem key_short : ∀ (l : List It), (∀ x ∈ l, x.1 < 100 ∧ x.2 < 100) → (keyF l).length ≤ 6 * l.length
  | [], _ => by simp [keyF]
  | x :: l, h => by
    have h1 := key_short l (fun y hy => h y (List.mem_cons_of_mem _ hy))
    have h2 := h x (by simp)
    have h3 := dec_short x.1 h2.1
    have h4 := dec_short x.2 h2.2
    have : keyF (x :: l) = keyIt x ++ keyF l := rfl
    rw [this, List.length_append, List.length_cons]
    unfold keyIt
    simp only [List.length_append, List.length_cons, List.length_nil]
    omega
theorem key_cells (s1 s2 : List UInt8) : Lib.strCells ((⟨s1.toArray⟩ : ByteArray) ++ ⟨#[46]⟩ ++ ⟨s2.toArray⟩ ++ ⟨#[32]⟩) = Lib.byteCells (s1 ++ 46 :: (s2 ++ [32])) := by
  simp [Lib.strCells, Lib.byteCells]
set_option maxRecDepth 100000 in
set_option maxHeartbeats 8000000 in
theorem number_any (g : Gr) (hg : Good g) (B mb bm : Nat) (sm : List SM) (D2 : Nat → Prop) (l : List It) (hl : ∀ x ∈ l, itemOk g x = true) (hln : l.length ≤ 10000) (v : Value) (w : World) (hm : MkW g B mb bm sm w) (hv : SliceK D2 encIt 2 w v l) :
    Calls Tryz.prog 35 #[.pointer (some ⟨mb, 0, none⟩), v] w fun e w' =>
      (∃ n, (sm.map (·.items)).findIdx? (· == closedF g l) = some n ∧ e = .returned (.int .i64 (n : Int)) ∧ MkW g B mb bm sm w' ∧ Below w.heap.size w w') ∨
      ((sm.map (·.items)).findIdx? (· == closedF g l) = none ∧ sm.length < 16384 ∧ e = .returned (.int .i64 (sm.length : Int)) ∧ ∃ v', MkW g B mb bm (sm ++ [freshSM v' (closedF g l)]) w' ∧ KeepM mb bm w w') ∨
      ((sm.map (·.items)).findIdx? (· == closedF g l) = none ∧ 16384 ≤ sm.length ∧ e = .panicked fullP ∧ KeepM mb bm w w') := by
  have hclosed := closed_any _ D2 g hg mb l hl (by omega) v w hm.gr hv
  obtain ⟨hK, hKok⟩ := closedF_fits hl
  have hKs := closedF_small hg hl
  have hP := hg.prods
  generalize closedF g l = K at *
  have hsmall : ∀ x ∈ K, x.1 < 100 ∧ x.2 < 100 := by
    intro x hx
    have hok := (itemOk_iff g x).1 (hKok x hx)
    have h2 : (rightOf g x.1).length ≤ 30 := by
      unfold rightOf
      rw [List.getElem?_eq_getElem hok.1]
      exact hg.right _ (List.getElem_mem _)
    omega
  have HM := Lib.hid (And.intro hm (And.intro hg hKok))
  clear hm hv hl hg hKok
  go_enter Tryz.func35, Tryz.ntmps35
  go_wp2_with fail
  refine hclosed.mono ?_
  rintro e w1 ⟨v1, rfl, hv1, hb1⟩
  obtain ⟨a1, c1, rfl, hc1, hc2, hk1⟩ := hv1
  have H1 := Lib.hid (And.intro hk1 hb1)
  clear hk1 hb1 hclosed
  go_wp2_with fail
  have hbld : Lib.IsBuilder 129 5 w1.heap.size w1.heap.size (Lib.byteCells (keyF (K.take 0))) (w1.alloc (.cells #[.pointer none, .slice none 0 0] 129)) :=
    .inl ⟨Nat.le_refl _, .slice none 0 0, heap_alloc_new w1 _, World.ownsRow_nil _ _ _ _, by simp [Value.ownBlock]⟩
  go_loopg [15] K.length (fun m v15 wr => ∃ i : Nat, i ≤ K.length ∧ m = K.length - i ∧ v15 = .int .i64 i ∧ Lib.IsBuilder 129 5 w1.heap.size w1.heap.size (Lib.byteCells (keyF (K.take i))) wr ∧ Below w1.heap.size w1 wr ∧ w1.heap.size + 1 ≤ wr.heap.size)
  case atStart => exact ⟨0, by omega, rfl, rfl, hbld, (Below.refl _ w1).alloc (Nat.le_refl _) _, by simp⟩
  case round =>
    clear hbld
    obtain ⟨i, hi, hm, rfl, hB, hb, hsz⟩ := hrel
    by_cases hlt : i < K.length
    · obtain ⟨⟨n, d⟩, hx⟩ : ∃ x, K[i]? = some x := ⟨_, List.getElem?_eq_getElem hlt⟩
      obtain ⟨kg, ko, rfl, _, hkr⟩ := H1.out.1 (by rintro rfl; simp at hlt)
      have k0 := hkr.cells i _ hx 0 _ rfl
      have k1 := hkr.cells i _ hx 1 _ rfl
      simp only [Nat.add_zero] at k0
      have k0 := (hb.cell (p := ⟨kg, ko + i * 2, none⟩) (World.block_lt_of_cell? _ _ k0)).trans k0
      have k1 := (hb.cell (p := ⟨kg, ko + i * 2 + 1, none⟩) (World.block_lt_of_cell? _ _ k1)).trans k1
      obtain ⟨hn100, hd100⟩ := hsmall _ (List.mem_of_getElem? hx)
      simp only at hn100 hd100
      have hlt1 : (i : Int) < (K.length : Int) := by omega
      have hi0 : (0 : Int) ≤ (i : Int) := by omega
      have hi1 := fun W => Tryz.strconv_Itoa_small n hn100 W
      have hi2 := fun W => Tryz.strconv_Itoa_small d hd100 W
      have hs1 := dec_short n hn100
      have hs2 := dec_short d hd100
      obtain ⟨s1, he1⟩ : ∃ s, Lib.decDigits n = s := ⟨_, rfl⟩
      obtain ⟨s2, he2⟩ : ∃ s, Lib.decDigits d = s := ⟨_, rfl⟩
      rw [he1] at hi1 hs1
      rw [he2] at hi2 hs2
      have HD := Lib.hid (And.intro he1 he2)
      clear he1 he2
      have hq1 : ¬ 9223372036854775807 < s1.length + 1 := by omega
      have hq2 : ¬ 9223372036854775807 < s1.length + 1 + s2.length := by omega
      have hq3 : ¬ 9223372036854775807 < s1.length + 1 + s2.length + 1 := by omega
      have A := Lib.hid (And.intro hm (And.intro hB (And.intro hb (And.intro hsz hx))))
      clear hm hB hb hsz hx hkr
      go_wp2_with fail
      generalize hw2 : wr.alloc (.cells #[.int .i64 (n : Int), .int .i64 (d : Int)] 53) = w2
      have hN : Blk w2 wr.heap.size 53 #[.int .i64 (n : Int), .int .i64 (d : Int)] := by rw [← hw2]; exact Blk.new wr _ _
      obtain ⟨n0, n1, nf⟩ := hN.facts2
      have hb2 : Below wr.heap.size wr w2 := by rw [← hw2]; exact (Below.refl _ wr).alloc (Nat.le_refl _) _
      have H2 := Lib.hid hb2
      clear hw2 hN hb2
      go_still_tail 9, (by kernel_rfl)
      still_call (hi1 _)
      repeat still_step
      still_call (hi2 _)
      repeat still_step
      try refine wpStill_nil ?_
      change wpList _ _ _ _ _ w2.drew
      go_wp2_with fail
      have hkl : (keyF (K.take i)).length ≤ 6 * K.length := by
        have h1 := key_short (K.take i) (fun x hx => hsmall x (List.mem_of_mem_take hx))
        rw [List.length_take] at h1
        omega
      have hdr : Below wr.heap.size wr w2.drew := H2.out.drew
      have hsz2 : w1.heap.size ≤ w2.drew.heap.size := by have := H2.out.size; have := A.out.2.2.2.1; show w1.heap.size ≤ w2.heap.size; omega
      refine (writeString w1.heap.size w1.heap.size _ _ _ (isb_below A.out.2.1 hdr) ?_ hsz2).mono ?_
      · rw [← Lib.strCells_length, key_cells]
        simp only [Lib.byteCells, List.length_map, List.length_append, List.length_cons, List.length_nil]
        omega
      rintro e w3 ⟨rfl, hB3, hb3⟩
      have H3 := Lib.hid (And.intro hB3 hb3)
      clear hB3 hb3 hkl hsz2
      go_wp2_with fail
      go_roundg (K.length - (i + 1))
      case measure => have := A.out.1; omega
      case rel =>
        refine ⟨i + 1, by omega, rfl, rfl, .inr ?_, (A.out.2.2.1.trans (hdr.mono (by have := A.out.2.2.2.1; omega))).trans H3.out.2, by have := A.out.2.2.2.1; have := hdr.size; have := H3.out.2.size; omega⟩
        have h1 := H3.out.1
        rw [key_cells] at h1
        rw [keyF_take K i _ A.out.2.2.2.2]
        unfold keyIt
        rw [HD.out.1, HD.out.2]
        rw [show Lib.byteCells (keyF (K.take i) ++ (s1 ++ 46 :: (s2 ++ [32]))) = Lib.byteCells (keyF (K.take i)) ++ Lib.byteCells (s1 ++ 46 :: (s2 ++ [32])) by simp [Lib.byteCells]]
        exact h1
    · obtain rfl : i = K.length := by omega
      rw [List.take_length] at hB
      have hbw : Below w.heap.size w wr := H1.out.2.trans (hb.mono H1.out.2.size)
      have hMW := HM.out.1.below hbw
      have hmlt : mb < w1.heap.size := by have := HM.out.1.mlt; have := HM.out.1.size; have := H1.out.2.size; omega
      have hblt : bm < w1.heap.size := by have := HM.out.1.blt; have := HM.out.1.size; have := H1.out.2.size; omega
      have hF : Lib.IsBuilderF 129 5 w1.heap.size w1.heap.size (Lib.byteCells (keyF K)) wr.drew := Lib.IsBuilderF.of hB
      have hFs : w1.heap.size ≤ wr.drew.heap.size := by show w1.heap.size ≤ wr.heap.size; omega
      have hm6 : ∀ W, Below w1.heap.size wr.drew W → W.cell? ⟨mb, 6, none⟩ = some (.map (some bm)) := fun W h => (h.cell (p := ⟨mb, 6, none⟩) hmlt).trans hMW.met
      obtain ⟨f, hf1, hf2⟩ := hMW.map
      have hkl : (keyF K).length ≤ 6 * K.length := key_short K hsmall
      have hkey : keyOf Tryz.prog 9 (.string ⟨(keyF K).toArray⟩) = some (.string (keyF K)) := by
        have h1 := WideMaps.keyOf_string_mk (P := Tryz.prog) (k := 9) Tryz.underlying9 (s := ⟨(keyF K).toArray⟩) (by unfold maxLen; show (keyF K).toArray.size ≤ _; simp; omega)
        simpa using h1
      have hlook : ∀ W, Below w1.heap.size wr.drew W → (Instr.lookup 92 (.map (some bm)) (.string ⟨(keyF K).toArray⟩) true).run Tryz.prog W = .ok (.tuple #[(((sm.map (·.items)).findIdx? (· == K)).map fun (n : Nat) => Value.int .i64 (n : Int)).getD (.int .i64 0), .bool (((sm.map (·.items)).findIdx? (· == K)).map fun (n : Nat) => Value.int .i64 (n : Int)).isSome]) W := by
        intro W h
        have hfW : MapV Tryz.prog 9 W bm sm.length f := (show MapV Tryz.prog 9 wr.drew bm sm.length f from hf1).below h hblt
        have h1 := hfW.look_ok (string_keyed Tryz.underlying9) Tryz.underlying92 (Tryz.zeroValue3 W) hkey
        rw [hf2 K] at h1
        exact h1
      have HW1 := Lib.hid hb
      have HW := Lib.hid (And.intro hMW (And.intro hbw (And.intro hf1 hf2)))
      have hU0 : Below w1.heap.size wr.drew wr.drew := Below.refl _ _
      have hsz' := hsz
      clear hMW hbw hf1 hf2 hB hm hkl hb hsz
      cases hfi : (sm.map (·.items)).findIdx? (· == K) with
      | some n =>
        rw [hfi] at hlook
        have HFI := Lib.hid hfi
        clear hfi
        have hlook : ∀ W, Below w1.heap.size wr.drew W → (Instr.lookup 92 (.map (some bm)) (.string ⟨(keyF K).toArray⟩) true).run Tryz.prog W = .ok (.tuple #[.int .i64 (n : Int), .bool true]) W := hlook
        go_wp2_with fail
        go_region_with (go_at_call 66; refine (Tryz.Builder_String_any_f _ _ (keyF K) _ hF hFs).mono ?_; rintro e w3 ⟨rfl, hF3, hb3⟩)
        all_goals
          have H3 := Lib.hid (And.intro hF3 hb3)
          clear hF3 hb3 hlook hm6 hU0 hF
          go_wp2_with fail
          go_ret
          have hbb : Below w.heap.size w _ := HW.out.2.1.trans ((show Below w.heap.size wr wr.drew from (Below.refl _ wr).drew).trans (H3.out.2.mono H1.out.2.size))
          exact .inl ⟨n, HFI.out, rfl, HM.out.1.below hbb, hbb⟩
      | none =>
        rw [hfi] at hlook
        have HFI := Lib.hid hfi
        clear hfi
        have hlook : ∀ W, Below w1.heap.size wr.drew W → (Instr.lookup 92 (.map (some bm)) (.string ⟨(keyF K).toArray⟩) true).run Tryz.prog W = .ok (.tuple #[.int .i64 0, .bool false]) W := hlook
        obtain ⟨va, hva1, hva2⟩ := HM.out.1.all
        obtain ⟨aa, ac, rfl⟩ := own_shape hva2
        have hva1 := (HW.out.2.1.cell (p := ⟨mb, 7, none⟩) (World.block_lt_of_cell? _ _ hva1)).trans hva1
        have hm7 : ∀ W, Below w1.heap.size wr.drew W → W.cell? ⟨mb, 7, none⟩ = some (.slice aa sm.length ac) := fun W h => (h.cell (p := ⟨mb, 7, none⟩) hmlt).trans hva1
        have hmany := HM.out.1.many
        have HV := Lib.hid hva2
        clear hva1 hva2
        go_wp2_with fail
        apply via
        · intro KV
          go_region_with (go_at_call 66; refine (Tryz.Builder_String_any_f _ _ (keyF K) _ hF hFs).mono ?_; rintro e w3 ⟨rfl, hF3, hb3⟩)
          all_goals (try go_simp)
          all_goals revert w3
          all_goals exact KV.out
        · intro w3 hF3 hb3
          have H3 := Lib.hid (And.intro hF3 hb3)
          have h36 := hm6 _ hb3
          have h37 := hm7 _ hb3
          clear hF3 hb3 hlook hm6 hm7 hU0 hF
          by_cases hfull : sm.length ≥ 16384
          · have hf1 : (16384 : Int) ≤ (sm.length : Int) := by omega
            go_wp2_with fail
            have hbb : Below w.heap.size w _ := HW.out.2.1.trans ((show Below w.heap.size wr wr.drew from (Below.refl _ wr).drew).trans (H3.out.2.mono H1.out.2.size))
            exact And.intro rfl (Or.inr (Or.inr (And.intro HFI.out (And.intro hfull (And.intro rfl (KeepM.of hbb))))))
          · have hf1 : ¬ (16384 : Int) ≤ (sm.length : Int) := by omega
            have h3s : w1.heap.size ≤ w3.heap.size := by have := H3.out.2.size; have : wr.drew.heap.size = wr.heap.size := rfl; omega
            have hF3 : Lib.IsBuilderF 129 5 w1.heap.size w1.heap.size (Lib.byteCells (keyF K)) w3.drew := H3.out.1
            have hF3s : w1.heap.size ≤ w3.drew.heap.size := h3s
            have hm6 : ∀ W, Below w1.heap.size w3.drew W → W.cell? ⟨mb, 6, none⟩ = some (.map (some bm)) := fun W h => (h.cell (p := ⟨mb, 6, none⟩) hmlt).trans h36
            have hmap3 : ∀ W, Below w1.heap.size w3.drew W → MapV Tryz.prog 9 W bm sm.length f := fun W h =>
              (show MapV Tryz.prog 9 w3.drew bm sm.length f from (show MapV Tryz.prog 9 wr.drew bm sm.length f from HW.out.2.2.1).below H3.out.2.drew hblt).below h hblt
            have hupd : ∀ W : World, ∃ W', MapV Tryz.prog 9 W bm sm.length f → (Instr.mapUpdate 92 (.map (some bm)) (.string ⟨(keyF K).toArray⟩) (.int .i64 (sm.length : Int))).run Tryz.prog W = .ok () W' ∧
                MapV Tryz.prog 9 W' bm (sm.length + 1) (putV f (.string (keyF K)) (.int .i64 (sm.length : Int))) ∧ W.grownBy W' (some bm) := by
              intro W
              by_cases hW : MapV Tryz.prog 9 W bm sm.length f
              · obtain ⟨W', h1, h2, h3⟩ := hW.update (string_keyed Tryz.underlying9) Tryz.underlying92 (by unfold maxLen; omega) hkey (val := .int .i64 (sm.length : Int))
                exact ⟨W', fun _ => ⟨h1, h2, h3⟩⟩
              · exact ⟨W, fun h => absurd h hW⟩
            obtain ⟨F, hFm⟩ := Classical.skolem.1 hupd
            have hrun : ∀ W, Below w1.heap.size w3.drew W → (Instr.mapUpdate 92 (.map (some bm)) (.string ⟨(keyF K).toArray⟩) (.int .i64 (sm.length : Int))).run Tryz.prog W = .ok () (F W) := fun W h => (hFm W (hmap3 W h)).1
            have HFm := Lib.hid (And.intro hFm hmap3)
            have hU3 : Below w1.heap.size w3.drew w3.drew := Below.refl _ _
            clear hFm hupd hmap3
            go_wp2_with fail
            apply via
            · intro KV
              go_region_with (go_at_call 66; refine (Tryz.Builder_String_any_f _ _ (keyF K) _ hF3 hF3s).mono ?_; rintro e w4 ⟨rfl, hF4, hb4⟩)
              all_goals (try go_simp)
              all_goals revert w4
              all_goals exact KV.out
            · intro w4 hF4 hb4
              obtain ⟨_, hm5, hg5⟩ := HFm.out.1 w4 (HFm.out.2 w4 hb4)
              have h47 : w4.cell? ⟨mb, 7, none⟩ = some (.slice aa sm.length ac) := (hb4.cell (p := ⟨mb, 7, none⟩) hmlt).trans h37
              clear hF4 hrun hm6 hU3 hF3 HFm
              generalize F w4 = w5 at *
              have hmne := HM.out.1.ne
              have hBs := HM.out.1.size
              have hBb := HM.out.1.blt
              have hBm := HM.out.1.mlt
              have hw1s := H1.out.2.size
              have hb14 : Below w1.heap.size w1 w4 := HW1.out.trans (((show Below w1.heap.size wr wr.drew from (Below.refl _ wr).drew).trans H3.out.2).trans ((show Below w1.heap.size w3 w3.drew from (Below.refl _ w3).drew).trans hb4))
              have hbw4 : Below w.heap.size w w4 := H1.out.2.trans (hb14.mono hw1s)
              have h57 : w5.cell? ⟨mb, 7, none⟩ = some (.slice aa sm.length ac) := hg5.cell h47 (by intro e; injection e with e; exact hmne e)
              have hrow5 : w5.ownsRow B 104 7 (.slice aa sm.length ac) sm.length (flatK encSM sm) := (Mx.row_below HV.out hbw4).kept hg5 (by
                cases e : (Value.slice aa sm.length ac).ownBlock with
                | none => exact .inl rfl
                | some b => exact .inr (by have := (own_ty HV.out b e).1; intro e2; injection e2 with e2; omega))
              have k45 : KeepM mb bm w4 w5 := KeepM.grown hg5 (fun r hr => by injection hr with hr; exact .inr (.inl hr.symm))
              have k5 : KeepM mb bm w w5 := (KeepM.of hbw4).trans k45
              have h5 : ∀ b, b < B → b ≠ bm → w5.heap[b]? = w.heap[b]? := fun b hb hne => (hg5.block b (by have := hbw4.size; omega) (by intro e; injection e with e; exact hne e)).trans (hbw4.block b (by omega))
              have hv1w : SliceK (TyD w.heap.size 53 w1) encIt 2 w1 (.slice a1 K.length c1) K := ⟨a1, c1, rfl, hc1, hc2, H1.out.1⟩
              have hv1 : SliceK (TyD B 53 w5) encIt 2 w5 (.slice a1 K.length c1) K := (hv1w.tyLow hBs).ty (((KeepM.of hb14).trans k45).ty (by decide) hBm hBb)
              have h5s : B ≤ w5.heap.size := by have := k5.size; omega
              have H5 := Lib.hid (And.intro hm5 (And.intro hrow5 (And.intro k5 (And.intro h5 hv1))))
              have hmfz := (hg5.block mb (by have := hbw4.size; omega) (by intro e; injection e with e; exact hmne e)).trans (hbw4.block mb (by omega))
              have hfz5 : ∀ i, w5.frozen? ⟨mb, i, none⟩ = false := fun i => (World.frozen?_of_block (w := w) (a := ⟨mb, i, none⟩) hmfz).trans (HM.out.1.fz i)
              clear hm5 hg5 h47 hrow5 k45 k5 h5 hv1w hv1 hb14 hbw4 hmfz
              obtain ⟨i0, hi, hz0, hz1, hz2⟩ := info_parts infoState
              have hnb : ∀ r, (Value.slice aa sm.length ac).ownBlock = some r → B ≤ r := fun r hr => (own_ty HV.out r hr).1
              go_wp2_with (at_builtin; refine wpList_append_own _ rfl _ _ 93 rfl B 104 i0 (.agg #[.slice none 0 0, .slice none 0 0, .int .u64 0, .int .u64 0, .int .u64 0, .int .u64 0, .slice none 0 0]) 7 104 Tryz.underlying93 hi hz0 hz1 hz2 rfl (by decide) _ sm.length _ rfl (H5.out.2.1.alloc _) ⟨w5.heap.size, 0, none⟩ 1 1 (encSM (freshSM (.slice a1 K.length c1) K)) rfl rfl ?c1 ?c2 ?c3 ?c4 ?c5 ?_)
              case c1 =>
                intro j u hj
                rw [encFresh] at hj
                exact alloc_cells w5 _ _ j u hj
              case c2 => exact encSM_one _ rfl rfl rfl
              case c3 => unfold maxLen; omega
              case c4 => omega
              case c5 => first | omega | (simp; omega)
              intro v' w7 hown7 hg7 _
              have hg57 : w5.grownBy w7 (Value.slice aa sm.length ac).ownBlock := grown_trans_opt (grown_alloc (grown_refl w5 _) _) hg7
              have hmw5 : mb < w5.heap.size := by have := H5.out.2.2.1.size; omega
              have hmne7 : some mb ≠ (Value.slice aa sm.length ac).ownBlock := by intro e; have := hnb mb e.symm; omega
              have e7 := hg57.block mb hmw5 hmne7
              have h77 : w7.cell? ⟨mb, 7, none⟩ = some (.slice aa sm.length ac) := (World.cell?_of_block (w := w5) (a := ⟨mb, 7, none⟩) e7).trans h57
              have hfz7 : w7.frozen? ⟨mb, 7, none⟩ = false := (World.frozen?_of_block (w := w5) (a := ⟨mb, 7, none⟩) e7).trans (hfz5 7)
              have HP := Lib.hid (HM.out.1.push HM.out.2.2 (by omega) (by omega) HW.out.2.2.2 HFI.out H5.out.2.2.1 H5.out.2.2.2.1 H5.out.2.2.2.2 H5.out.1 H5.out.2.1 hg57 hown7)
              have hownN := hown7
              clear hown7 hg7 hg57 e7 h57 hfz5 hnb
              obtain ⟨va', na', ca', rfl⟩ : ∃ a n c, v' = .slice a n c := by
                obtain ⟨a, c, e⟩ := own_shape hownN
                exact ⟨a, _, c, e⟩
              go_wp2_with fail
              go_ret
              exact Or.inr (Or.inl (And.intro HFI.out (And.intro (by omega) (And.intro rfl ⟨_, HP.out.1, HP.out.2⟩))))
end Go.Proofs.YtknpkndiflodbaaGreatDoor.Tb
