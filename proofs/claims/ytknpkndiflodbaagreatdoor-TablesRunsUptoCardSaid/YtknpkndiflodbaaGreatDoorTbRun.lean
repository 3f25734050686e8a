/-
  WALKS of the law TablesRuns: run.
-/
import Derived.Test.YtknpkndiflodbaaGreatDoorTbCTree
import Derived.Test.YtknpkndiflodbaaGreatDoorTbReadsM
set_option linter.unusedVariables false
set_option linter.unusedSimpArgs false
namespace Go.Proofs.YtknpkndiflodbaaGreatDoor.Tb
open Go Go.RowKit Go.Proofs Go.Maps Mx
theorem fits_set_out {g : Gr} {t : Tr} {s : Sy} (h : fitsF g t s = true) (hk : s.kind = 0) : t.prod = -1 ∧ s.set.testBit t.byte = true := by
  obtain ⟨p, b, v, ks⟩ := t
  rw [fitsF_set hk] at h
  simp only [Bool.and_eq_true, decide_eq_true_eq] at h
  exact ⟨h.1, h.2.2⟩
theorem fits_sort_out {g : Gr} {t : Tr} {s : Sy} (h : fitsF g t s = true) (hk : s.kind ≠ 0) : ∃ (p : Nat) (q : Pr), t.prod = (p : Int) ∧ g.prods[p]? = some q ∧ q.left = s.sort ∧ q.role ≠ 11 ∧ fitsL g t.kids q.right = true := by
  obtain ⟨p, b, v, ks⟩ := t
  rw [fitsF_sort hk] at h
  simp only [Bool.and_eq_true, decide_eq_true_eq] at h
  obtain ⟨h1, h2, h3⟩ := h
  cases hq : g.prods[p.toNat]? with
  | none => rw [hq] at h3; cases h3
  | some q =>
    rw [hq] at h3
    simp only [Bool.and_eq_true, decide_eq_true_eq, Bool.not_eq_true', decide_eq_false_iff_not] at h3
    exact ⟨p.toNat, q, by simp only [Tr.prod]; omega, hq, h3.1, h3.2.1, h3.2.2⟩
theorem ofS_in {g : Gr} {m : Nat} {q : Pr} (h : g.prods[m]? = some q) (hr : q.role ≠ 11) : m ∈ ofS g q.left := by
  unfold ofS
  rw [List.mem_filter]
  refine ⟨by simpa using (List.getElem?_eq_some_iff.1 h).1, ?_⟩
  rw [h]
  simp [hr]
/-- A tree whose production is p, as it must be. -/
def TreeOf (g : Gr) (t : Tr) (p : Nat) (q : Pr) : Prop := t.prod = (p : Int) ∧ g.prods[p]? = some q ∧ q.role ≠ 11 ∧ fitsL g t.kids q.right = true
set_option maxRecDepth 100000 in
set_option maxHeartbeats 8000000 in
theorem run_any (g : Gr) (hg : Good g) (B : Nat) (tv : Value) (sm : List SM) (hm : MadeLaw g (sm.map toSt)) (sv pv fv lv : Value) : ∀ (bd : Nat) (t : Tr), nodes t ≤ bd → bd ≤ 2000 → ∀ (p : Nat) (q : Pr), TreeOf g t p q → ∀ (n : Nat), n < sm.length → (p, 0) ∈ (stAt sm n).items →
    ∀ (w : World), TabP g B tv sm w → TrOk w t → ProdsAt (fun _ => True) w pv g.prods →
    Calls Tryz.prog 29 #[tv, .agg #[sv, pv, .int .i64 g.start, fv, lv], trV t, .int .i64 (n : Int)] w fun e w' => e = .returned (.bool true) ∧ Below w.heap.size w w' := by
  intro bd
  induction bd with
  | zero => intro t ht; have := nodes_pos t; omega
  | succ bd ih =>
    intro t hnt hbd p q htr n hn hpn w hT ht hP
    obtain ⟨h1, h2, h3, h4⟩ := ht.out
    obtain ⟨e1, hq, hrole, hfl⟩ := htr
    obtain ⟨hkl, hfit⟩ := (fitsL_iff g _ _).1 hfl
    have hnd := nodes_kids t
    unfold trV
    obtain ⟨pr, b, kv, ks⟩ := t
    simp only [Tr.prod, Tr.byte, Tr.kv, Tr.kids] at h1 h2 h3 h4 hnd e1 hkl hfit ⊢
    subst e1
    obtain ⟨pa, pc, rfl⟩ := prodsAt_shape hP
    obtain ⟨a, c, rfl, hc1, hc2, hk⟩ := h3
    obtain ⟨kl, hkl2⟩ : ∃ kl, ks.length = kl := ⟨_, rfl⟩
    have hklb : kl ≤ 2000 := by have := len_nodesL ks; omega
    have HK := Lib.hid (And.intro hk (And.intro h4 (And.intro hnd (And.intro ih (And.intro hP (And.intro hnt (And.intro hq (And.intro hfit (And.intro hT (And.intro hn (And.intro hpn (And.intro hkl2 hkl))))))))))))
    have HM := Lib.hid hm
    have HG := Lib.hid hg
    rw [hkl2] at hc1 ⊢
    have hsz0 : 1 ≤ kl + 1 := by omega
    clear hk h4 hnd ih ht h1 h2 hP hnt hq hfit hfl hT hn hpn hkl2 hkl hm hg
    go_enter Tryz.func29, Tryz.ntmps29
    go_wp2_with fail
    have hB0 : Blk ((w.alloc (.cells #[sv, .slice pa g.prods.length pc, .int .i64 g.start, fv, lv] 39)).alloc (.cells #[.int .i64 (p : Int), .int .u8 (b : Int), .slice a kl c] 76)) w.heap.size 39 #[sv, .slice pa g.prods.length pc, .int .i64 g.start, fv, lv] := (Blk.new _ _ _).alloc _
    have hB1 : Blk ((w.alloc (.cells #[sv, .slice pa g.prods.length pc, .int .i64 g.start, fv, lv] 39)).alloc (.cells #[.int .i64 (p : Int), .int .u8 (b : Int), .slice a kl c] 76)) (w.heap.size + 1) 76 #[.int .i64 (p : Int), .int .u8 (b : Int), .slice a kl c] := Blk.new_ (by simp) _ _
    have hb1 : Below w.heap.size w ((w.alloc (.cells #[sv, .slice pa g.prods.length pc, .int .i64 g.start, fv, lv] 39)).alloc (.cells #[.int .i64 (p : Int), .int .u8 (b : Int), .slice a kl c] 76)) := ((Below.refl w.heap.size w).alloc (Nat.le_refl _) _).alloc (by simp) _
    generalize ((w.alloc (.cells #[sv, .slice pa g.prods.length pc, .int .i64 g.start, fv, lv] 39)).alloc (.cells #[.int .i64 (p : Int), .int .u8 (b : Int), .slice a kl c] 76)) = w1 at hB0 hB1 hb1 ⊢
    have H1 := Lib.hid (And.intro hB0 (And.intro hB1 hb1))
    clear hB0 hB1 hb1
    go_loopg [9, 10] kl (fun m v9 v10 wx => ∃ i s : Nat, i ≤ kl ∧ m = kl - i ∧ v10 = .int .i64 (i : Int) ∧ v9 = .int .i64 (s : Int) ∧ s < sm.length ∧ (p, i) ∈ (stAt sm s).items ∧ Below w1.heap.size w1 wx)
    case atStart => exact ⟨0, n, by omega, rfl, rfl, rfl, HK.out.2.2.2.2.2.2.2.2.2.1, HK.out.2.2.2.2.2.2.2.2.2.2.1, Below.refl _ _⟩
    case round =>
      obtain ⟨i, s, hi, hm, rfl, rfl, hs, hit, hbx⟩ := hrel
      have hbw : Below w.heap.size w wr := H1.out.2.2.trans (hbx.mono H1.out.2.2.size)
      have hT1 := H1.out.2.1.below hbx H1.out.2.1.lt
      have t0 := hT1.cell 0
      have t2 := hT1.cell 2
      simp at t0 t2
      have hTw := HK.out.2.2.2.2.2.2.2.2.1.below hbw
      by_cases hil : i < kl
      · have hil1 : (i : Int) < (kl : Int) := by omega
        have hi0 : (0 : Int) ≤ (i : Int) := by omega
        obtain ⟨k, hx⟩ : ∃ x, ks[i]? = some x := ⟨_, List.getElem?_eq_getElem (by rw [HK.out.2.2.2.2.2.2.2.2.2.2.2.1]; exact hil)⟩
        obtain ⟨y, hy⟩ : ∃ y, q.right[i]? = some y := ⟨_, List.getElem?_eq_getElem (by rw [← HK.out.2.2.2.2.2.2.2.2.2.2.2.2, HK.out.2.2.2.2.2.2.2.2.2.2.2.1]; exact hil)⟩
        have hf := HK.out.2.2.2.2.2.2.2.1 i k y hx hy
        have hko := HK.out.2.1 k (List.mem_of_getElem? hx)
        obtain ⟨ka2, kc2, hk2⟩ := tslice_shape hko.out.2.2.1
        obtain ⟨kg, ko, rfl, _, hkr⟩ := HK.out.1 (by rintro h; rw [h] at hx; simp at hx)
        have c0 := (World.cell?_of_block (hbw.block kg hkr.lt)).trans (hkr.cells i _ hx 0 _ rfl)
        have c1 := (World.cell?_of_block (hbw.block kg hkr.lt)).trans (hkr.cells i _ hx 1 _ rfl)
        have c2 : wr.cell? ⟨kg, ko + i * 3 + 2, none⟩ = some k.kv := (World.cell?_of_block (hbw.block kg hkr.lt)).trans (hkr.cells i _ hx 2 _ rfl)
        simp only [Nat.add_zero] at c0
        rw [hk2] at c2
        have hah : aheadF g (p, i) = some y := by unfold aheadF rightOf; rw [HK.out.2.2.2.2.2.2.1]; exact hy
        have hsy := HG.out.sym q (List.mem_of_getElem? HK.out.2.2.2.2.2.2.1) y (List.mem_of_getElem? hy)
        have hel := edges_len HG.out HM.out hs
        have R := Lib.hid (And.intro hm (And.intro hs (And.intro hit (And.intro hbx (And.intro hbw (And.intro hf (And.intro hko (And.intro hah (And.intro hsy (And.intro hel (And.intro hk2 hx)))))))))))
        clear hm hs hit hbx hbw hT1 hTw hf hko hah hsy hel hx hy hkr hk2
        go_upto_region 7 with fail
        have hQ : Blk (wr.alloc (.cells #[.int .i64 k.prod, .int .u8 (k.byte : Int), .slice ka2 k.kids.length kc2] 76)) wr.heap.size 76 #[.int .i64 k.prod, .int .u8 (k.byte : Int), .slice ka2 k.kids.length kc2] := Blk.new _ _ _
        have hb4 : Below wr.heap.size wr (wr.alloc (.cells #[.int .i64 k.prod, .int .u8 (k.byte : Int), .slice ka2 k.kids.length kc2] 76)) := (Below.refl _ wr).alloc (Nat.le_refl _) _
        generalize (wr.alloc (.cells #[.int .i64 k.prod, .int .u8 (k.byte : Int), .slice ka2 k.kids.length kc2] 76)) = w4 at hQ hb4 ⊢
        obtain ⟨kq, hkq⟩ : ∃ kq, wr.heap.size = kq := ⟨_, rfl⟩
        rw [hkq] at hQ ⊢
        have k0 := hQ.cell 0
        have k1 := hQ.cell 1
        have k2 := hQ.cell 2
        simp at k0 k1 k2
        have hb14 := R.out.2.2.2.1.trans (hb4.mono R.out.2.2.2.1.size)
        have hbw4 := R.out.2.2.2.2.1.trans (hb4.mono R.out.2.2.2.2.1.size)
        have A4 := Lib.hid (And.intro hQ (And.intro hb14 hbw4))
        clear hQ hb4 hkq hb14 hbw4 c0 c1 c2 t0 t2
        rcases R.out.2.2.2.2.2.2.2.2.1 with ⟨hky, _, _, _⟩ | ⟨hky, _, _, _⟩
        · obtain ⟨hp1, hbit⟩ := fits_set_out R.out.2.2.2.2.2.1 hky
          obtain ⟨⟨tq, ho1, ho2, ho3⟩, _⟩ := reads_byte HG.out HM.out R.out.2.1 R.out.2.2.1 R.out.2.2.2.2.2.2.2.1 hky hbit
          have hsh := shift_any g B tv sm s k.byte R.out.2.2.2.2.2.2.1.out.1 w4 (HK.out.2.2.2.2.2.2.2.2.1.below A4.out.2.2) (by have := R.out.2.2.2.2.2.2.2.2.2.1; omega)
          rw [ho2] at hsh
          rw [hp1] at k0
          have O := Lib.hid (And.intro ho1 ho3)
          clear hky hp1 hbit ho1 ho2 ho3
          go_wp2_with fail
          refine hsh.mono ?_
          rintro e w5 ⟨rfl, hb5⟩
          have A5 := Lib.hid (A4.out.2.1.trans (hb5.mono A4.out.2.1.size))
          clear hb5 hsh k0 k1 k2
          go_wp2_with fail
          go_roundg (kl - (i + 1))
          case measure => have := R.out.1; omega
          case rel => exact ⟨i + 1, tq, by omega, rfl, rfl, rfl, O.out.1, O.out.2, A5.out⟩
        · obtain ⟨kp, kq2, hkp, hkq2, hkl3, hkr3, hkf⟩ := fits_sort_out R.out.2.2.2.2.2.1 (by omega)
          have hnew := reads_new HG.out HM.out R.out.2.1 R.out.2.2.1 R.out.2.2.2.2.2.2.2.1 hky (m := kp) (by rw [← hkl3]; exact ofS_in hkq2 hkr3)
          obtain ⟨tq, ho1, ho2, ho3⟩ := reads_sort HM.out R.out.2.1 R.out.2.2.1 R.out.2.2.2.2.2.2.2.1 hky
          have hgo := fun W h => goto_any g B tv sm s y.sort W h (by have := R.out.2.2.2.2.2.2.2.2.2.1; omega)
          rw [ho2] at hgo
          have hrec := HK.out.2.2.2.1 k (by have := nodesL_mem (List.mem_of_getElem? R.out.2.2.2.2.2.2.2.2.2.2.2); have h1 := HK.out.2.2.1; have h2 := HK.out.2.2.2.2.2.1; omega) (by omega) kp kq2 ⟨hkp, hkq2, hkr3, hkf⟩ s R.out.2.1 hnew w4 (HK.out.2.2.2.2.2.2.2.2.1.below A4.out.2.2) (R.out.2.2.2.2.2.2.1.lower A4.out.2.2) (HK.out.2.2.2.2.1.keep fun q hq hl => ⟨hq, A4.out.2.2.block q hl⟩)
          unfold trV at hrec
          rw [R.out.2.2.2.2.2.2.2.2.2.2.1, hkp] at hrec
          rw [hkp] at k0
          obtain ⟨cap, pb, po, vr, epv, hbl, hvr, hpc⟩ := HK.out.2.2.2.2.1.at_ hkq2
          injection epv with e1 e2 e3
          subst e1
          subst e3
          have f0 := hpc 0 _ rfl
          simp only [Nat.add_zero, hkl3] at f0
          have hg4 := H1.out.1.below A4.out.2.1 H1.out.1.lt
          have g0 := hg4.cell 0
          have g1 := hg4.cell 1
          have g2 := hg4.cell 2
          have g3 := hg4.cell 3
          have g4 := hg4.cell 4
          simp at g0 g1 g2 g3 g4
          have hkp0 : (0 : Int) ≤ (kp : Int) := by omega
          have hkp1 : (kp : Int) < (g.prods.length : Int) := by have := (List.getElem?_eq_some_iff.1 hkq2).1; omega
          have O := Lib.hid (And.intro ho1 (And.intro ho3 (And.intro f0 (And.intro hbl hkp))))
          clear hky hkp hkl3 hkq2 hkr3 hkf hnew ho1 ho2 ho3 f0 hbl hvr hpc e2 hg4
          go_wp2_with fail
          refine hrec.mono ?_
          rintro e w5 ⟨rfl, hb5⟩
          have A5 := Lib.hid (And.intro (A4.out.1.below hb5 A4.out.1.lt) (And.intro (A4.out.2.1.trans (hb5.mono A4.out.2.1.size)) (A4.out.2.2.trans (hb5.mono A4.out.2.2.size))))
          clear hb5 hrec k0 k1 k2 g0 g1 g2 g3 g4
          have k0 := A5.out.1.cell 0
          have hg5 := H1.out.1.below A5.out.2.1 H1.out.1.lt
          have g1 := hg5.cell 1
          have f0 := (World.cell?_of_block (A5.out.2.2.block pb O.out.2.2.2.1)).trans O.out.2.2.1
          simp at g1 k0
          rw [O.out.2.2.2.2] at k0
          clear hg5
          go_wp2_with fail
          refine (hgo w5 (HK.out.2.2.2.2.2.2.2.2.1.below A5.out.2.2)).mono ?_
          rintro e w6 ⟨rfl, hb6⟩
          have A6 := Lib.hid (A5.out.2.1.trans (hb6.mono A5.out.2.1.size))
          clear hb6 hgo g1 k0 f0
          go_wp2_with fail
          go_roundg (kl - (i + 1))
          case measure => have := R.out.1; omega
          case rel => exact ⟨i + 1, tq, by omega, rfl, rfl, rfl, O.out.1, O.out.2.1, A6.out⟩
      · obtain rfl : i = kl := by omega
        have hrd := reduces_any g B _ sm s wr hTw (by
          rw [reads_done HM.out hs]; unfold doneF; rw [List.length_map]
          have h1 := List.length_filter_le (fun x : It => x.2 == (rightOf g x.1).length) (stAt sm s).items
          have h2 := (hTw.at_ s).len
          omega)
        have hdlen : (stAt sm s).done.length ≤ 10000 := by
          rw [reads_done HM.out hs]; unfold doneF; rw [List.length_map]
          have h1 := List.length_filter_le (fun x : It => x.2 == (rightOf g x.1).length) (stAt sm s).items
          have h2 := (hTw.at_ s).len
          omega
        have hin : p ∈ (stAt sm s).done := by
          rw [reads_done HM.out hs]
          unfold doneF
          refine List.mem_map.2 ⟨(p, i), List.mem_filter.2 ⟨hit, ?_⟩, rfl⟩
          have hr : rightOf g p = q.right := by unfold rightOf; rw [HK.out.2.2.2.2.2.2.1]; rfl
          simp only [beq_iff_eq]
          rw [hr, ← HK.out.2.2.2.2.2.2.2.2.2.2.2.2, HK.out.2.2.2.2.2.2.2.2.2.2.2.1]
        have R := Lib.hid (And.intro hin (And.intro hbw hT1))
        clear hin hbw hT1 hTw hbx hm hit
        go_wp2_with fail
        refine hrd.mono ?_
        rintro e w8 ⟨v7, rfl, hv7, hb8⟩
        obtain ⟨da, dc, rfl⟩ := own_shape hv7
        have hD := own_sliceK encN_len hv7
        have A8 := Lib.hid (And.intro hD (And.intro (R.out.2.1.trans (hb8.mono R.out.2.1.size)) (R.out.2.2.below hb8 R.out.2.2.lt)))
        clear hv7 hb8 hD hrd t0 t2
        obtain ⟨L, hL⟩ : ∃ L, (stAt sm s).done = L := ⟨_, rfl⟩
        rw [hL] at R A8 hdlen ⊢
        go_wp2_with fail
        go_loopg [14] L.length (fun m v14 wx => ∃ j z : Nat, j ≤ L.length ∧ m = L.length - j ∧ v14 = .int .i64 (j : Int) ∧ p ∉ L.take j ∧ wx = w8.drewN z)
        case atStart => exact ⟨0, 0, by omega, rfl, rfl, by simp, rfl⟩
        case round =>
          obtain ⟨j, z, hj, hm, rfl, hno, rfl⟩ := hrel
          have hjl : j < L.length := by
            rcases Nat.lt_or_ge j L.length with h | h
            · exact h
            · exact absurd (by rw [List.take_of_length_le h]; exact R.out.1) hno
          obtain ⟨x, hx⟩ : ∃ x, L[j]? = some x := ⟨_, List.getElem?_eq_getElem hjl⟩
          obtain ⟨da2, dc2, ei, _, _, hk1⟩ := A8.out.1
          injection ei with ei1 _ ei3
          subst ei1
          subst ei3
          obtain ⟨dg, do_, rfl, _, hdr⟩ := hk1 (by rintro h; rw [h] at hjl; simp at hjl)
          have c0 : (w8.drewN z).cell? _ = _ := hdr.cells j _ hx 0 _ rfl
          have t0 : (w8.drewN z).cell? ⟨w.heap.size + 1, 0, none⟩ = some (.int .i64 (p : Int)) := A8.out.2.2.cell 0
          simp only [Nat.add_zero, Nat.mul_one] at c0
          have hj0 : (0 : Int) ≤ (j : Int) := by omega
          have hj1 : (j : Int) < (L.length : Int) := by omega
          have hbz := below_drewN A8.out.2.1 z
          have HX := Lib.hid (And.intro hm (And.intro hno (And.intro hx hbz)))
          have c0 : (w8.drewN z).cell? ⟨dg, do_ + j, none⟩ = some (.int .i64 (x : Int)) := c0
          generalize hwq : w8.drewN z = wq at c0 t0 ⊢
          have HQ := Lib.hid hwq
          clear hm hno hx hbz hwq hdr hk1
          go_upto_region 17 with fail
          go_quiet (fail)
          by_cases hxp : x = p
          · have hxp1 : (x : Int) = (p : Int) := by omega
            have HB := Lib.hid HX.out.2.2.2
            clear hxp
            go_wp2_with fail
            go_ret
            refine ⟨rfl, below_drewN ?_ _⟩
            rw [← HQ.out]
            exact HB.out
          · have hxp1 : ¬ (x : Int) = (p : Int) := by omega
            have HN := Lib.hid hxp
            clear hxp
            go_wp2_with fail
            go_roundg (L.length - (j + 1))
            case measure => have := HX.out.1; omega
            case rel =>
              refine ⟨j + 1, _, by omega, rfl, rfl, ?_, by rw [← HQ.out, World.drewN_drewN]⟩
              rw [List.take_add_one, HX.out.2.2.1]
              intro h
              rcases List.mem_append.1 h with h | h
              · exact HX.out.2.1 h
              · simp at h; exact HN.out h.symm
end Go.Proofs.YtknpkndiflodbaaGreatDoor.Tb
