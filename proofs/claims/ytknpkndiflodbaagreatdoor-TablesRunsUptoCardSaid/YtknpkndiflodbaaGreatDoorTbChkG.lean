/-
  WALKS of package kernel: forbids, of any grammar.
-/
import Derived.Test.YtknpkndiflodbaaGreatDoorTbChkB
set_option linter.unusedVariables false
set_option linter.unusedSimpArgs false
namespace Go.Proofs.YtknpkndiflodbaaGreatDoor.Tb
open Go Go.RowKit Go.Proofs Go.Maps Go.WideMaps Mx
def fbR (gb tb pb po sb so n k pl pc rl rc B : Nat) (sy : Sy) (j : Nat) (v : Value) (W : World) : Prop :=
  match j with
  | 0 => v = .pointer (some ⟨gb, 1, none⟩)
  | 1 => v = .slice (some ⟨pb, po, none⟩) pl pc
  | 2 => v = .pointer (some ⟨tb, 0, none⟩)
  | 3 => v = .int .i64 n
  | 4 => v = .pointer (some ⟨pb, po + n * 7, none⟩)
  | 5 => v = .pointer (some ⟨pb, po + n * 7 + 1, none⟩)
  | 6 => v = .slice (some ⟨sb, so, none⟩) rl rc
  | 7 => v = .pointer (some ⟨tb, 1, none⟩)
  | 8 => v = .int .i64 ((k : Int) + 1)
  | 9 => v = .int .i64 k
  | 10 => v = .pointer (some ⟨sb, so + k * 6, none⟩)
  | 11 => v = .agg #[.int .i64 sy.kind, .int .u64 (wd sy.set 0), .int .u64 (wd sy.set 1), .int .u64 (wd sy.set 2), .int .u64 (wd sy.set 3), .int .i64 sy.sort]
  | 12 => ∃ b, v = .pointer (some ⟨b, 0, none⟩) ∧ Blk W b 28 #[.int .i64 0, .int .u64 0, .int .u64 0, .int .u64 0, .int .u64 0, .int .i64 0] ∧ B ≤ b
  | _ => True
theorem fbR_stab (gb tb pb po sb so n k pl pc rl rc B : Nat) (sy : Sy) (j : Nat) (v : Value) (w w' : World) (h : fbR gb tb pb po sb so n k pl pc rl rc B sy j v w) (hb : Below w.heap.size w w') : fbR gb tb pb po sb so n k pl pc rl rc B sy j v w' := by
  unfold fbR at h ⊢
  split at h
  all_goals first | trivial | exact h | (obtain ⟨b, e, h1, h2⟩ := h; exact ⟨b, e, h1.below hb h1.lt, h2⟩)
set_option maxRecDepth 100000 in
set_option maxHeartbeats 16000000 in
theorem forbids_any (D : Nat → Prop) (g : Gr) (hN : g.forbid.length ≤ 2000000) (hpm : g.prods.length ≤ 2000000) (hrm : ∀ p ∈ g.prods, p.right.length ≤ 2000000) (hF : ∀ f ∈ g.forbid, FbOk f) (w : World) (sv pv lv fv : Value) (hpl : ∃ pa pc, pv = .slice pa g.prods.length pc) (hP : ProdsAt D w pv g.prods) (hs : SliceK D encFb 3 w fv g.forbid) :
    Calls Tryz.prog 39 #[.agg #[sv, pv, .int .i64 g.start, fv, lv]] w fun e w' => e = .returned (.bool (forbidsB g)) ∧ Below w.heap.size w w' := by
  obtain ⟨pa, pc, rfl⟩ := hpl
  obtain ⟨a, c, rfl, hc1, hc2, hk⟩ := hs
  have hmm := @run_makeMap Tryz.prog
  have hmf : ∀ (fn : Fn) (first cap : Array Value) (w : World), (Instr.makeFunc fn first cap).run Tryz.prog w = .ok (.func fn first cap) w := fun _ _ _ _ => rfl
  have HK := Lib.hid (And.intro hk (And.intro hF (And.intro hP hrm)))
  clear hk hF hP hrm
  go_enter Tryz.func39, Tryz.ntmps39
  go_wp2_with fail
  have hB1 : Blk ((w.alloc (.cells #[sv, .slice pa g.prods.length pc, .int .i64 g.start, .slice a g.forbid.length c, lv] 39)).alloc (.map #[] 0)) w.heap.size 39 #[sv, .slice pa g.prods.length pc, .int .i64 g.start, .slice a g.forbid.length c, lv] := (Blk.new _ _ _).alloc _
  have hM1 : MapV Tryz.prog 147 ((w.alloc (.cells #[sv, .slice pa g.prods.length pc, .int .i64 g.start, .slice a g.forbid.length c, lv] 39)).alloc (.map #[] 0)) (w.heap.size + 1) 0 (fun _ => none) := by
    have := MapV.made (w.alloc (.cells #[sv, .slice pa g.prods.length pc, .int .i64 g.start, .slice a g.forbid.length c, lv] 39)) Tryz.prog 147
    simpa using this
  have hb1 : Below w.heap.size w ((w.alloc (.cells #[sv, .slice pa g.prods.length pc, .int .i64 g.start, .slice a g.forbid.length c, lv] 39)).alloc (.map #[] 0)) := ((Below.refl _ w).alloc (Nat.le_refl _) _).alloc (by simp) _
  have hz1 : w.heap.size + 2 ≤ ((w.alloc (.cells #[sv, .slice pa g.prods.length pc, .int .i64 g.start, .slice a g.forbid.length c, lv] 39)).alloc (.map #[] 0)).heap.size := by simp
  generalize (w.alloc (.cells #[sv, .slice pa g.prods.length pc, .int .i64 g.start, .slice a g.forbid.length c, lv] 39)).alloc (.map #[] 0) = W1 at hB1 hM1 hb1 hz1 ⊢
  have H1 := Lib.hid (And.intro hB1 (And.intro hM1 (And.intro hb1 hz1)))
  clear hB1 hM1 hb1 hz1
  go_loopg [13] g.forbid.length (fun m v13 wr => ∃ (i : Nat) (f : Lit → Option Value), i ≤ g.forbid.length ∧ m = g.forbid.length - i ∧ v13 = .int .i64 i ∧ MapV Tryz.prog 147 wr (w.heap.size + 1) i f ∧
    (∀ s, FbOk s → f (keyB s) = if s ∈ g.forbid.take i then some (.int .i64 1) else none) ∧ Below w.heap.size w wr ∧ w.heap.size + 2 ≤ wr.heap.size ∧ Blk wr w.heap.size 39 #[sv, .slice pa g.prods.length pc, .int .i64 g.start, .slice a g.forbid.length c, lv] ∧ (g.forbid.take i).Nodup ∧ ∀ s ∈ g.forbid.take i, fbB g s = true)
  case atStart => exact ⟨0, _, by omega, rfl, rfl, H1.out.2.1, (fun s _ => by simp), H1.out.2.2.1, H1.out.2.2.2, H1.out.1, by simp, by simp⟩
  case round =>
    obtain ⟨i, f, hi, hm, rfl, hM, hf, hb, hz, hB, hnd, heach⟩ := hrel
    by_cases hlt : i < g.forbid.length
    · obtain ⟨⟨fp, fa, fc⟩, hsi⟩ : ∃ s, g.forbid[i]? = some s := ⟨_, List.getElem?_eq_getElem hlt⟩
      obtain ⟨kg, ko, rfl, hkD, hkr⟩ := HK.out.1 (by rintro h; rw [h] at hlt; simp at hlt)
      have up : ∀ {i : Nat} {u : Value}, w.cell? ⟨kg, i, none⟩ = some u → wr.cell? ⟨kg, i, none⟩ = some u := fun h => (World.cell?_of_block (hb.block kg hkr.lt)).trans h
      have k0 := up (hkr.cells i _ hsi 0 _ rfl)
      have k1 := up (hkr.cells i _ hsi 1 _ rfl)
      have k2 := up (hkr.cells i _ hsi 2 _ rfl)
      simp only [Nat.add_zero] at k0
      have hmem := List.mem_of_getElem? hsi
      have hok := HK.out.2.1 _ hmem
      have hkey := keyOf_fb _ hok
      obtain ⟨cn, hcn⟩ : ∃ cn : Nat, (if (fp, fa, fc) ∈ g.forbid.take i then some (Value.int .i64 1) else none).getD (.int .i64 0) = .int .i64 (cn : Int) ∧ (cn = 0 ∨ cn = 1) ∧ (cn = 0 ↔ (fp, fa, fc) ∉ g.forbid.take i) := by
        by_cases h : (fp, fa, fc) ∈ g.forbid.take i
        · exact ⟨1, by rw [if_pos h]; rfl, .inr rfl, by simp [h]⟩
        · exact ⟨0, by rw [if_neg h]; rfl, .inl rfl, by simp [h]⟩
      obtain ⟨hcv, hc01, hcm⟩ := hcn
      have hval : (f (keyB (fp, fa, fc))).getD (.int .i64 0) = .int .i64 (cn : Int) := by rw [hf _ hok, hcv]
      have hi0 : (0 : Int) ≤ (i : Int) := by omega
      have hi1 : (i : Int) < (g.forbid.length : Int) := by omega
      have hmx : i < maxLen := by unfold maxLen; omega
      have hcn0 : (0 : Int) ≤ (cn : Int) := by omega
      have hcn1 : (cn : Int) ≤ 1 := by omega
      have hno : fbB g (fp, fa, fc) = false → forbidsB g = false := fun h => forbidsB_no hmem h
      have hno2 : (fp, fa, fc) ∈ g.forbid.take i → forbidsB g = false := fun h => by
        unfold forbidsB
        rw [decide_eq_false (nodup_again hsi h)]
        rfl
      have HR := Lib.hid (And.intro hm (And.intro hf (And.intro hb (And.intro hB (And.intro hsi (And.intro hcm (And.intro hnd (And.intro heach (And.intro hno (And.intro hno2 (And.intro hok (And.intro hM (And.intro hz hval)))))))))))))
      clear hm hf hb hB hsi hcv hcm hM hkr hnd heach hno hno2 hmem hok up hz hval
      go_upto_region 6 with fail
      have hbW : Below wr.heap.size wr (wr.alloc (.cells #[.int .i64 fp, .int .i64 fa, .int .i64 fc] 147)).drew := ((Below.refl _ wr).alloc (Nat.le_refl _) _).drew
      have hXW : Blk (wr.alloc (.cells #[.int .i64 fp, .int .i64 fa, .int .i64 fc] 147)).drew wr.heap.size 147 #[.int .i64 fp, .int .i64 fa, .int .i64 fc] := Blk.new _ _ _
      obtain ⟨w7, hw7⟩ : ∃ w7, (wr.alloc (.cells #[.int .i64 fp, .int .i64 fa, .int .i64 fc] 147)) = w7 := ⟨_, rfl⟩
      rw [hw7] at hbW hXW ⊢
      clear hw7
      have hz7 := HR.out.2.2.2.2.2.2.2.2.2.2.2.2.1
      have hM7 : MapV Tryz.prog 147 w7.drew (w.heap.size + 1) i f := HR.out.2.2.2.2.2.2.2.2.2.2.2.1.below hbW (by omega)
      have hB7 := HR.out.2.2.2.1.below hbW (by omega)
      have hb7 := HR.out.2.2.1.trans (hbW.mono HR.out.2.2.1.size)
      have htm : wr.heap.size ≠ w.heap.size + 1 := by omega
      have hsz7 := hbW.size
      have hxw : w.heap.size < wr.heap.size := by omega
      obtain ⟨v0, st, W1, he1, hcell, hst⟩ := hM7.entry fbLaw Tryz.underlying145 (z := .int .i64 0) (fun u => Tryz.zeroValue3 u) (by unfold maxLen; omega) hkey
      have hl1 := hM7.entry_look fbLaw Tryz.underlying145 (z := .int .i64 0) (fun u => Tryz.zeroValue3 u) (by unfold maxLen; omega) hkey he1
      have hl0 := hM7.lookup (Keyed.of_law fbLaw) Tryz.underlying145 (Tryz.zeroValue3 w7.drew) hkey
      rw [HR.out.2.2.2.2.2.2.2.2.2.2.2.2.2] at hl0 hl1
      obtain ⟨W2, he2, hm2, hg2⟩ := hst (.int .i64 (cn + 1))
      obtain ⟨tb, htbe⟩ : ∃ tb, wr.heap.size = tb := ⟨_, rfl⟩
      have HTB := Lib.hid htbe
      rw [htbe] at hXW htm hxw ⊢
      obtain ⟨x0, x1, x2, _⟩ := hXW.facts3
      have y0 := (hcell ⟨tb, 0, none⟩ htm).trans x0
      have y1 := (hcell ⟨tb, 1, none⟩ htm).trans x1
      have y2 := (hcell ⟨tb, 2, none⟩ htm).trans x2
      have hX2 := hXW.grown hg2 (by intro e; injection e with e; exact htm e)
      have hB2 := hB7.grown hg2 (by simp)
      have hlk2 := hm2.lookup (Keyed.of_law fbLaw) Tryz.underlying145 (Tryz.zeroValue3 W2) hkey
      rw [putV_same f _ ((Keyed.of_law fbLaw).key hkey)] at hlk2
      have hlk2 : ∀ k, (Instr.lookup 145 (.map (some (w.heap.size + 1))) (.agg #[.int .i64 fp, .int .i64 fa, .int .i64 fc]) false).run Tryz.prog (W2.drewN k) = .ok (.int .i64 (cn + 1)) (W2.drewN k) := fun k => by
        have h1 := (show MapV Tryz.prog 147 (W2.drewN k) (w.heap.size + 1) (i + 1) _ from hm2).lookup (Keyed.of_law fbLaw) Tryz.underlying145 (Tryz.zeroValue3 (W2.drewN k)) hkey
        rw [putV_same f _ ((Keyed.of_law fbLaw).key hkey)] at h1
        exact h1
      have hb2 : Below w.heap.size w W2 := hb7.trans (below_of_grown hg2 hb7.size (Nat.le_succ _))
      have hz2 : w.heap.size + 2 ≤ W2.heap.size := by have := hg2.size; omega
      have T2 := Lib.hid (And.intro hm2 (And.intro hb2 (And.intro hB2 (And.intro hX2 hz2))))
      have HL := Lib.hid hlk2
      clear hbW hXW hM7 hB7 hb7 hst hcell hm2 hg2 hX2 hB2 htbe hlk2 hb2 hz2 hz7 hsz7
      apply via
      · intro KV
        go_region
        all_goals (try go_simp)
        all_goals exact KV.out
      intros
      clear hl0 hl1 he1 he2 x0 x1 x2 y0 y1 y2
      obtain ⟨x0, x1, x2, _⟩ := T2.out.2.2.2.1.facts3
      have g1 := T2.out.2.2.1.cell 1
      simp at g1
      have hlk2 := HL.out
      have hbR : ∀ k, Below w.heap.size w (W2.drewN k) := fun k => below_drewN T2.out.2.1 k
      have HbR := Lib.hid hbR
      clear hbR
      go_upto_region 7 with fail
      by_cases hcz : cn = 0
      · subst hcz
        have hpk : ∀ k, ProdsAt (fun _ => True) (W2.drewN k) (.slice pa g.prods.length pc) g.prods := fun k => HK.out.2.2.1.keep fun q hq hl => ⟨trivial, T2.out.2.1.block q hl⟩
        have hcall : ∀ (n : Int) (r : Bool), pB g n = r → ∀ k, Calls Tryz.prog 73 #[.int .i64 n, .pointer (some ⟨w.heap.size, 0, none⟩)] (W2.drewN k) fun e w' => e = .returned (.bool r) ∧ w' = W2.drewN k := fun n r hr k => fprod_any (fun _ => True) g hpm (W2.drewN k) w.heap.size pa pc g1 (hpk k) n r hr
        have HC := Lib.hid hcall
        clear hcall
        rcases fb_arms g (fp, fa, fc) with ⟨hh, p1⟩ | ⟨hh, p1, p2⟩ | ⟨n, m, p, q, e1, e2, hp, hq, p1, p2, hrest⟩
        · have HC1 := Lib.hid (HC.out fp false p1)
          have HV := Lib.hid (HR.out.2.2.2.2.2.2.2.2.1 hh)
          clear hh p1
          go_quiet ((go_at_call 73; exact Calls.quiet_of_same (HC1.out _)))
          go_wp2_with fail
          go_ret
          exact ⟨by rw [HV.out]; rfl, HbR.out _⟩
        · have HC1 := Lib.hid (HC.out fp true p1)
          have HC2 := Lib.hid (HC.out fc false p2)
          have HV := Lib.hid (HR.out.2.2.2.2.2.2.2.2.1 hh)
          clear hh p1 p2
          go_quiet ((first | (go_at_call_of 73 (fp); exact Calls.quiet_of_same (HC1.out _)) | (go_at_call_of 73 (fc); exact Calls.quiet_of_same (HC2.out _))))
          go_wp2_with fail
          go_ret
          exact ⟨by rw [HV.out]; rfl, HbR.out _⟩
        · have HC1 := Lib.hid (HC.out fp true p1)
          have HC2 := Lib.hid (HC.out fc true p2)
          clear p1 p2
          simp only at e1 e2
          subst e1
          subst e2
          obtain ⟨cap, pb, po, vr, epv, hbl, hvr, hpc⟩ := HK.out.2.2.1.at_ hp
          obtain ⟨cap2, pb2, po2, vr2, epv2, hbl2, hvr2, hpc2⟩ := HK.out.2.2.1.at_ hq
          injection epv with u1 u2 u3
          subst u1
          subst u3
          injection epv2 with u1 u2 u3
          injection u1 with u1
          injection u1 with u1 u4
          subst u1
          subst u4
          subst u3
          clear u2
          obtain ⟨ra, rc, rfl, hrc1, hrc2, hrk⟩ := hvr
          have up2 : ∀ {b i : Nat} {u : Value}, b < w.heap.size → w.cell? ⟨b, i, none⟩ = some u → W2.cell? ⟨b, i, none⟩ = some u := fun hb h => (World.cell?_of_block (T2.out.2.1.block _ hb)).trans h
          have v1 := up2 hbl (hpc 1 _ rfl)
          have v0 := up2 hbl (hpc2 0 _ rfl)
          simp only [Nat.add_zero] at v0
          have hrl := HK.out.2.2.2 p (List.mem_of_getElem? hp)
          have hn0 : (0 : Int) ≤ (n : Int) := by omega
          have hm0 : (0 : Int) ≤ (m : Int) := by omega
          have hn1 : (n : Int) < (g.prods.length : Int) := by have := (List.getElem?_eq_some_iff.1 hp).1; omega
          have hm1 : (m : Int) < (g.prods.length : Int) := by have := (List.getElem?_eq_some_iff.1 hq).1; omega
          clear hpc hpc2 hvr2 hp hq
          rcases hrest with ⟨hh, c1⟩ | ⟨hh, c1, c2⟩ | ⟨k, sy, e3, hsy, hrest⟩
          · have HV := Lib.hid (HR.out.2.2.2.2.2.2.2.2.1 hh)
            have d1 : decide (fa < 1) = true := decide_eq_true c1
            clear hh
            go_quiet ((first | (go_at_call_of 73 (n); exact Calls.quiet_of_same (HC1.out _)) | (go_at_call_of 73 (m); exact Calls.quiet_of_same (HC2.out _))))
            go_wp2_with fail
            go_ret
            exact ⟨by rw [HV.out]; rfl, HbR.out _⟩
          · have HV := Lib.hid (HR.out.2.2.2.2.2.2.2.2.1 hh)
            have d1 : decide (fa < 1) = false := decide_eq_false (by simp only at c1; omega)
            simp only at c2
            have d2 : decide ((p.right.length : Int) < fa) = true := decide_eq_true c2
            clear hh
            go_quiet ((first | (go_at_call_of 73 (n); exact Calls.quiet_of_same (HC1.out _)) | (go_at_call_of 73 (m); exact Calls.quiet_of_same (HC2.out _))))
            go_wp2_with fail
            go_ret
            exact ⟨by rw [HV.out]; rfl, HbR.out _⟩
          · simp only at e3
            subst e3
            have hkl := (List.getElem?_eq_some_iff.1 hsy).1
            have d1 : decide ((k : Int) + 1 < 1) = false := decide_eq_false (by omega)
            have d2 : decide ((p.right.length : Int) < (k : Int) + 1) = false := decide_eq_false (by omega)
            obtain ⟨sb, so, rfl, hsD, hsr⟩ := hrk (by rintro h; rw [h] at hkl; simp at hkl)
            have s0 := up2 hsr.lt (hsr.cells k _ hsy 0 _ rfl)
            have s1 := up2 hsr.lt (hsr.cells k _ hsy 1 _ rfl)
            have s2 := up2 hsr.lt (hsr.cells k _ hsy 2 _ rfl)
            have s3 := up2 hsr.lt (hsr.cells k _ hsy 3 _ rfl)
            have s4 := up2 hsr.lt (hsr.cells k _ hsy 4 _ rfl)
            have s5 := up2 hsr.lt (hsr.cells k _ hsy 5 _ rfl)
            simp only [Nat.add_zero] at s0
            clear hsr up2 hsy
            have HREST := Lib.hid hrest
            clear hrest
            go_quiet ((first | (go_at_call_of 73 (n); exact Calls.quiet_of_same (HC1.out _)) | (go_at_call_of 73 (m); exact Calls.quiet_of_same (HC2.out _))))
            go_upto_region 9 with fail
            generalize hw9 : World.drewN W2 _ = w9
            obtain ⟨nq, hw9⟩ : ∃ nq, World.drewN W2 nq = w9 := ⟨_, hw9⟩
            have hb9 := HbR.out nq
            have hX9 := T2.out.2.2.2.1.drewN nq
            have hB9 := T2.out.2.2.1.drewN nq
            have hM9 := T2.out.1.drewN nq
            rw [hw9] at hb9 hX9 hB9 hM9
            have hz9 : w.heap.size + 2 ≤ w9.heap.size := by rw [← hw9]; exact T2.out.2.2.2.2
            have c9 : ∀ {a : Addr} {u : Value}, W2.cell? a = some u → w9.cell? a = some u := fun h => by rw [← hw9]; exact h
            have HF := Lib.hid (show ∀ W, Below w9.heap.size w9.drew W → W.cell? ⟨w.heap.size, 1, none⟩ = some (.slice (some ⟨pb, po, none⟩) g.prods.length pc) ∧ W.cell? ⟨tb, 0, none⟩ = some (.int .i64 n) ∧ W.cell? ⟨tb, 1, none⟩ = some (.int .i64 ((k : Int) + 1)) ∧ W.cell? ⟨tb, 2, none⟩ = some (.int .i64 m) ∧ W.cell? ⟨pb, po + n * 7 + 1, none⟩ = some (.slice (some ⟨sb, so, none⟩) p.right.length rc) ∧ W.cell? ⟨pb, po + m * 7, none⟩ = some (.int .i64 q.left) ∧
              W.cell? ⟨sb, so + k * 6, none⟩ = some (.int .i64 sy.kind) ∧ W.cell? ⟨sb, so + k * 6 + 1, none⟩ = some (.int .u64 (wd sy.set 0)) ∧ W.cell? ⟨sb, so + k * 6 + 2, none⟩ = some (.int .u64 (wd sy.set 1)) ∧ W.cell? ⟨sb, so + k * 6 + 3, none⟩ = some (.int .u64 (wd sy.set 2)) ∧ W.cell? ⟨sb, so + k * 6 + 4, none⟩ = some (.int .u64 (wd sy.set 3)) ∧ W.cell? ⟨sb, so + k * 6 + 5, none⟩ = some (.int .i64 sy.sort) from fun W h => by
              have st : ∀ {b i : Nat} {u : Value}, w9.cell? ⟨b, i, none⟩ = some u → W.cell? ⟨b, i, none⟩ = some u := fun {b i u} hc => by
                have hlt : b < w9.heap.size := World.block_lt_of_cell? _ _ hc
                exact (World.cell?_of_block (h.block b hlt)).trans hc
              exact ⟨st (c9 g1), st (c9 x0), st (c9 x1), st (c9 x2), st (c9 v1), st (c9 v0), st (c9 s0), st (c9 s1), st (c9 s2), st (c9 s3), st (c9 s4), st (c9 s5)⟩)
            have HZ := Lib.hid (show ∀ W, Below w9.heap.size w9.drew W → w9.heap.size ≤ W.heap.size from fun W h => h.size)
            have hk0 : (0 : Int) ≤ (k : Int) := by omega
            have hk1 : (k : Int) < (p.right.length : Int) := by omega
            have hwk : IntKind.i64.wrap (k : Int) = (k : Int) := IntWalk.i64_in _ (by omega)
            have hwk2 : IntKind.i64.wrap ((k : Int) + 1 - 1) = (k : Int) := by rw [show (k : Int) + 1 - 1 = k by omega]; exact hwk
            have T9 := Lib.hid (And.intro hb9 (And.intro hX9 (And.intro hB9 (And.intro hM9 hz9))))
            clear hb9 hX9 hB9 hM9 hz9 c9 hw9 x0 x1 x2 g1 v1 v0 s0 s1 s2 s3 s4 s5 hlk2 hpk
            refine wp_region_conc 13 (fbR w.heap.size tb pb po sb so n k g.prods.length pc p.right.length rc w9.heap.size sy) (fun A W => Below A.heap.size A W) (fun _ _ => True) (by kernel_rfl) (by kernel_rfl) (by kernel_rfl) (by kernel_rfl) (Below.refl _ _) trivial (fun h k => h.trans (k.mono h.size)) ?_ ?_
            · simp only [List.take_succ_cons, List.take_zero]
              refine ⟨?_, ?_, ?_, ?_, ?_, ?_, ?_, ?_, ?_, ?_, ?_, ?_, ?_, trivial⟩
              · intro L T W hG hJ hLs hLi hdeps hframe hvals K hK
                have h1 := hframe 1 (by decide)
                simp at h1
                go_simp
                exact hK _ _ (Below.refl _ W) (fun j u _ _ _ h => h) trivial rfl
              · intro L T W hG hJ hLs hLi hdeps hframe hvals K hK
                have h1 := hvals ⟨0, .data⟩ (by simp) rfl 59 rfl
                simp only [fbR] at h1
                simp at h1
                obtain ⟨f0, f1, f2, f3, f4, f5, f6, f7, f8, f9, f10, f11⟩ := HF.out W hG
                go_simp
                exact hK _ _ (Below.refl _ W) (fun j u _ _ _ h => h) trivial rfl
              · intro L T W hG hJ hLs hLi hdeps hframe hvals K hK
                have h1 := hframe 6 (by decide)
                simp at h1
                go_simp
                exact hK _ _ (Below.refl _ W) (fun j u _ _ _ h => h) trivial rfl
              · intro L T W hG hJ hLs hLi hdeps hframe hvals K hK
                have h1 := hvals ⟨2, .data⟩ (by simp) rfl 61 rfl
                simp only [fbR] at h1
                simp at h1
                obtain ⟨f0, f1, f2, f3, f4, f5, f6, f7, f8, f9, f10, f11⟩ := HF.out W hG
                go_simp
                exact hK _ _ (Below.refl _ W) (fun j u _ _ _ h => h) trivial rfl
              · intro L T W hG hJ hLs hLi hdeps hframe hvals K hK
                have h1 := hvals ⟨1, .data⟩ (by simp) rfl 60 rfl
                have h2 := hvals ⟨3, .data⟩ (by simp) rfl 62 rfl
                simp only [fbR] at h1 h2
                simp at h1 h2
                go_simp
                exact hK _ _ (Below.refl _ W) (fun j u _ _ _ h => h) trivial rfl
              · intro L T W hG hJ hLs hLi hdeps hframe hvals K hK
                have h1 := hvals ⟨4, .data⟩ (by simp) rfl 63 rfl
                simp only [fbR] at h1
                simp at h1
                go_simp
                exact hK _ _ (Below.refl _ W) (fun j u _ _ _ h => h) trivial rfl
              · intro L T W hG hJ hLs hLi hdeps hframe hvals K hK
                have h1 := hvals ⟨5, .data⟩ (by simp) rfl 64 rfl
                simp only [fbR] at h1
                simp at h1
                obtain ⟨f0, f1, f2, f3, f4, f5, f6, f7, f8, f9, f10, f11⟩ := HF.out W hG
                go_simp
                exact hK _ _ (Below.refl _ W) (fun j u _ _ _ h => h) trivial rfl
              · intro L T W hG hJ hLs hLi hdeps hframe hvals K hK
                have h1 := hframe 6 (by decide)
                simp at h1
                go_simp
                exact hK _ _ (Below.refl _ W) (fun j u _ _ _ h => h) trivial rfl
              · intro L T W hG hJ hLs hLi hdeps hframe hvals K hK
                have h1 := hvals ⟨7, .data⟩ (by simp) rfl 66 rfl
                simp only [fbR] at h1
                simp at h1
                obtain ⟨f0, f1, f2, f3, f4, f5, f6, f7, f8, f9, f10, f11⟩ := HF.out W hG
                go_simp
                exact hK _ _ (Below.refl _ W) (fun j u _ _ _ h => h) trivial rfl
              · intro L T W hG hJ hLs hLi hdeps hframe hvals K hK
                have h1 := hvals ⟨8, .data⟩ (by simp) rfl 67 rfl
                simp only [fbR] at h1
                simp at h1
                go_simp
                exact hK _ _ (Below.refl _ W) (fun j u _ _ _ h => h) trivial rfl
              · intro L T W hG hJ hLs hLi hdeps hframe hvals K hK
                have h1 := hvals ⟨6, .data⟩ (by simp) rfl 65 rfl
                have h2 := hvals ⟨9, .data⟩ (by simp) rfl 68 rfl
                simp only [fbR] at h1 h2
                simp at h1 h2
                go_simp
                exact hK _ _ (Below.refl _ W) (fun j u _ _ _ h => h) trivial rfl
              · intro L T W hG hJ hLs hLi hdeps hframe hvals K hK
                have h1 := hvals ⟨10, .data⟩ (by simp) rfl 69 rfl
                simp only [fbR] at h1
                simp at h1
                obtain ⟨f0, f1, f2, f3, f4, f5, f6, f7, f8, f9, f10, f11⟩ := HF.out W hG
                go_simp
                exact hK _ _ (Below.refl _ W) (fun j u _ _ _ h => h) trivial rfl
              · intro L T W hG hJ hLs hLi hdeps hframe hvals K hK
                go_simp
                have hbn := (Below.refl W.heap.size W).alloc (Nat.le_refl _) (.cells #[.int .i64 0, .int .u64 0, .int .u64 0, .int .u64 0, .int .u64 0, .int .i64 0] 28)
                exact hK _ _ hbn (fun j u _ _ _ h => fbR_stab _ _ _ _ _ _ _ _ _ _ _ _ _ _ j u _ _ h hbn) trivial ⟨_, rfl, Blk.new W _ _, HZ.out W hG⟩
            · intro f9 W5 hG _ hR
              have e11 := hR 11 70 (by decide) rfl
              obtain ⟨yb, e12, k9, k10⟩ := hR 12 7 (by decide) rfl
              simp only [concDsts, List.take_succ_cons, List.take_zero, List.drop_succ_cons, List.drop_zero, List.filterMap_cons, List.filterMap_nil, List.foldl_cons, List.foldl_nil, List.setIfInBounds_toArray, List.set_cons_zero, List.set_cons_succ]
              simp only [fbR] at e11
              rw [e11, e12]
              clear e11 e12 hR
              generalize f9 59 = v59
              generalize f9 60 = v60
              generalize f9 61 = v61
              generalize f9 62 = v62
              generalize f9 63 = v63
              generalize f9 64 = v64
              generalize f9 65 = v65
              generalize f9 66 = v66
              generalize f9 67 = v67
              generalize f9 68 = v68
              generalize f9 69 = v69
              clear f9
              have hbz : Below w9.heap.size W5 ((((((W5.setCell ⟨yb, 0, none⟩ (.int .i64 sy.kind)).setCell ⟨yb, 1, none⟩ (.int .u64 (wd sy.set 0))).setCell ⟨yb, 2, none⟩ (.int .u64 (wd sy.set 1))).setCell ⟨yb, 3, none⟩ (.int .u64 (wd sy.set 2))).setCell ⟨yb, 4, none⟩ (.int .u64 (wd sy.set 3))).setCell ⟨yb, 5, none⟩ (.int .i64 sy.sort)) := (((((((Below.refl _ _).setCell k10 _).setCell k10 _).setCell k10 _).setCell k10 _).setCell k10 _).setCell k10 _)
              have hYz : Blk ((((((W5.setCell ⟨yb, 0, none⟩ (.int .i64 sy.kind)).setCell ⟨yb, 1, none⟩ (.int .u64 (wd sy.set 0))).setCell ⟨yb, 2, none⟩ (.int .u64 (wd sy.set 1))).setCell ⟨yb, 3, none⟩ (.int .u64 (wd sy.set 2))).setCell ⟨yb, 4, none⟩ (.int .u64 (wd sy.set 3))).setCell ⟨yb, 5, none⟩ (.int .i64 sy.sort)) yb 28 #[.int .i64 sy.kind, .int .u64 (wd sy.set 0), .int .u64 (wd sy.set 1), .int .u64 (wd sy.set 2), .int .u64 (wd sy.set 3), .int .i64 sy.sort] := ((((((k9.set_ 0 _).set_ 1 _).set_ 2 _).set_ 3 _).set_ 4 _).set_ 5 _)
              have y0 := k9.cell 0
              have y1 := k9.cell 1
              have y2 := k9.cell 2
              have y3 := k9.cell 3
              have y4 := k9.cell 4
              have y5 := k9.cell 5
              have yz := k9.frozen
              simp at y0 y1 y2 y3 y4 y5
              have HGz := Lib.hid (And.intro hG (And.intro hbz hYz))
              clear hbz hYz hG
              go_upto_region 10 with fail
              have hG := HGz.out.1
              have hbz := HGz.out.2.1
              have hYz := HGz.out.2.2
              generalize ((((((W5.setCell ⟨yb, 0, none⟩ (.int .i64 sy.kind)).setCell ⟨yb, 1, none⟩ (.int .u64 (wd sy.set 0))).setCell ⟨yb, 2, none⟩ (.int .u64 (wd sy.set 1))).setCell ⟨yb, 3, none⟩ (.int .u64 (wd sy.set 2))).setCell ⟨yb, 4, none⟩ (.int .u64 (wd sy.set 3))).setCell ⟨yb, 5, none⟩ (.int .i64 sy.sort)) = wz at hbz hYz ⊢
              have hGz : Below w9.heap.size w9.drew wz := (show Below w9.heap.size w9.drew W5 from hG).trans hbz
              have hb9z : Below w9.heap.size w9 wz := (show Below w9.heap.size w9 w9.drew from (Below.refl _ _).drew).trans hGz
              have z0 := hYz.cell 0
              have z5 := hYz.cell 5
              simp at z0 z5
              obtain ⟨f0, f1, f2, f3, f4, f5, f6, f7, f8, f9, f10, f11⟩ := HF.out wz hGz
              have T10 := Lib.hid (And.intro (T9.out.1.trans (hb9z.mono T9.out.1.size)) (And.intro (T9.out.2.2.2.1.below hb9z T9.out.2.2.2.1.lt) (And.intro (T9.out.2.2.1.below hb9z T9.out.2.2.1.lt) (Nat.le_trans T9.out.2.2.2.2 hb9z.size))))
              have hbR2 : ∀ k, Below w.heap.size w (wz.drewN k) := fun k => below_drewN T10.out.1 k
              have HbR2 := Lib.hid hbR2
              clear hbR2 hG hbz hYz hGz hb9z y0 y1 y2 y3 y4 y5 yz k9 k10 f2 f4 f6 f7 f8 f9 f10 f11
              rcases HREST.out with ⟨hh, c1⟩ | ⟨hh, c1, c2⟩ | ⟨hh, c1, c2⟩
              · have HV := Lib.hid (HR.out.2.2.2.2.2.2.2.2.1 hh)
                have hd1 : decide (sy.kind = 1) = false := decide_eq_false c1
                have hd2 : (sy.kind != 1) = true := by simpa using c1
                clear hh
                go_quiet (fail)
                go_wp2_with fail
                go_ret
                exact ⟨by rw [HV.out]; rfl, HbR2.out _⟩
              · have HV := Lib.hid (HR.out.2.2.2.2.2.2.2.2.1 hh)
                clear hh
                rw [c1] at z0
                go_quiet (fail)
                go_wp2_with fail
                go_ret
                exact ⟨by rw [HV.out]; rfl, HbR2.out _⟩
              · have HV := Lib.hid hh
                have hnm := HR.out.2.2.2.2.2.1.1 rfl
                have HD := Lib.hid hnm
                clear hh hnm
                rw [c1] at z0
                rw [c2] at z5
                go_quiet (fail)
                go_wp2_with fail
                go_roundg (g.forbid.length - (i + 1))
                case measure => have := HR.out.1; omega
                case rel =>
                  have htk : g.forbid.take (i + 1) = g.forbid.take i ++ [((n : Int), (k : Int) + 1, (m : Int))] := by rw [List.take_add_one, HR.out.2.2.2.2.1]; rfl
                  refine ⟨i + 1, _, by omega, rfl, rfl, T10.out.2.1.drewN _, fun t ht => ?_, HbR2.out _, T10.out.2.2.2, T10.out.2.2.1.drewN _, ?_, fun t ht => ?_⟩
                  · by_cases e : t = ((n : Int), (k : Int) + 1, (m : Int))
                    · rw [e, putV_same _ _ ((Keyed.of_law fbLaw).key (keyOf_fb _ HR.out.2.2.2.2.2.2.2.2.2.2.1)), htk, if_pos (by simp)]
                      rfl
                    · rw [putV_other _ _ (fun h => e (keyB_inj ht HR.out.2.2.2.2.2.2.2.2.2.2.1 h)), HR.out.2.1 t ht, htk]
                      by_cases e2 : t ∈ g.forbid.take i
                      · rw [if_pos e2, if_pos (List.mem_append_left _ e2)]
                      · rw [if_neg e2, if_neg (fun h => (List.mem_append.1 h).elim e2 (fun h => e (by simpa using h)))]
                  · rw [htk, List.nodup_append]
                    exact ⟨HR.out.2.2.2.2.2.2.1, by simp, fun a ha b hb => by simp at hb; subst hb; exact fun e => HD.out (e ▸ ha)⟩
                  · rw [htk] at ht
                    rcases List.mem_append.1 ht with ht | ht
                    · exact HR.out.2.2.2.2.2.2.2.1 t ht
                    · simp at ht; subst ht; exact HV.out
      · have hmem : (fp, fa, fc) ∈ g.forbid.take i := Classical.byContradiction fun h => hcz (HR.out.2.2.2.2.2.1.2 h)
        have HV := Lib.hid (HR.out.2.2.2.2.2.2.2.2.2.1 hmem)
        have hc1 : cn = 1 := by omega
        subst hc1
        clear hmem
        go_quiet (fail)
        go_wp2_with fail
        go_ret
        exact ⟨by rw [HV.out]; rfl, HbR.out _⟩
    · obtain rfl : i = g.forbid.length := by omega
      rw [List.take_length] at hnd heach
      have hv : forbidsB g = true := by
        unfold forbidsB
        rw [decide_eq_true hnd, List.all_eq_true.2 heach]
        rfl
      have HR := Lib.hid (And.intro hb hv)
      clear hb hB hM hf hm hnd heach hv hz
      go_wp2_with fail
      go_ret
      exact ⟨by rw [HR.out.2]; rfl, HR.out.1⟩
end Go.Proofs.YtknpkndiflodbaaGreatDoor.Tb
