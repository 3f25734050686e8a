/-
  WALKS: maker.lead, behind its first loop.
-/
import Derived.Test.YtknpkndiflodbaaGreatDoorTbLead1A
import Derived.Test.YtknpkndiflodbaaGreatDoorTbSetsA
import Derived.Test.YtknpkndiflodbaaGreatDoorTbLead3
import Derived.Deep.RegionHeld3
set_option linter.unusedVariables false
set_option linter.unusedSimpArgs false
namespace Go.Proofs.YtknpkndiflodbaaGreatDoor.Tb
open Go Go.RowKit Go.Proofs Go.Maps Mx Go.Shelf
set_option maxRecDepth 100000 in
set_option maxHeartbeats 16000000 in
theorem lead_two (g : Gr) (hg : Good g) (B mb bm : Nat) (sm : List SM) (n : Nat) (s : SM) (hn : sm[n]? = some s) (hs : Bare s) (w : World) (hm : MkW g B mb bm sm w) (hT : ∀ W', KeepM mb bm w W' → Bru W') (hLB : LB ≤ B)
    (hsrt : ∀ (c : Nat) (o : List Int) (v : Value) (W : World), o.length ≤ 1000000 → W.ownsRow c 3 1 v o.length (flatK encI o) → Calls Tryz.prog 68 #[v] W fun e W' => e = .returned (.tuple #[]) ∧ W'.ownsRow c 3 1 v o.length (flatK encI (o.foldr insInt [])) ∧ W.grownBy W' v.ownBlock)
    (ia : Option Addr) (ic : Nat) (hvi : s.vi = .slice ia s.items.length ic)
    (W : World) (D : Nat) (hI : LeadI w.heap.size (w.heap.size + 6) w (aheadL g s.items) W) (hK : W.heap[D]? = some (.deferred (some []))) (hD : w.heap.size ≤ D) {u20 u21 u22 u23 u24 u25 u26 u27 u28 u29 u30 u31 : Value}
    (c : Code) (hc : (Tryz.f36.body.map (dropSeq 5)) = some c) :
    c.wp Tryz.prog (PostL Tryz.prog Tryz.f36 (Led g B mb bm sm n s w)) { tmps := #[.pointer (some ⟨mb, 0, none⟩), .int .i64 (n : Int), undef, undef, .slice ia s.items.length ic, .pointer (some ⟨w.heap.size + 1, 0, none⟩), .pointer (some ⟨w.heap.size + 1 + 1, 0, none⟩), .pointer (some ⟨w.heap.size + 1 + 1 + 1, 0, none⟩), undef, undef, undef, undef, undef, undef, undef, undef, undef, undef, undef, undef, u20, u21, u22, u23, u24, u25, u26, u27, u28, u29, u30, u31, undef, undef, undef, undef, undef, undef, undef, undef, undef, undef, undef, undef, undef, undef, undef, undef, undef, undef, undef, undef, undef, undef, undef, undef, undef, undef, undef, undef, undef, undef, undef, undef, undef, undef, undef, undef, undef, undef, undef, undef, undef, undef, undef, undef, undef, undef, undef, undef, undef, undef, undef, undef, undef, undef, undef, undef, undef, undef, undef, undef, undef, undef, undef, undef, undef, undef, undef, undef, undef, undef, undef, undef, undef, undef, undef, undef, undef, undef, undef, undef, undef, undef, undef, undef, undef, undef, undef, undef, undef, undef, undef, undef, undef, undef, undef, undef, undef, undef, undef, undef, undef, undef, undef, undef, undef, undef, undef, undef, undef, undef, undef, undef, undef, undef, undef, undef, undef, undef, undef, undef, undef, undef, undef, undef, undef, undef, undef, undef, undef, undef, undef, undef, undef, undef, undef, undef, undef, undef, undef, undef, undef, undef, undef, undef, undef, undef, undef, undef, undef, undef, undef, undef, undef, undef, undef], defers := { target := .collected D, args := #[] } :: [] } W := by
  have ec : (Tryz.f36.body.map (dropSeq 5)) = some _ := rfl
  rw [ec] at hc
  injection hc with hc
  subst hc
  clear ec
  have hHb := hI.below
  have hMW : MkW g B mb bm sm W := hm.below hHb
  obtain ⟨f, gv, g1, g2, g3, g4⟩ := hI.grp
  obtain ⟨v6, o1, o2⟩ := hI.ord
  obtain ⟨vs, s1, s2⟩ := hI.of
  obtain ⟨oa, oc, rfl⟩ := own_shape o2
  obtain ⟨sa, sc, rfl⟩ := own_shape s2
  have b6 := o1.cell 0
  simp at b6
  have hse := hm.each s (List.mem_of_getElem? hn)
  have hilen := hse.len
  have hLl := aheadL_len g s.items
  have hoL := ordL_len (aheadL g s.items) []
  have hoL2 : (ordL (aheadL g s.items)).length ≤ 100000 := by have : ([] : List Int).length = 0 := rfl; unfold ordL; omega
  have hDl := (Array.getElem?_eq_some_iff.1 hK).1
  have hsr := hsrt _ _ _ W (by omega) o2
  have HM := Lib.hid (And.intro hm (And.intro hg (And.intro hs (And.intro hse (And.intro hvi (And.intro hn (And.intro hT hLB)))))))
  have HD := Lib.hid (And.intro hI (And.intro hMW (And.intro hHb (And.intro hK (And.intro g1 (And.intro g2 (And.intro g3 (And.intro o1 (And.intro o2 (And.intro s1 (And.intro s2 (And.intro hD hDl))))))))))))
  clear hI hMW hHb hK g1 g2 g3 g4 o1 o2 s1 s2 hD hDl hsrt hm hg hs hse hvi hn hT hLB
  obtain ⟨dsL, hds⟩ : ∃ ds, ({ target := .collected D, args := #[] } :: [] : List Deferred) = ds := ⟨_, rfl⟩
  rw [hds]
  have HDS := Lib.hid hds
  clear hds
  simp only [dropSeq]
  go_wp2_with fail
  refine hsr.mono ?_
  rintro e w2 ⟨rfl, ho2, hg2⟩
  have hrg := fun r e => (HD.out.2.2.2.2.2.2.2.2.1.lt r e).1
  have hb02 : Below w.heap.size w w2 := HD.out.2.2.1.trans ⟨hg2.os, hg2.tape, hg2.output, hg2.size, fun q hq => hg2.block q (by have := HD.out.2.2.1.size; omega) (fun e => by have := hrg q e.symm; omega)⟩
  have hM2 : MkW g B mb bm sm w2 := HM.out.1.below hb02
  have x5 := HD.out.1.box.grown hg2 (blk_ne_row HD.out.1.box HD.out.2.2.2.2.2.2.2.2.1 (by decide))
  have x6 := HD.out.2.2.2.2.2.2.2.1.grown hg2 (blk_ne_row HD.out.2.2.2.2.2.2.2.1 HD.out.2.2.2.2.2.2.2.2.1 (by decide))
  have x7 := HD.out.2.2.2.2.2.2.2.2.2.1.grown hg2 (blk_ne_row HD.out.2.2.2.2.2.2.2.2.2.1 HD.out.2.2.2.2.2.2.2.2.1 (by decide))
  have x7r := HD.out.2.2.2.2.2.2.2.2.2.2.1.kept hg2 (row_ne_row HD.out.2.2.2.2.2.2.2.2.2.2.1 HD.out.2.2.2.2.2.2.2.2.1 (by decide))
  have xm := HD.out.2.2.2.2.1.grown hg2 (fun e => by have := hrg _ e.symm; omega)
  have xg : ∀ t, t ∈ ordL (aheadL g s.items) → w2.ownsRow (w.heap.size + 6) 53 2 (gv t) (grpL (aheadL g s.items) t).length (flatK encIt (grpL (aheadL g s.items) t)) := fun t ht => (HD.out.2.2.2.2.2.1 t ht).2.kept hg2 (row_ne_row (HD.out.2.2.2.2.2.1 t ht).2 HD.out.2.2.2.2.2.2.2.2.1 (by decide))
  have xD : w2.heap[D]? = some (.deferred (some [])) := by
    rw [hg2.block D HD.out.2.2.2.2.2.2.2.2.2.2.2.2 (fun e => by
      obtain ⟨_, c', fz, e3⟩ := own_ty HD.out.2.2.2.2.2.2.2.2.1 D e.symm
      rw [HD.out.2.2.2.1] at e3; injection e3 with e3; cases e3)]
    exact HD.out.2.2.2.1
  have hsz2 : w.heap.size + 6 ≤ w2.heap.size := Nat.le_trans HD.out.1.size hg2.size
  have x6c := x6.cell 0
  simp at x6c
  have hsl : ((ordL (aheadL g s.items)).foldr insInt []).length = (ordL (aheadL g s.items)).length := (sortInt_perm _).length_eq
  have hsm : ∀ t, t ∈ (ordL (aheadL g s.items)).foldr insInt [] → t ∈ ordL (aheadL g s.items) := fun t ht => (sortInt_perm _).mem_iff.1 ht
  have hfst := HD.out.2.2.2.2.2.1
  have H2 := Lib.hid (And.intro hb02 (And.intro hM2 (And.intro x5 (And.intro x6 (And.intro x7 (And.intro x7r (And.intro xm (And.intro xg (And.intro xD (And.intro ho2 (And.intro hsl (And.intro hsm hfst))))))))))))
  clear hrg hb02 hM2 x5 x6 x7 x7r xm xg xD ho2 hg2 b6 hsr hsm hfst
  obtain ⟨SO, hSO⟩ : ∃ SO, (ordL (aheadL g s.items)).foldr insInt [] = SO := ⟨_, rfl⟩
  rw [hSO] at hsl
  have HSO := Lib.hid hSO
  clear hSO
  obtain ⟨N, hN⟩ : ∃ N, (ordL (aheadL g s.items)).length = N := ⟨_, rfl⟩
  rw [hN] at hsl hoL2 x6c
  have HN := Lib.hid hN
  clear hN hoL
  go_wp2_with fail
  rename_i K8 hK8
  have HK8 := Lib.hid hK8
  clear hK8
  go_loopg [10, 67] N (fun m v10 v67 wr => ∃ (i : Nat) (sm' : List SM) (es : List (Sy × Nat)), i ≤ N ∧ m = N - i ∧ v67 = .int .i64 i ∧ LeadE g B mb bm sm w2 w2.heap.size ((SO.take i).map fun t => ((⟨1, 0, t⟩ : Sy), closedF g (grpL (aheadL g s.items) t))) sm' es v10 wr)
  case atStart =>
    exact ⟨0, sm, [], by omega, rfl, rfl, ⟨rfl, H2.out.2.1, KeepM.refl _ _ _, World.ownsRow_nil _ _ _ _, fun _ _ => rfl, (fun k x hk hx => (by rw [List.getElem?_eq_none hk] at hx; cases hx)), Nat.le_refl _, rfl, Nat.le_refl _⟩⟩
  case round =>
    obtain ⟨i, sm', es, hi, hm, rfl, hE⟩ := hrel
    obtain ⟨ea, ec, rfl⟩ := own_shape hE.row
    have A := Lib.hid (And.intro hm hE)
    clear hm hE
    by_cases hlt : i < N
    · obtain ⟨t, ht⟩ : ∃ t, SO[i]? = some t := ⟨_, List.getElem?_eq_getElem (by omega)⟩
      have htm : t ∈ ordL (aheadL g s.items) := H2.out.2.2.2.2.2.2.2.2.2.2.2.1 t (by rw [HSO.out]; exact List.mem_of_getElem? ht)
      have hro : w2.ownsRow (w.heap.size + 6) 3 1 (.slice oa (ordL (aheadL g s.items)).length oc) (ordL (aheadL g s.items)).length (flatK encI SO) := by rw [← HSO.out]; exact H2.out.2.2.2.2.2.2.2.2.2.1
      rw [HN.out] at hro
      have hmw : mb < w.heap.size := Nat.lt_of_lt_of_le HM.out.1.mlt HM.out.1.size
      have hbw : bm < w.heap.size := Nat.lt_of_lt_of_le HM.out.1.blt HM.out.1.size
      have hro2 := row_keepM A.out.2.keep hro (by decide) (by omega) (by omega)
      obtain ⟨og, oc', eo, _⟩ := own_some hro2 (by omega)
      injection eo with eo eo2 eo3
      subst eo
      subst eo3
      have ho1 : wr.cell? ⟨og, i, none⟩ = some (.int .i64 t) := by
        rw [hro2.cellAt i (by omega)]
        have := flatK_get encI_len SO i t 0 (.int .i64 t) ht rfl
        simpa using this
      have hgr := row_keepM A.out.2.keep (H2.out.2.2.2.2.2.2.2.1 t htm) (by decide) (by omega) (by omega)
      obtain ⟨va0, vc0, hv0⟩ := own_shape hgr
      rw [hv0] at hgr
      have hmap := map_keepM A.out.2.keep H2.out.2.2.2.2.2.2.1 (by omega) (by omega)
      have h5 := (blk_keepM A.out.2.keep H2.out.2.2.1 (by decide) (by omega) (by omega)).cell 0
      simp at h5
      have htr : 0 ≤ t ∧ t < 1000 := by
        have hne := (mem_ordL (aheadL g s.items) t).1 htm
        obtain ⟨y, hy⟩ := List.exists_mem_of_ne_nil _ hne
        unfold grpL at hy
        obtain ⟨q, hq, hq2⟩ := List.mem_filterMap.1 hy
        by_cases hk : q.2.kind = 1 ∧ q.2.sort = t
        · obtain ⟨x, hx, ha, _⟩ := mem_aheadL hq
          unfold aheadF rightOf at ha
          cases hp : g.prods[x.1]? with
          | none => rw [hp] at ha; simp at ha
          | some p =>
            rw [hp] at ha
            have h1 := HM.out.2.1.sym p (List.mem_of_getElem? hp) q.2 (List.mem_of_getElem? ha)
            have h2 := HM.out.2.1.sorts
            rcases h1 with h1 | h1
            · exact absurd (h1.1.symm.trans hk.1) (by decide)
            · omega
        · rw [if_neg hk] at hq2; cases hq2
      have hKey : keyOf Tryz.prog 3 (.int .i64 t) = some (.int .i64 t) := keyOf_int_mk Tryz.underlying3 (by simp [Lit.wf, IntKind.min, IntKind.max, IntKind.bits, IntKind.signed]; omega)
      have hlk : (Instr.lookup 136 (.map (some w.heap.size)) (.int .i64 t) false).run Tryz.prog wr = .ok (.slice va0 (grpL (aheadL g s.items) t).length vc0) wr := by
        have h := hmap.lookup (int_keyed Tryz.underlying3) Tryz.underlying136 (Tryz.zeroValue50 wr) hKey
        rw [(H2.out.2.2.2.2.2.2.2.2.2.2.2.2 t htm).1, hv0] at h
        exact h
      have hgl := grpL_len (aheadL g s.items) t
      have hgok : ∀ x ∈ grpL (aheadL g s.items) t, itemOk g x = true := fun x hx => by
        unfold grpL at hx
        obtain ⟨q, hq, hq2⟩ := List.mem_filterMap.1 hx
        by_cases hk : q.2.kind = 1 ∧ q.2.sort = t
        · rw [if_pos hk] at hq2; injection hq2 with hq2; rw [← hq2]; exact aheadL_ok hq
        · rw [if_neg hk] at hq2; cases hq2
      have hnum := number_lead HM.out.2.1 A.out.2 _ (grpL (aheadL g s.items) t) hgok (by omega) _ (own_sliceK encIt_len hgr)
      have htk : (SO.take (i + 1)).map (fun t => ((⟨1, 0, t⟩ : Sy), closedF g (grpL (aheadL g s.items) t))) = (SO.take i).map (fun t => ((⟨1, 0, t⟩ : Sy), closedF g (grpL (aheadL g s.items) t))) ++ [((⟨1, 0, t⟩ : Sy), closedF g (grpL (aheadL g s.items) t))] := by rw [List.take_add_one, ht]; simp
      have hi0 : (0 : Int) ≤ (i : Int) := by omega
      have hi1 : (i : Int) < (N : Int) := by omega
      have R := Lib.hid (And.intro htk (And.intro hnum hgok))
      have hnum2 := hnum
      clear htk hnum hgok hgr hmap hKey hro hro2 ht htm hv0 htr
      go_wp2_with fail
      refine hnum2.mono ?_
      clear hnum2
      rintro e w3 (⟨q, sm3, rfl, hok⟩ | ⟨rfl, hfull, hk3, hk3r⟩)
      · have hrow3 : w3.ownsRow w2.heap.size 125 7 (.slice ea es.length ec) es.length (flatK encEd es) := row_keepM hok.keepr A.out.2.row (by decide) (by omega) (by omega)
        have hk23 := hok.keep
        have hel : es.length ≤ i := by have h := A.out.2.len; simp only [List.length_map, List.length_take] at h; omega
        have hE3 := Lib.hid (And.intro hok hrow3)
        have hsz3 : w2.heap.size ≤ w3.heap.size := hk23.size
        clear hok hrow3 hk23
        obtain ⟨i0, hi, hz0, hz1, hz2⟩ := info_parts infoEdge
        go_wp2_with (at_builtin; go_loud (refine wpList_append_own _ rfl _ _ 102 rfl w2.heap.size 125 i0 (.agg #[.int .i64 0, .int .u64 0, .int .u64 0, .int .u64 0, .int .u64 0, .int .i64 0, .int .i64 0]) 7 56 Tryz.underlying102 hi hz0 hz1 hz2 rfl (by decide) _ es.length _ rfl (hE3.out.2.alloc _) ⟨w3.heap.size, 0, none⟩ 1 1 (edgeC 1 0 0 0 0 t q) rfl rfl ?c1 ?c2 ?c3 ?c4 ?c5 ?_))
        case c1 => exact edge_cells w3 1 0 0 0 0 t q
        case c2 => exact edgeC_one 1 0 0 0 0 t q
        case c3 => unfold maxLen; omega
        case c4 => omega
        case c5 => first | omega | (simp; omega)
        intro v' w5 hown5 hg5 _
        have hgw : w3.grownBy w5 (Value.slice ea es.length ec).ownBlock := World.grownBy.trans (World.grownBy_alloc _ _ _) hg5
        have hBw : B ≤ w2.heap.size := H2.out.2.1.size
        have hkw5 : KeepM mb bm w2 w5 := hE3.out.1.keep.grownNew hgw (fun r e => (hE3.out.2.lt r e).1)
        have hmk5 := hE3.out.1.mkw.edgeGrown H2.out.2.1.each hE3.out.1.old hE3.out.1.new hkw5 hE3.out.2 hBw hgw
        have hst := A.out.2.step (Nat.le_refl _) hE3.out.1.num hE3.out.1.mkw hE3.out.1.keep hE3.out.1.old hE3.out.1.new hE3.out.1.more hE3.out.2 hgw (by rw [← edgeC_sort]; exact hown5) hmk5 (Nat.le_trans hsz3 hgw.size)
        rw [← R.out.1] at hst
        have F := Lib.hid hst
        clear hown5 hg5 hgw hkw5 hmk5 hst
        go_wp2_with fail
        go_roundg (N - (i + 1))
        case measure => have := A.out.1; omega
        case rel => exact ⟨i + 1, sm3, _, by omega, rfl, rfl, F.out⟩
      · have hnone : numbersF (sm.map (·.items)) (leadsF g s.items) = none := by
          unfold leadsF
          rw [sortsOf_ahead, HSO.out]
          refine numbersF_none_append _ _ _ ?_
          have e1 : (SO.map fun t => ((⟨1, 0, t⟩ : Sy), closedF g (movedSort g s.items t))) = (SO.take (i + 1)).map (fun t => ((⟨1, 0, t⟩ : Sy), closedF g (grpL (aheadL g s.items) t))) ++ (SO.drop (i + 1)).map (fun t => ((⟨1, 0, t⟩ : Sy), closedF g (grpL (aheadL g s.items) t))) := by
            rw [← List.map_append, List.take_append_drop]
            simp only [movedSort_ahead]
          rw [e1, R.out.1]
          exact numbersF_none_append _ _ _ (A.out.2.full hfull)
        have hkw : KeepM mb bm w w3 := (KeepM.of H2.out.1).trans hk3
        have hDm : w3.heap[D]? = some (.deferred (some [])) := mark_keepM hk3 H2.out.2.2.2.2.2.2.2.2.1 (by have := HD.out.2.2.2.2.2.2.2.2.2.2.2.1; omega) (by have := HD.out.2.2.2.2.2.2.2.2.2.2.2.1; omega)
        refine ⟨[D], HDS.out.symm, (MarksAt.nil w3).cons hDm (by simp), fun w' hs => .inr ⟨hnone, rfl, hkw.shut hs (fun d hd => by rw [List.mem_singleton] at hd; rw [hd]; exact HD.out.2.2.2.2.2.2.2.2.2.2.2.1)⟩⟩
    · obtain rfl : i = N := by omega
      go_wp2_with fail
      refine HK8.out _ _ ?_
      have hE := A.out.2
      have hSN : SO.length = i := by
        have h1 := (sortInt_perm (ordL (aheadL g s.items))).length_eq
        rw [HSO.out] at h1
        rw [h1, HN.out]
      have htk : SO.take i = SO := by rw [← hSN, List.take_length]
      rw [htk] at hE
      have hlen : i ≤ 10000 := by
        have h1 := ordL_len (aheadL g s.items) []
        have h2 := aheadL_len g s.items
        have h3 := HM.out.2.2.2.1.len
        have h4 := HN.out
        unfold ordL at h4
        simp only [List.length_nil, Nat.zero_add] at h1
        omega
      have xD := H2.out.2.2.2.2.2.2.2.2.1
      rw [← HDS.out]
      exact lead_three g HM.out.2.1 B mb bm sm n s HM.out.2.2.2.2.2.1 HM.out.2.2.1 w HM.out.1 HM.out.2.2.2.2.2.2.1 HM.out.2.2.2.2.2.2.2 ia ic HM.out.2.2.2.2.1 w2 H2.out.1 (SO.map fun t => ((⟨1, 0, t⟩ : Sy), closedF g (grpL (aheadL g s.items) t))) (fun x hx => by
          obtain ⟨t, _, rfl⟩ := List.mem_map.1 hx
          show (1 : Int) ≠ 0
          decide) (by rw [List.length_map]; omega) (by rw [leads_ahead, HSO.out]) sm' es _ wr hE sa sc H2.out.2.2.2.2.1 H2.out.2.2.2.2.2.1 D xD HD.out.2.2.2.2.2.2.2.2.2.2.2.1 (Array.getElem?_eq_some_iff.1 xD).1 _ rfl
end Go.Proofs.YtknpkndiflodbaaGreatDoor.Tb
