/- Walks and plain laws that the last text stands on: TbLead2, TbSortI, TbLead. -/
import Derived.Test.YtknpkndiflodbaaGreatDoorTs12
import Derived.Test.YtknpkndiflodbaaGreatDoorTs6
import Derived.Test.YtknpkndiflodbaaGreatDoorTs14
import Derived.Deep.RegionHeld3
import Derived.Test.YtknpkndiflodbaaGreatDoorTs11
import Derived.Test.YtknpkndiflodbaaGreatDoorTs8
set_option linter.unusedVariables false
set_option linter.unusedSimpArgs false
set_option maxRecDepth 100000
set_option maxHeartbeats 16000000
namespace Go.Proofs.YtknpkndiflodbaaGreatDoor.Tb
open Go Go.RowKit Go.Proofs Go.Maps Mx Go.Shelf
theorem lead_two (g : Gr) (hg : Good g) (B mb bm : Nat) (sm : List SM) (n : Nat) (s : SM) (hn : sm[n]? = some s) (hs : Bare s) (w : World) (hm : MkW g B mb bm sm w) (hT : ∀ W', KeepM mb bm w W' -> Bru W') (hLB : LB <= B)
  (hsrt : ∀ (c : Nat) (o : List Int) (v : Value) (W : World), o.length <= 1000000 -> W.ownsRow c 3 1 v o.length (flatK encI o) -> Calls Tryz.prog 68 #[v] W fun e W' => e = .returned (.tuple #[]) /\ W'.ownsRow c 3 1 v o.length (flatK encI (o.foldr insInt [])) /\ W.grownBy W' v.ownBlock)
  (ia : Option Addr) (ic : Nat) (hvi : s.vi = .slice ia s.items.length ic)
  (W : World) (D : Nat) (hI : LeadI w.heap.size (w.heap.size + 6) w (aheadL g s.items) W) (hK : W.heap[D]? = some (.deferred (some []))) (hD : w.heap.size <= D) {u20 u21 u22 u23 u24 u25 u26 u27 u28 u29 u30 u31 : Value}
  (c : Code) (hc : (Tryz.f36.body.map (dropSeq 5)) = some c) :
  c.wp Tryz.prog (PostL Tryz.prog Tryz.f36 (Led g B mb bm sm n s w)) { tmps := #[.pointer (some ⟨mb, 0, none⟩), .int .i64 (n : Int), undef, undef, .slice ia s.items.length ic, .pointer (some ⟨w.heap.size + 1, 0, none⟩), .pointer (some ⟨w.heap.size + 1 + 1, 0, none⟩), .pointer (some ⟨w.heap.size + 1 + 1 + 1, 0, none⟩), undef, undef, undef, undef, undef, undef, undef, undef, undef, undef, undef, undef, u20, u21, u22, u23, u24, u25, u26, u27, u28, u29, u30, u31, undef, undef, undef, undef, undef, undef, undef, undef, undef, undef, undef, undef, undef, undef, undef, undef, undef, undef, undef, undef, undef, undef, undef, undef, undef, undef, undef, undef, undef, undef, undef, undef, undef, undef, undef, undef, undef, undef, undef, undef, undef, undef, undef, undef, undef, undef, undef, undef, undef, undef, undef, undef, undef, undef, undef, undef, undef, undef, undef, undef, undef, undef, undef, undef, undef, undef, undef, undef, undef, undef, undef, undef, undef, undef, undef, undef, undef, undef, undef, undef, undef, undef, undef, undef, undef, undef, undef, undef, undef, undef, undef, undef, undef, undef, undef, undef, undef, undef, undef, undef, undef, undef, undef, undef, undef, undef, undef, undef, undef, undef, undef, undef, undef, undef, undef, undef, undef, undef, undef, undef, undef, undef, undef, undef, undef, undef, undef, undef, undef, undef, undef, undef, undef, undef, undef, undef, undef, undef, undef, undef, undef, undef, undef, undef, undef, undef, undef, undef, undef, undef, undef, undef, undef, undef, undef], defers := { target := .collected D, args := #[] } :: [] } W := by
 have ec : (Tryz.f36.body.map (dropSeq 5)) = some _ := rfl
 rw [ec] at hc
 injection hc with hc
 subst hc
 clear ec
 have hHb := hI.below
 have hMW : MkW g B mb bm sm W := hm.below hHb
 obtain ⟨f, gv, g1, g2, g3, g4⟩ := hI.grp
 obtain ⟨v6, o1, o2⟩ := hI.ord
 obtain ⟨vs, s1, s2⟩ := hI.of
 obtain ⟨oa, oc, rfl⟩ := own_shape o2
 obtain ⟨sa, sc, rfl⟩ := own_shape s2
 have b6 := o1.cell 0
 simp at b6
 have hse := hm.each s (List.mem_of_getElem? hn)
 have hilen := hse.len
 have hLl := aheadL_len g s.items
 have hoL := ordL_len (aheadL g s.items) []
 have hoL2 : (ordL (aheadL g s.items)).length <= 100000 := by have : ([] : List Int).length = 0 := rfl; unfold ordL; omega
 have hDl := (Array.getElem?_eq_some_iff.1 hK).1
 have hsr := hsrt _ _ _ W (by omega) o2
 have HM := Hd (An hm (An hg (An hs (An hse (An hvi (An hn (An hT hLB)))))))
 have HD := Hd (An hI (An hMW (An hHb (An hK (An g1 (An g2 (An g3 (An o1 (An o2 (An s1 (An s2 (An hD hDl))))))))))))
 clear hI hMW hHb hK g1 g2 g3 g4 o1 o2 s1 s2 hD hDl hsrt hm hg hs hse hvi hn hT hLB
 obtain ⟨dsL, hds⟩ : ∃ ds, ({ target := .collected D, args := #[] } :: [] : List Deferred) = ds := ⟨_, rfl⟩
 rw [hds]
 have HDS := Hd hds
 clear hds
 simp only [dropSeq]
 go_wp2_with fail
 refine hsr.mono ?_
 rintro e w2 ⟨rfl, ho2, hg2⟩
 have hrg := fun r e => (HD.out.2.2.2.2.2.2.2.2.1.lt r e).1
 have hb02 : Below w.heap.size w w2 := HD.out.2.2.1.trans ⟨hg2.os, hg2.tape, hg2.output, hg2.size, fun q hq => hg2.block q (by have := HD.out.2.2.1.size; omega) (fun e => by have := hrg q e.symm; omega)⟩
 have hM2 : MkW g B mb bm sm w2 := HM.out.1.below hb02
 have x5 := HD.out.1.box.grown hg2 (blk_ne_row HD.out.1.box HD.out.2.2.2.2.2.2.2.2.1 (by decide))
 have x6 := HD.out.2.2.2.2.2.2.2.1.grown hg2 (blk_ne_row HD.out.2.2.2.2.2.2.2.1 HD.out.2.2.2.2.2.2.2.2.1 (by decide))
 have x7 := HD.out.2.2.2.2.2.2.2.2.2.1.grown hg2 (blk_ne_row HD.out.2.2.2.2.2.2.2.2.2.1 HD.out.2.2.2.2.2.2.2.2.1 (by decide))
 have x7r := HD.out.2.2.2.2.2.2.2.2.2.2.1.kept hg2 (row_ne_row HD.out.2.2.2.2.2.2.2.2.2.2.1 HD.out.2.2.2.2.2.2.2.2.1 (by decide))
 have xm := HD.out.2.2.2.2.1.grown hg2 (fun e => by have := hrg _ e.symm; omega)
 have xg : ∀ t, t ∈ ordL (aheadL g s.items) -> w2.ownsRow (w.heap.size + 6) 53 2 (gv t) (grpL (aheadL g s.items) t).length (flatK encIt (grpL (aheadL g s.items) t)) := fun t ht => (HD.out.2.2.2.2.2.1 t ht).2.kept hg2 (row_ne_row (HD.out.2.2.2.2.2.1 t ht).2 HD.out.2.2.2.2.2.2.2.2.1 (by decide))
 have xD : w2.heap[D]? = some (.deferred (some [])) := by
  rw [hg2.block D HD.out.2.2.2.2.2.2.2.2.2.2.2.2 (fun e => by
   obtain ⟨_, c', fz, e3⟩ := own_ty HD.out.2.2.2.2.2.2.2.2.1 D e.symm
   rw [HD.out.2.2.2.1] at e3; injection e3 with e3; cases e3)]
  exact HD.out.2.2.2.1
 have hsz2 : w.heap.size + 6 <= w2.heap.size := Nat.le_trans HD.out.1.size hg2.size
 have x6c := x6.cell 0
 simp at x6c
 have hsl : ((ordL (aheadL g s.items)).foldr insInt []).length = (ordL (aheadL g s.items)).length := (sortInt_perm _).length_eq
 have hsm : ∀ t, t ∈ (ordL (aheadL g s.items)).foldr insInt [] -> t ∈ ordL (aheadL g s.items) := fun t ht => (sortInt_perm _).mem_iff.1 ht
 have hfst := HD.out.2.2.2.2.2.1
 have H2 := Hd (An hb02 (An hM2 (An x5 (An x6 (An x7 (An x7r (An xm (An xg (An xD (An ho2 (An hsl (An hsm hfst))))))))))))
 clear hrg hb02 hM2 x5 x6 x7 x7r xm xg xD ho2 hg2 b6 hsr hsm hfst
 obtain ⟨SO, hSO⟩ : ∃ SO, (ordL (aheadL g s.items)).foldr insInt [] = SO := ⟨_, rfl⟩
 rw [hSO] at hsl
 have HSO := Hd hSO
 clear hSO
 obtain ⟨N, hN⟩ : ∃ N, (ordL (aheadL g s.items)).length = N := ⟨_, rfl⟩
 rw [hN] at hsl hoL2 x6c
 have HN := Hd hN
 clear hN hoL
 go_wp2_with fail
 rename_i K8 hK8
 have HK8 := Hd hK8
 clear hK8
 go_loopg [10, 67] N (fun m v10 v67 wr => ∃ (i : Nat) (sm' : List SM) (es : List (Sy × Nat)), i <= N /\ m = N - i /\ v67 = .int .i64 i /\ LeadE g B mb bm sm w2 w2.heap.size ((SO.take i).map fun t => ((⟨1, 0, t⟩ : Sy), closedF g (grpL (aheadL g s.items) t))) sm' es v10 wr)
 case atStart =>
  exact ⟨0, sm, [], by omega, rfl, rfl, ⟨rfl, H2.out.2.1, KeepM.refl _ _ _, World.ownsRow_nil _ _ _ _, fun _ _ => rfl, (fun k x hk hx => (by rw [List.getElem?_eq_none hk] at hx; cases hx)), Nat.le_refl _, rfl, Nat.le_refl _⟩⟩
 case round =>
  obtain ⟨i, sm', es, hi, hm, rfl, hE⟩ := hrel
  obtain ⟨ea, ec, rfl⟩ := own_shape hE.row
  have A := Hd (An hm hE)
  clear hm hE
  by_cases hlt : i < N
  ·obtain ⟨t, ht⟩ : ∃ t, SO[i]? = some t := ⟨_, List.getElem?_eq_getElem (by omega)⟩
   have htm : t ∈ ordL (aheadL g s.items) := H2.out.2.2.2.2.2.2.2.2.2.2.2.1 t (by rw [HSO.out]; exact List.mem_of_getElem? ht)
   have hro : w2.ownsRow (w.heap.size + 6) 3 1 (.slice oa (ordL (aheadL g s.items)).length oc) (ordL (aheadL g s.items)).length (flatK encI SO) := by rw [<- HSO.out]; exact H2.out.2.2.2.2.2.2.2.2.2.1
   rw [HN.out] at hro
   have hmw : mb < w.heap.size := Nat.lt_of_lt_of_le HM.out.1.mlt HM.out.1.size
   have hbw : bm < w.heap.size := Nat.lt_of_lt_of_le HM.out.1.blt HM.out.1.size
   have hro2 := row_keepM A.out.2.keep hro (by decide) (by omega) (by omega)
   obtain ⟨og, oc', eo, _⟩ := own_some hro2 (by omega)
   injection eo with eo eo2 eo3
   subst eo
   subst eo3
   have ho1 : wr.cell? ⟨og, i, none⟩ = some (.int .i64 t) := by
    rw [hro2.cellAt i (by omega)]
    have := flatK_get encI_len SO i t 0 (.int .i64 t) ht rfl
    simpa using this
   have hgr := row_keepM A.out.2.keep (H2.out.2.2.2.2.2.2.2.1 t htm) (by decide) (by omega) (by omega)
   obtain ⟨va0, vc0, hv0⟩ := own_shape hgr
   rw [hv0] at hgr
   have hmap := map_keepM A.out.2.keep H2.out.2.2.2.2.2.2.1 (by omega) (by omega)
   have h5 := (blk_keepM A.out.2.keep H2.out.2.2.1 (by decide) (by omega) (by omega)).cell 0
   simp at h5
   have htr : 0 <= t /\ t < 1000 := by
    have hne := (mem_ordL (aheadL g s.items) t).1 htm
    obtain ⟨y, hy⟩ := List.exists_mem_of_ne_nil _ hne
    unfold grpL at hy
    obtain ⟨q, hq, hq2⟩ := List.mem_filterMap.1 hy
    by_cases hk : q.2.kind = 1 /\ q.2.sort = t
    ·obtain ⟨x, hx, ha, _⟩ := mem_aheadL hq
     unfold aheadF rightOf at ha
     cases hp : g.prods[x.1]? with
     | none => rw [hp] at ha; simp at ha
     | some p =>
      rw [hp] at ha
      have h1 := HM.out.2.1.sym p (List.mem_of_getElem? hp) q.2 (List.mem_of_getElem? ha)
      have h2 := HM.out.2.1.sorts
      rcases h1 with h1 | h1
      ·exact absurd (h1.1.symm.trans hk.1) (by decide)
      ·omega
    ·rw [if_neg hk] at hq2; cases hq2
   have hKey : keyOf Tryz.prog 3 (.int .i64 t) = some (.int .i64 t) := keyOf_int_mk Tryz.underlying3 (by simp [Lit.wf, IntKind.min, IntKind.max, IntKind.bits, IntKind.signed]; omega)
   have hlk : (Instr.lookup 136 (.map (some w.heap.size)) (.int .i64 t) false).run Tryz.prog wr = .ok (.slice va0 (grpL (aheadL g s.items) t).length vc0) wr := by
    have h := hmap.lookup (int_keyed Tryz.underlying3) Tryz.underlying136 (Tryz.zeroValue50 wr) hKey
    rw [(H2.out.2.2.2.2.2.2.2.2.2.2.2.2 t htm).1, hv0] at h
    exact h
   have hgl := grpL_len (aheadL g s.items) t
   have hgok : ∀ x ∈ grpL (aheadL g s.items) t, itemOk g x = true := fun x hx => by
    unfold grpL at hx
    obtain ⟨q, hq, hq2⟩ := List.mem_filterMap.1 hx
    by_cases hk : q.2.kind = 1 /\ q.2.sort = t
    ·rw [if_pos hk] at hq2; injection hq2 with hq2; rw [<- hq2]; exact aheadL_ok hq
    ·rw [if_neg hk] at hq2; cases hq2
   have hnum := number_lead HM.out.2.1 A.out.2 _ (grpL (aheadL g s.items) t) hgok (by omega) _ (own_sliceK encIt_len hgr)
   have htk : (SO.take (i + 1)).map (fun t => ((⟨1, 0, t⟩ : Sy), closedF g (grpL (aheadL g s.items) t))) = (SO.take i).map (fun t => ((⟨1, 0, t⟩ : Sy), closedF g (grpL (aheadL g s.items) t))) ++ [((⟨1, 0, t⟩ : Sy), closedF g (grpL (aheadL g s.items) t))] := by rw [List.take_add_one, ht]; simp
   have hi0 : (0 : Int) <= (i : Int) := by omega
   have hi1 : (i : Int) < (N : Int) := by omega
   have R := Hd (An htk (An hnum hgok))
   have hnum2 := hnum
   clear htk hnum hgok hgr hmap hKey hro hro2 ht htm hv0 htr
   go_wp2_with fail
   refine hnum2.mono ?_
   clear hnum2
   rintro e w3 (⟨q, sm3, rfl, hok⟩ | ⟨rfl, hfull, hk3, hk3r⟩)
   ·have hrow3 : w3.ownsRow w2.heap.size 125 7 (.slice ea es.length ec) es.length (flatK encEd es) := row_keepM hok.keepr A.out.2.row (by decide) (by omega) (by omega)
    have hk23 := hok.keep
    have hel : es.length <= i := by have h := A.out.2.len; simp only [List.length_map, List.length_take] at h; omega
    have hE3 := Hd (An hok hrow3)
    have hsz3 : w2.heap.size <= w3.heap.size := hk23.size
    clear hok hrow3 hk23
    obtain ⟨i0, hi, hz0, hz1, hz2⟩ := info_parts infoEdge
    go_wp2_with (at_builtin; go_loud (refine wpList_append_own _ rfl _ _ 102 rfl w2.heap.size 125 i0 (.agg #[.int .i64 0, .int .u64 0, .int .u64 0, .int .u64 0, .int .u64 0, .int .i64 0, .int .i64 0]) 7 56 Tryz.underlying102 hi hz0 hz1 hz2 rfl (by decide) _ es.length _ rfl (hE3.out.2.alloc _) ⟨w3.heap.size, 0, none⟩ 1 1 (edgeC 1 0 0 0 0 t q) rfl rfl ?c1 ?c2 ?c3 ?c4 ?c5 ?_))
    case c1 => exact edge_cells w3 1 0 0 0 0 t q
    case c2 => exact edgeC_one 1 0 0 0 0 t q
    case c3 => unfold maxLen; omega
    case c4 => omega
    case c5 => first | omega | (simp; omega)
    intro v' w5 hown5 hg5 _
    have hgw : w3.grownBy w5 (Value.slice ea es.length ec).ownBlock := World.grownBy.trans (World.grownBy_alloc _ _ _) hg5
    have hBw : B <= w2.heap.size := H2.out.2.1.size
    have hkw5 : KeepM mb bm w2 w5 := hE3.out.1.keep.grownNew hgw (fun r e => (hE3.out.2.lt r e).1)
    have hmk5 := hE3.out.1.mkw.edgeGrown H2.out.2.1.each hE3.out.1.old hE3.out.1.new hkw5 hE3.out.2 hBw hgw
    have hst := A.out.2.step (Nat.le_refl _) hE3.out.1.num hE3.out.1.mkw hE3.out.1.keep hE3.out.1.old hE3.out.1.new hE3.out.1.more hE3.out.2 hgw (by rw [<- edgeC_sort]; exact hown5) hmk5 (Nat.le_trans hsz3 hgw.size)
    rw [<- R.out.1] at hst
    have F := Hd hst
    clear hown5 hg5 hgw hkw5 hmk5 hst
    go_wp2_with fail
    go_roundg (N - (i + 1))
    case measure => have := A.out.1; omega
    case rel => exact ⟨i + 1, sm3, _, by omega, rfl, rfl, F.out⟩
   ·have hnone : numbersF (sm.map (·.items)) (leadsF g s.items) = none := by
     unfold leadsF
     rw [sortsOf_ahead, HSO.out]
     refine numbersF_none_append _ _ _ ?_
     have e1 : (SO.map fun t => ((⟨1, 0, t⟩ : Sy), closedF g (movedSort g s.items t))) = (SO.take (i + 1)).map (fun t => ((⟨1, 0, t⟩ : Sy), closedF g (grpL (aheadL g s.items) t))) ++ (SO.drop (i + 1)).map (fun t => ((⟨1, 0, t⟩ : Sy), closedF g (grpL (aheadL g s.items) t))) := by
      rw [<- List.map_append, List.take_append_drop]
      simp only [movedSort_ahead]
     rw [e1, R.out.1]
     exact numbersF_none_append _ _ _ (A.out.2.full hfull)
    have hkw : KeepM mb bm w w3 := (KeepM.of H2.out.1).trans hk3
    have hDm : w3.heap[D]? = some (.deferred (some [])) := mark_keepM hk3 H2.out.2.2.2.2.2.2.2.2.1 (by have := HD.out.2.2.2.2.2.2.2.2.2.2.2.1; omega) (by have := HD.out.2.2.2.2.2.2.2.2.2.2.2.1; omega)
    refine ⟨[D], HDS.out.symm, (MarksAt.nil w3).cons hDm (by simp), fun w' hs => .inr ⟨hnone, rfl, hkw.shut hs (fun d hd => by rw [List.mem_singleton] at hd; rw [hd]; exact HD.out.2.2.2.2.2.2.2.2.2.2.2.1)⟩⟩
  ·obtain rfl : i = N := by omega
   go_wp2_with fail
   refine HK8.out _ _ ?_
   have hE := A.out.2
   have hSN : SO.length = i := by
    have h1 := (sortInt_perm (ordL (aheadL g s.items))).length_eq
    rw [HSO.out] at h1
    rw [h1, HN.out]
   have htk : SO.take i = SO := by rw [<- hSN, List.take_length]
   rw [htk] at hE
   have hlen : i <= 10000 := by
    have h1 := ordL_len (aheadL g s.items) []
    have h2 := aheadL_len g s.items
    have h3 := HM.out.2.2.2.1.len
    have h4 := HN.out
    unfold ordL at h4
    simp only [List.length_nil, Nat.zero_add] at h1
    omega
   have xD := H2.out.2.2.2.2.2.2.2.2.1
   rw [<- HDS.out]
   exact lead_three g HM.out.2.1 B mb bm sm n s HM.out.2.2.2.2.2.1 HM.out.2.2.1 w HM.out.1 HM.out.2.2.2.2.2.2.1 HM.out.2.2.2.2.2.2.2 ia ic HM.out.2.2.2.2.1 w2 H2.out.1 (SO.map fun t => ((⟨1, 0, t⟩ : Sy), closedF g (grpL (aheadL g s.items) t))) (fun x hx => by
     obtain ⟨t, _, rfl⟩ := List.mem_map.1 hx
     show (1 : Int) ≠ 0
     decide) (by rw [List.length_map]; omega) (by rw [leads_ahead, HSO.out]) sm' es _ wr hE sa sc H2.out.2.2.2.2.1 H2.out.2.2.2.2.2.1 D xD HD.out.2.2.2.2.2.2.2.2.2.2.2.1 (Array.getElem?_eq_some_iff.1 xD).1 _ rfl
end Go.Proofs.YtknpkndiflodbaaGreatDoor.Tb
namespace Go.Proofs.YtknpkndiflodbaaGreatDoor.Tb
open Go Go.RowKit Go.Proofs Go.Sort Go.Shelf Mx
theorem insert_nil (w : World) : Calls Tryz.prog 100 #[.slice none 0 0, .int .i64 0, .int .i64 0] w fun e w' => e = .returned (.tuple #[]) /\ w' = w := by
 go_enter Tryz.func100, Tryz.ntmps100
 go_wp2_with fail
 go_loopg [6] 0 (fun m v wr => v = .int .i64 1 /\ wr = w)
 case atStart => exact ⟨rfl, rfl⟩
 case round =>
  obtain ⟨rfl, rfl⟩ := hrel
  go_wp2_with fail
  refine bodyPost_end (results_none rfl _ _ _) rfl ?_
  exact ⟨rfl, rfl⟩
theorem pdq_nil (k : Int) (w : World) : Calls Tryz.prog 87 #[.slice none 0 0, .int .i64 0, .int .i64 0, .int .i64 k] w fun e w' => e = .returned (.tuple #[]) /\ w' = w := by
 have hi := fun W => insert_nil W
 go_enter Tryz.func87, Tryz.ntmps87
 go_wp2_with fail
 refine wp_loop_once ?_
 go_wp2_with fail
 refine (hi _).mono ?_
 rintro e w' ⟨rfl, rfl⟩
 go_wp2_with fail
 refine bodyPost_ret (results_none rfl _ _ _) rfl ?_
 exact ⟨rfl, rfl⟩
theorem sort_nil (w : World) : Calls Tryz.prog 68 #[.slice none 0 0] w fun e w' => e = .returned (.tuple #[]) /\ w' = w := by
 have hl := fun W => Tryz.bits_Len 0 W (by decide) (by decide)
 have hp := fun k W => pdq_nil k W
 go_enter Tryz.func68, Tryz.ntmps68
 go_wp2_with fail
 refine (hl _).mono ?_
 rintro e w' ⟨rfl, rfl⟩
 go_wp2_with fail
 refine (hp _ _).mono ?_
 rintro e w' ⟨rfl, rfl⟩
 go_wp2_with fail
 refine bodyPost_end (results_none rfl _ _ _) rfl ?_
 exact ⟨rfl, rfl⟩
theorem sortI_any (c : Nat) (o : List Int) (v : Value) (w : World) (hn : o.length <= 1000000) (h : w.ownsRow c 3 1 v o.length (flatK encI o)) :
  Calls Tryz.prog 68 #[v] w fun e w' => e = .returned (.tuple #[]) /\ w'.ownsRow c 3 1 v o.length (flatK encI (o.foldr insInt [])) /\ w.grownBy w' v.ownBlock := by
 have hfl : ∀ (l : List Int) (j : Nat) (x : Int), l[j]? = some x -> (flatK encI l)[j]? = some (.int .i64 x) := fun l j x hx => by
  have := flatK_get encI_len l j x 0 (.int .i64 x) hx rfl
  simpa using this
 have hms : o.mergeSort (fun x y => decide (x <= y)) = o.foldr insInt [] := by
  refine sortInt_unique (List.mergeSort_perm _ _) ?_
  have := List.pairwise_mergeSort (le := fun (x y : Int) => decide (x <= y)) (fun a b c h1 h2 => by simp at *; omega) (fun a b => by simp; omega) o
  exact this.imp (fun h => by simpa using h)
 have h0 := h
 rcases h.2 with ⟨rfl, hz⟩ | ⟨g, cap, cur, rfl, hBg, hh, h1, h2, h3, h4⟩
 ·have ho : o = [] := List.eq_nil_of_length_eq_zero hz
  subst ho
  exact (sort_nil w).mono fun e w' ⟨he, hw⟩ => ⟨he, by rw [hw]; exact h, by rw [hw]; exact grown_refl _ _⟩
 ·have hg := (h.lt g rfl).2
  have hH : Holds (Value.int .i64) w g 0 o.toArray := fun j hj => by
   have hj' : j < o.length := by simpa using hj
   rw [Nat.zero_add]
   refine ⟨?_, h.frozenAt j⟩
   rw [h.cellAt j (by simpa using hj'), hfl o j o[j] (List.getElem?_eq_getElem hj')]
   rw [getElem!_pos o.toArray j hj]; simp
  refine (Any.slices_Sort_int Tryz.lays189 g 0 cap o w hH hg (by omega)).mono ?_
  rintro e w' ⟨rfl, n, os, rfl⟩
  rw [hms]
  have hlen : (o.foldr insInt []).length = o.length := (sortInt_perm o).length_eq
  have hw : (grow (putRow (Value.int .i64) (Sort.ahead w n) g 0 (o.foldr insInt []).toArray) os).heap = w.heap.modify g (onCells (putCells (Value.int .i64) 0 (o.foldr insInt []).toArray)) ++ os := rfl
  refine ⟨rfl, ⟨by rw [flatK_len encI_len, hlen], .inr ⟨g, cap, putCells (Value.int .i64) 0 (o.foldr insInt []).toArray cur, rfl, hBg, ?_, h1, h2, by simp [putCells, h3], ?_⟩⟩, rfl, rfl, rfl, ?_, ?_⟩
  ·rw [hw, Array.getElem?_append_left (by simpa using hg), Array.getElem?_modify, if_pos rfl, hh]; rfl
  ·apply List.ext_getElem?
   intro j
   by_cases hj : j < o.length
   ·have hj2 : j < (o.foldr insInt []).length := by rw [hlen]; exact hj
    rw [List.getElem?_take, if_pos (by omega), hfl _ j _ (List.getElem?_eq_getElem hj2)]
    have hc : j < cur.size := by rw [h3]; omega
    unfold putCells
    rw [Array.getElem?_toList, Array.getElem?_mapIdx, Array.getElem?_eq_getElem hc]
    have hj3 : j < (o.foldr insInt []).toArray.size := by simpa using hj2
    simp [hj2]
   ·rw [List.getElem?_take, if_neg (by omega), List.getElem?_eq_none (by rw [flatK_len encI_len, hlen]; omega)]
  ·rw [hw]; simp
  ·intro i hi hne
   rw [hw, Array.getElem?_append_left (by simpa using hi), Array.getElem?_modify, if_neg (by rintro rfl; exact hne rfl)]
end Go.Proofs.YtknpkndiflodbaaGreatDoor.Tb
namespace Go.Proofs.YtknpkndiflodbaaGreatDoor.Tb
open Go Go.RowKit Go.Proofs Go.Maps Mx Go.Shelf
attribute [local go_sem] Oper.semAt_some
theorem encI_one (s : Int) : ∀ u ∈ encI s, u.oneCell' = true := by intro u hu; simp [encI] at hu; subst hu; rfl
theorem infoInt : (Tryz.prog.info? 3).map (fun i => (i.zero, i.size, i.bytes)) = some (some (.int .i64 0), 1, 8) := by kernel_rfl
theorem int_one (w : World) (s : Int) : ∀ j u, (encI s)[j]? = some u -> (w.alloc (.cells #[.int .i64 s] 3)).cell? ((⟨w.heap.size, 0, none⟩ : Addr).add j) = some u := by
 intro j u hj
 have hb : Blk (w.alloc (.cells #[.int .i64 s] 3)) w.heap.size 3 #[.int .i64 s] := Blk.new w _ _
 rw [addr_add_, Nat.zero_add, hb.cell j]
 simpa [encI] using hj
theorem it_two (w : World) (a b : Nat) : ∀ j u, (encIt (a, b))[j]? = some u -> (w.alloc (.cells #[.int .i64 (a : Int), .int .i64 (b : Int)] 53)).cell? ((⟨w.heap.size, 0, none⟩ : Addr).add j) = some u := by
 intro j u hj
 have hb : Blk (w.alloc (.cells #[.int .i64 (a : Int), .int .i64 (b : Int)] 53)) w.heap.size 53 #[.int .i64 (a : Int), .int .i64 (b : Int)] := Blk.new w _ _
 rw [addr_add_, Nat.zero_add, hb.cell j]
 simpa [encIt] using hj
def Round1 (b c : Nat) (w0 : World) (L : List (It × Sy)) (tm : Array Value) (k : Nat) (a' : Act) (W : World) : Prop :=
 ∃ x8 x9 : Nat, a' = { tmps := ((((tm.setIfInBounds 32 (.agg #[.int .i64 ((aK L k).1.1 : Int), .int .i64 ((aK L k).1.2 : Int)])).setIfInBounds 33 (.agg #[.int .i64 (aK L k).2.kind, .int .u64 (wd (aK L k).2.set 0), .int .u64 (wd (aK L k).2.set 1), .int .u64 (wd (aK L k).2.set 2), .int .u64 (wd (aK L k).2.set 3), .int .i64 (aK L k).2.sort])).setIfInBounds 8 (.pointer (some ⟨x8, 0, none⟩))).setIfInBounds 9 (.pointer (some ⟨x9, 0, none⟩))), defers := [] } /\
  (Blk W x8 53 #[.int .i64 ((aK L k).1.1 : Int), .int .i64 ((aK L k).1.2 : Int)] /\ Blk W x9 28 #[.int .i64 (aK L k).2.kind, .int .u64 (wd (aK L k).2.set 0), .int .u64 (wd (aK L k).2.set 1), .int .u64 (wd (aK L k).2.set 2), .int .u64 (wd (aK L k).2.set 3), .int .i64 (aK L k).2.sort]) /\
  (c <= x8 /\ c <= x9) /\ LeadI b c w0 (L.take k) W
theorem round1_own (b c n0 : Nat) (w0 : World) (L : List (It × Sy)) (tm : Array Value) (a' : Act) (hn : b + 4 <= n0) : OwnFrom n0 (fun k W => Round1 b c w0 L tm k a' W) := by
 rintro k W W' row ⟨x8, x9, e, ⟨h8, h9⟩, hc, h⟩ hg hr
 have hcells : ∀ {g : Nat} {t : TypeId} {cs : Array Value}, Blk W g t cs -> some g ≠ row := fun {g t cs} hB e => by
  obtain ⟨_, o, ho, hc⟩ := hr g e.symm
  unfold Blk at hB
  rw [hB] at ho
  injection ho with ho
  subst ho
  cases hc
 exact ⟨x8, x9, e, ⟨h8.grown hg (hcells h8), h9.grown hg (hcells h9)⟩, hc, leadG_own b c n0 w0 (fun k => (L.take k).length) (fun k => ordL (L.take k)) (fun k => ordL (L.take k)) (fun k => ofsL (L.take k)) (fun k => grpL (L.take k)) hn k W W' row h hg hr⟩
theorem lead_any (g : Gr) (hg : Good g) (B mb bm : Nat) (sm : List SM) (n : Nat) (s : SM) (hn : sm[n]? = some s) (hs : Bare s) (w : World) (hm : MkW g B mb bm sm w) (hT : ∀ W', KeepM mb bm w W' -> Bru W') (hLB : LB <= B)
  (hsrt : ∀ (c : Nat) (o : List Int) (v : Value) (W : World), o.length <= 1000000 -> W.ownsRow c 3 1 v o.length (flatK encI o) -> Calls Tryz.prog 68 #[v] W fun e W' => e = .returned (.tuple #[]) /\ W'.ownsRow c 3 1 v o.length (flatK encI (o.foldr insInt [])) /\ W.grownBy W' v.ownBlock) :
  Calls Tryz.prog 36 #[.pointer (some ⟨mb, 0, none⟩), .int .i64 (n : Int)] w (Led g B mb bm sm n s w) := by
 obtain ⟨va, hva1, hva2⟩ := hm.all
 have hnl : n < sm.length := (List.getElem?_eq_some_iff.1 hn).1
 obtain ⟨ag, ac, rfl, hagB, _, _⟩ := own_some hva2 (by omega)
 have hSM := opt_of (own_sliceK encSM_len hva2)
 obtain ⟨_, _, eag, _, haglt, hcells⟩ := hSM.at_ hnl
 injection eag with eag
 injection eag with e1 e2 _
 subst e1; subst e2
 have hsn : sm[n] = s := by rw [List.getElem?_eq_getElem hnl] at hn; injection hn
 rw [hsn] at hcells
 have c0 := hcells 0 _ rfl
 simp only [Nat.zero_add, Nat.add_zero] at c0
 have hse := hm.each s (List.mem_of_getElem? hn)
 obtain ⟨ia, ic, hvi, hic1, hic2, hik⟩ := hse.items
 rw [hvi] at c0
 have hvi0 := hvi
 have hmm := @run_makeMap Tryz.prog
 have hn0 : (0 : Int) <= (n : Int) := by omega
 have hnl1 : (n : Int) < (sm.length : Int) := by omega
 have hah := fun W => ahead_any mb ia s.items.length ic W
 have hilen := hse.len
 have HM := Hd (An hm (An hg (An hs (An hse (An hik (An hva2 (An hn (An hT hLB))))))))
 clear hm hg hs hse hik hva2 hn hT hSM hcells hsn hvi
 refine calls_of_wp_post Tryz.func36 rfl ?_
 simp only [Tryz.ntmps36, List.size_toArray, List.length_cons, List.length_nil, Nat.reduceAdd, Nat.reduceSub, Array.replicate_succ, Array.replicate_zero, List.push_toArray, List.append_toArray, List.nil_append, List.cons_append]
 go_wp2_with fail
 refine (hah _).mono ?_
 rintro e w1 ⟨rfl, rfl⟩
 go_wp2_with fail
 have hX1 : LeadI w.heap.size (w.heap.size + 6) w [] ((((((w.alloc (.map #[] 0)).alloc (.cells #[.map (some w.heap.size)] 136)).alloc (.cells #[.slice none 0 0] 68)).alloc (.cells #[.slice none 0 0] 137)).alloc (.cells #[.pointer (some ⟨mb, 0, none⟩)] 90)).alloc (.cells #[.slice ia s.items.length ic] 50)) :=
  ⟨((((Blk.new_ (by simp) _ _).alloc _).alloc _).alloc _).alloc _, ⟨_, (((Blk.new_ (by simp) _ _).alloc _).alloc _).alloc _, World.ownsRow_nil _ _ _ _⟩, ⟨_, ((Blk.new_ (by simp) _ _).alloc _).alloc _, World.ownsRow_nil _ _ _ _⟩,
   ⟨fun _ => none, fun _ => .slice none 0 0, (((((MapV.made w Tryz.prog 3).alloc _).alloc _).alloc _).alloc _).alloc _, by simp [ordL], fun _ _ => rfl, by simp [ordL]⟩,
   (((((((Below.refl _ w).alloc (Nat.le_refl _) _).alloc (by simp) _).alloc (by simp; omega) _).alloc (by simp; omega) _).alloc (by simp; omega) _).alloc (by simp; omega) _), by simp⟩
 have hB4 : Blk ((((((w.alloc (.map #[] 0)).alloc (.cells #[.map (some w.heap.size)] 136)).alloc (.cells #[.slice none 0 0] 68)).alloc (.cells #[.slice none 0 0] 137)).alloc (.cells #[.pointer (some ⟨mb, 0, none⟩)] 90)).alloc (.cells #[.slice ia s.items.length ic] 50)) (w.heap.size + 4) 90 #[.pointer (some ⟨mb, 0, none⟩)] := (Blk.new_ (by simp) _ _).alloc _
 have hB5 : Blk ((((((w.alloc (.map #[] 0)).alloc (.cells #[.map (some w.heap.size)] 136)).alloc (.cells #[.slice none 0 0] 68)).alloc (.cells #[.slice none 0 0] 137)).alloc (.cells #[.pointer (some ⟨mb, 0, none⟩)] 90)).alloc (.cells #[.slice ia s.items.length ic] 50)) (w.heap.size + 5) 50 #[.slice ia s.items.length ic] := Blk.new_ (by simp) _ _
 generalize ((((((w.alloc (.map #[] 0)).alloc (.cells #[.map (some w.heap.size)] 136)).alloc (.cells #[.slice none 0 0] 68)).alloc (.cells #[.slice none 0 0] 137)).alloc (.cells #[.pointer (some ⟨mb, 0, none⟩)] 90)).alloc (.cells #[.slice ia s.items.length ic] 50)) = w1 at hX1 hB4 hB5 ⊢
 have hsz1 : w.heap.size + 6 <= w1.heap.size := hX1.size
 have hDk : MkR (fun q => q < w.heap.size ∨ q = w.heap.size + 5 ∨ q = w.heap.size + 4) w1 mb g :=
  HM.out.1.gr.keep (fun q hq hl => ⟨.inl hl, hX1.below.block q hl⟩) hX1.below.size (hX1.below.cell (p := ⟨mb, 1, none⟩) HM.out.1.gr.lt) (hX1.below.cell (p := ⟨mb, 5, none⟩) HM.out.1.gr.lt)
 have hik : OptK (TyD B 53 w) encIt 2 w ia s.items := HM.out.2.2.2.2.1
 have hDs : SliceK (fun q => q < w.heap.size ∨ q = w.heap.size + 5 ∨ q = w.heap.size + 4) encIt 2 w1 (.slice ia s.items.length ic) s.items :=
  ⟨ia, ic, rfl, hic1, hic2, hik.keep (fun q hq hl => ⟨.inl hl, hX1.below.block q hl⟩)⟩
 have hitr := ahead_iter (fun q => q < w.heap.size ∨ q = w.heap.size + 5 ∨ q = w.heap.size + 4) (fun _ => True) g mb s.items HM.out.2.2.2.1.ok (fun p hp => by have := HM.out.2.1.right p hp; omega) _ 4 (by decide) w1 hDk (.inl HM.out.1.gr.lt) hDs (w.heap.size + 5) (w.heap.size + 4) hB5 hB4 (.inr (.inl rfl)) (.inr (.inr rfl))
 have HI1 := Hd (An hX1 (An hDk hDs))
 clear hik hDs hDk
 refine (wpIn_wide (n := 5)).1 ?_
 refine wpIn_rangeFunc_ownT rfl (by decide) (gf := 86) (lb := #[.pointer (some ⟨w.heap.size + 5, 0, none⟩), .pointer (some ⟨w.heap.size + 4, 0, none⟩)]) rfl trivial (enters_of Tryz.func86 (by kernel_rfl) rfl)
  hitr KeepD.trans (fun W l o o' h1 h2 h3 h4 => KeepD.putObj (w := w1) (fun q hq => by rcases hq with h | h | h <;> omega) l o o' h1 h2 h3 h4) (Below.refl _ _) (fun _ _ => rfl)
  (fun k W => LeadI w.heap.size (w.heap.size + 6) w ((aheadL g s.items).take k) W) (fun _ _ _ => False)
  (leadG_own w.heap.size (w.heap.size + 6) w1.heap.size w (fun k => ((aheadL g s.items).take k).length) (fun k => ordL ((aheadL g s.items).take k)) (fun k => ordL ((aheadL g s.items).take k)) (fun k => ofsL ((aheadL g s.items).take k)) (fun k => grpL ((aheadL g s.items).take k)) (by omega))
  (fun _ _ _ _ _ hs _ _ => hs)
  hX1
  (fun tm k a' W => Round1 w.heap.size (w.heap.size + 6) w (aheadL g s.items) tm k a' W) (fun a' => round1_own _ _ _ _ _ _ a' (by omega)) ?assign ?body ?done ?stop
 case stop => rintro D c k W _ _ h _; exact h.elim
 case assign =>
  intro lp k W K hk hI hK
  have hlt6 := hI.size
  have HH := Hd hI
  clear hI hX1 hB4 hB5 hitr
  generalize hq : aK (aheadL g s.items) k = q at *
  obtain ⟨⟨qa, qb⟩, qs⟩ := q
  unfold encA
  simp only []
  gi_wp2
  refine hK _ _ ((KeepsOthers.trans (KeepsOthers.alloc _ _) (KeepsOthers.alloc _ _)).from _) (KeepD.below (((Below.refl _ W).alloc (Nat.le_refl _) _).alloc (by simp) _)) ?_
  unfold Round1
  rw [hq]
  exact ⟨W.heap.size, W.heap.size + 1, rfl, ⟨(Blk.new _ _ _).alloc _, Blk.new_ (by simp) _ _⟩, ⟨hlt6, by omega⟩, HH.out.up (((Below.refl _ W).alloc (Nat.le_refl _) _).alloc (by simp) _)⟩
 case body =>
  rintro lp k a' W ⟨x8, x9, rfl, ⟨h8, h9⟩, ⟨hc8, hc9⟩, hI⟩ hk
  have hget : (aheadL g s.items)[k]? = some (aK (aheadL g s.items) k) := by unfold aK; simp [List.getD, hk]
  have htk : (aheadL g s.items).take (k + 1) = (aheadL g s.items).take k ++ [aK (aheadL g s.items) k] := by rw [List.take_add_one, hget]; rfl
  have hqm := List.mem_of_getElem? hget
  have hLl := aheadL_len g s.items
  clear hX1 hB4 hB5 hitr hget
  obtain ⟨q, hq⟩ : ∃ q, aK (aheadL g s.items) k = q := ⟨_, rfl⟩
  rw [hq] at htk hqm h8 h9 ⊢
  obtain ⟨⟨qa, qb⟩, ⟨qk, qs, qo⟩⟩ := q
  have hsy : (qk = 0 /\ qo = 0 /\ qs ≠ 0 /\ qs < 2 ^ 256) ∨ (qk = 1 /\ qs = 0 /\ 0 <= qo /\ qo < g.sorts.length) := by
   obtain ⟨x, hx, ha, _⟩ := mem_aheadL hqm
   unfold aheadF rightOf at ha
   cases hp : g.prods[x.1]? with
   | none => rw [hp] at ha; simp at ha
   | some p =>
    rw [hp] at ha
    exact HM.out.2.1.sym p (List.mem_of_getElem? hp) ⟨qk, qs, qo⟩ (List.mem_of_getElem? ha)
  have hLt : ((aheadL g s.items).take k).length <= 100000 := by rw [List.length_take]; omega
  have hbl : ∀ W', Below W.heap.size W W' -> KeepD (fun q => q < w.heap.size ∨ q = w.heap.size + 5 ∨ q = w.heap.size + 4) W W' := fun W' h => KeepD.below h
  generalize hT : (aheadL g s.items).take k = T at *
  simp only [List.setIfInBounds_toArray, List.set_cons_zero, List.set_cons_succ]
  obtain ⟨y0, y1, _⟩ := h8.facts2
  have z0 := h9.cell 0
  have z1 := h9.cell 1
  have z2 := h9.cell 2
  have z3 := h9.cell 3
  have z4 := h9.cell 4
  have z5 := h9.cell 5
  simp at z0 z1 z2 z3 z4 z5
  rcases hsy with ⟨rfl, _, _, hq256⟩ | ⟨rfl, hqs0, hqo0, hqo1⟩
  ·obtain ⟨v, s1, s2⟩ := hI.of
   obtain ⟨sa, sc, rfl⟩ := own_shape s2
   have s1c := s1.cell 0
   have s1f := s1.frozen 0
   simp at s1c
   have hol := ofsL_len T
   obtain ⟨i0, hi, hz0, hz1, hz2⟩ := info_parts infoSet
   have HB := Hd (An hI (An s1 (An s2 (An h8 (An h9 htk)))))
   clear hI s1 s2 h8 h9 htk hT hq
   gi_wp2_with (gi_at_builtin; refine wpListIn_append_own _ rfl _ _ 137 rfl (w.heap.size + 6) 26 i0 (.agg #[.int .u64 0, .int .u64 0, .int .u64 0, .int .u64 0]) 4 32 Tryz.underlying137 hi hz0 hz1 hz2 rfl (by decide) _ (ofsL T).length _ rfl (HB.out.2.2.1.alloc _) ⟨W.heap.size, 0, none⟩ 1 1 (encSet qs) rfl rfl ?c1 ?c2 ?c3 ?c4 ?c5 ?_)
   case c1 => first | exact setCells_blk W qs | exact fun j u h => h
   case c2 => exact encSet_one' qs
   case c3 => unfold maxLen; omega
   case c4 => omega
   case c5 => have := HB.out.1.size; first | omega | (simp; omega)
   intro v' w3 hown' hg3 _
   have hgw : W.grownBy w3 (Value.slice sa (ofsL T).length sc).ownBlock := World.grownBy.trans (World.grownBy_alloc _ _ _) hg3
   obtain ⟨va', vc', rfl⟩ := own_shape hown'
   have hbx := HB.out.2.1.grown hgw (blk_ne_row HB.out.2.1 HB.out.2.2.1 (by decide))
   have bc := hbx.cell 0
   have bf := hbx.frozen 0
   simp at bc
   have hst := HB.out.1.pushSet (by omega) HB.out.2.1 HB.out.2.2.1 hgw hown'
   have hkf : KeepsFrom w1.heap.size W w3 := KeepsFrom.grown hgw (fun j e => .inr (by obtain ⟨_, c', fz, h⟩ := own_ty HB.out.2.2.1 j e; exact ⟨c', _, fz, h⟩))
   have hrl := fun j e => (HB.out.2.2.1.lt j e).1
   have HC := Hd (An hst (An hkf (An hgw hrl)))
   clear hown' hg3 hgw hbx hst hkf hrl
   gi_wp2
   refine ⟨HC.out.2.1.trans ((KeepsOthers.setCell _ _ _).from _), ⟨by have := HC.out.2.2.1.size; simpa using this, fun q hq hl => ?_⟩, ?_⟩
   ·rw [Below.heap_setCell w3 ⟨w.heap.size + 1 + 1 + 1, 0, none⟩ _ q (by show q ≠ w.heap.size + 1 + 1 + 1; omega)]
    exact HC.out.2.2.1.block q hl (fun e => by have := HC.out.2.2.2 q e.symm; omega)
   ·show LeadI _ _ _ _ _
    rw [HB.out.2.2.2.2.2]
    unfold LeadI
    rw [ordL_snoc, ofsL_snoc, if_pos rfl, List.length_append]
    have e1 : ordStep (ordL T) ((qa, qb), ⟨0, qs, qo⟩) = ordL T := by unfold ordStep; simp
    have e2 : grpL (T ++ [((qa, qb), ⟨0, qs, qo⟩)]) = grpL T := by funext t; rw [grpL_snoc]; simp
    rw [e1, e2]
    exact HC.out.1.mono (Nat.le_succ _)
  ·obtain ⟨f, gv, g1, g2, g3, g4⟩ := hI.grp
   obtain ⟨v6, o1, o2⟩ := hI.ord
   obtain ⟨oa, oc, rfl⟩ := own_shape o2
   have b5 := hI.box.cell 0
   have b6 := o1.cell 0
   have f6 := o1.frozen 0
   simp at b5 b6
   have hS9 := HM.out.2.1.sorts
   have hKey : keyOf Tryz.prog 3 (.int .i64 qo) = some (.int .i64 qo) := keyOf_int_mk Tryz.underlying3 (by simp [Lit.wf, IntKind.min, IntKind.max, IntKind.bits, IntKind.signed]; omega)
   have hmem := mem_ordL T qo
   have hgl := grpL_len T qo
   have hoL := ordL_len T []
   have hcells8 : x8 < W.heap.size := h8.lt
   have hcells9 : x9 < W.heap.size := h9.lt
   have hbS := hI.size
   by_cases hin : qo ∈ ordL T
   ·have hgr := (g2 qo hin).2
    have hf := (g2 qo hin).1
    have hne0 : (grpL T qo).length ≠ 0 := fun e => hmem.1 hin (List.eq_nil_of_length_eq_zero e)
    obtain ⟨va0, vc0, hv0⟩ := own_shape hgr
    have hlk : ∀ W', MapV Tryz.prog 3 W' w.heap.size T.length f -> (Instr.lookup 136 (.map (some w.heap.size)) (.int .i64 qo) false).run Tryz.prog W' = .ok (.slice va0 (grpL T qo).length vc0) W' := fun W' hW' => by
     have h := hW'.lookup (int_keyed Tryz.underlying3) Tryz.underlying136 (Tryz.zeroValue50 W') hKey
     rw [hf, hv0] at h
     exact h
    have hlkW := hlk W g1
    have hlkD := hlk W.drew g1
    have hlkA := hlk (W.alloc (.cells #[.int .i64 (qa : Int), .int .i64 (qb : Int)] 53)).drew (g1.alloc _).drew
    have hln : (((grpL T qo).length : Int) == 0) = false := by rw [beq_eq_false_iff_ne]; omega
    rw [hv0] at hgr
    have HB := Hd (An hI (An htk (An g1 (An g2 (An g3 (An g4 (An hgr (An hv0 (An hin (An hmem hKey))))))))))
    have B5x := hI.box
    have B9x := h9
    clear hI h8 h9 htk hlk g1 g2 g3 g4 hgr hv0 hin hmem hKey o1 o2 hT hq hf
    gi_wp2
    have hsX : w.heap.size + 6 <= W.heap.size := hbS
    have b5x := b5
    have z5x := z5
    have hS11 : W.drew.cell? ⟨w.heap.size + 1, 0, none⟩ = some (.map (some w.heap.size)) /\ W.drew.cell? ⟨x9, 5, none⟩ = some (.int .i64 qo) := ⟨b5, z5⟩
    have hS11a : (W.drew.alloc (.cells #[.int .i64 (qa : Int), .int .i64 (qb : Int)] 53)).cell? ⟨w.heap.size + 1, 0, none⟩ = some (.map (some w.heap.size)) /\ (W.drew.alloc (.cells #[.int .i64 (qa : Int), .int .i64 (qb : Int)] 53)).cell? ⟨x9, 5, none⟩ = some (.int .i64 qo) := ⟨cell_alloc_ hS11.1 _, cell_alloc_ hS11.2 _⟩
    refine wpIn_region_out (wideF_wide.inRound lp) (by kernel_rfl) (by kernel_rfl) (by rintro ⟨_, _, h⟩; exact h) ?_
    refine wpAny_of_held (S := (fun W' => W'.cell? ⟨w.heap.size + 1, 0, none⟩ = some (.map (some w.heap.size)) /\ W'.cell? ⟨x9, 5, none⟩ = some (.int .i64 qo))) _ _ _ _ ?_
    show wpAnyH _ _ _ _ _ 11 #[false, false, false, false, false, false, false, false, false, false, false] _ _
    refine held_take (i := 0) (v := .map (some w.heap.size)) rfl (by kernel_rfl) rfl (fun _ _ _ h => h) (fun W' hW' => by obtain ⟨q1, q2⟩ := hW'; go_simp) hS11 ?_
    simp only [Act.put, List.setIfInBounds_toArray, List.set_cons_zero, List.set_cons_succ]
    refine held_take (i := 1) (v := .pointer (some ⟨x9, 5, none⟩)) rfl (by kernel_rfl) rfl (fun _ _ _ h => h) (fun W' hW' => by obtain ⟨q1, q2⟩ := hW'; go_simp) hS11 ?_
    simp only [Act.put, List.setIfInBounds_toArray, List.set_cons_zero, List.set_cons_succ]
    refine held_take (i := 2) (v := .int .i64 qo) rfl (by kernel_rfl) rfl (fun _ _ _ h => h) (fun W' hW' => by obtain ⟨q1, q2⟩ := hW'; go_simp) hS11 ?_
    simp only [Act.put, List.setIfInBounds_toArray, List.set_cons_zero, List.set_cons_succ]
    refine held_take (i := 3) (v := .map (some w.heap.size)) rfl (by kernel_rfl) rfl (fun _ _ _ h => h) (fun W' hW' => by obtain ⟨q1, q2⟩ := hW'; go_simp) hS11 ?_
    simp only [Act.put, List.setIfInBounds_toArray, List.set_cons_zero, List.set_cons_succ]
    refine held_take (i := 4) (v := .pointer (some ⟨x9, 5, none⟩)) rfl (by kernel_rfl) rfl (fun _ _ _ h => h) (fun W' hW' => by obtain ⟨q1, q2⟩ := hW'; go_simp) hS11 ?_
    simp only [Act.put, List.setIfInBounds_toArray, List.set_cons_zero, List.set_cons_succ]
    refine held_take (i := 5) (v := .int .i64 qo) rfl (by kernel_rfl) rfl (fun _ _ _ h => h) (fun W' hW' => by obtain ⟨q1, q2⟩ := hW'; go_simp) hS11 ?_
    simp only [Act.put, List.setIfInBounds_toArray, List.set_cons_zero, List.set_cons_succ]
    apply via
    ·intro KV
     refine held_two (i := 6) (j := 7) (by kernel_rfl) rfl rfl rfl rfl ?_ ?_
     ·intro K hK
      go_simp
      refine hK _ _ hS11 ?_
      clear hK K
      simp only [Act.put, List.setIfInBounds_toArray, List.set_cons_zero, List.set_cons_succ]
      refine held_one (i := 7) (by kernel_rfl) rfl rfl ?_
      intro K hK
      go_simp
      refine hK _ _ hS11 ?_
      clear hK K
      simp only [Act.put, List.setIfInBounds_toArray, List.set_cons_zero, List.set_cons_succ]
      refine held_one (i := 8) (by kernel_rfl) rfl rfl ?_
      intro K hK
      go_simp
      refine hK _ _ hS11a ?_
      clear hK K
      simp only [Act.put, List.setIfInBounds_toArray, List.set_cons_zero, List.set_cons_succ]
      exact KV.out
     ·intro K hK
      go_simp
      refine hK _ _ hS11 ?_
      clear hK K
      simp only [Act.put, List.setIfInBounds_toArray, List.set_cons_zero, List.set_cons_succ]
      refine held_two (i := 6) (j := 8) (by kernel_rfl) rfl rfl rfl rfl ?_ ?_
      ·intro K hK
       go_simp
       refine hK _ _ hS11 ?_
       clear hK K
       simp only [Act.put, List.setIfInBounds_toArray, List.set_cons_zero, List.set_cons_succ]
       refine held_one (i := 8) (by kernel_rfl) rfl rfl ?_
       intro K hK
       go_simp
       refine hK _ _ hS11a ?_
       clear hK K
       simp only [Act.put, List.setIfInBounds_toArray, List.set_cons_zero, List.set_cons_succ]
       exact KV.out
      ·intro K hK
       go_simp
       refine hK _ _ hS11a ?_
       clear hK K
       simp only [Act.put, List.setIfInBounds_toArray, List.set_cons_zero, List.set_cons_succ]
       refine held_one (i := 6) (by kernel_rfl) rfl rfl ?_
       intro K hK
       go_simp
       refine hK _ _ hS11a ?_
       clear hK K
       simp only [Act.put, List.setIfInBounds_toArray, List.set_cons_zero, List.set_cons_succ]
       exact KV.out
    clear hlkD hlkA
    refine held_one (i := 9) (by kernel_rfl) rfl rfl ?_
    obtain ⟨i0, hi, hz0, hz1, hz2⟩ := info_parts infoItem
    intro K9 hK9
    refine wp_append_ownF _ _ _ 50 rfl (w.heap.size + 6) 53 i0 (.agg #[.int .i64 0, .int .i64 0]) 2 16 Tryz.underlying50 hi hz0 hz1 hz2 rfl (by decide) _ (grpL T qo).length (flatK encIt (grpL T qo)) rfl (HB.out.2.2.2.2.2.2.1.alloc _) ⟨W.heap.size, 0, none⟩ 1 1 (encIt (qa, qb)) rfl rfl ?c1 ?c2 ?c3 ?c4 ?c5 ?_
    case c1 => exact it_two W.drew qa qb
    case c2 => exact encIt_one (qa, qb)
    case c3 => unfold maxLen; omega
    case c4 => omega
    case c5 => have := hbS; have := hsX; first | omega | (simp; omega)
    intro v' w5 hown5 hg5 hfr5
    have hgw : W.grownBy w5 (Value.slice va0 (grpL T qo).length vc0).ownBlock := World.grownBy.trans (show W.grownBy (W.drew.alloc _) _ from World.grownBy.trans (grown_drewN (grown_refl W _) 1) (World.grownBy_alloc _ _ _)) hg5
    have q1 := (hgw.cell b5x (blk_ne_row B5x HB.out.2.2.2.2.2.2.1 (by decide)))
    have q2 := (hgw.cell z5x (blk_ne_row B9x HB.out.2.2.2.2.2.2.1 (by decide)))
    refine hK9 _ _ ⟨q1, q2⟩ ?_
    clear hK9 K9
    simp only [Act.put, List.setIfInBounds_toArray, List.set_cons_zero, List.set_cons_succ]
    refine held_one (i := 10) (by kernel_rfl) rfl rfl ?_
    have hm5 : MapV Tryz.prog 3 w5 w.heap.size T.length f := HB.out.2.2.1.grown hgw (fun e => by have := (HB.out.2.2.2.2.2.2.1.lt _ e.symm).1; omega)
    intro K10 hK10
    refine wp_mapUpdateV _ _ _ _ 136 rfl 3 50 (int_keyed Tryz.underlying3) Tryz.underlying136 w.heap.size T.length f rfl hm5 (by unfold maxLen; omega) _ v' _ rfl rfl HB.out.2.2.2.2.2.2.2.2.2.2 ?_
    intro w6 hm6 hg6
    refine hK10 _ _ ⟨hg6.cell q1 (by simp), hg6.cell q2 (by intro e; injection e with e; simp only at e; omega)⟩ ?_
    clear hK10 K10
    refine wpAnyH_done (by kernel_rfl) ?_ _
    simp only [Act.put, List.setIfInBounds_toArray, List.set_cons_zero, List.set_cons_succ]
    show KeepsFrom w1.heap.size W w6 /\ KeepD _ W w6 /\ LeadI _ _ _ _ w6
    have hrl := fun y e => (HB.out.2.2.2.2.2.2.1.lt y e).1
    refine ⟨(KeepsFrom.grown hgw (fun y e => .inr (by obtain ⟨_, c', fz, h⟩ := own_ty HB.out.2.2.2.2.2.2.1 y e; exact ⟨c', _, fz, h⟩))).trans (KeepsFrom.of_grownBy hg6 (fun y e => by injection e with e; omega)),
     ⟨Nat.le_trans hgw.size hg6.size, fun y hy hl => (hg6.block y (Nat.lt_of_lt_of_le hl hgw.size) (by intro e; injection e with e; omega)).trans (hgw.block y hl (fun e => by have := hrl y e.symm; omega))⟩, ?_⟩
    have hp := HB.out.1.pushGrp (by omega) HB.out.2.2.2.1 HB.out.2.2.2.2.1 HB.out.2.2.2.2.2.1 (.inl ⟨HB.out.2.2.2.2.2.2.2.2.1, HB.out.2.2.2.2.2.2.2.1.symm, rfl⟩) hgw HB.out.2.2.2.2.2.2.1 hown5
     (fun y hy => (hfr5 y hy).imp id (fun h => by have h2 : (W.drew.alloc (Obj.cells #[.int .i64 (qa : Int), .int .i64 (qb : Int)] 53)).heap.size <= y := h; rw [World.size_alloc] at h2; have : W.drew.heap.size = W.heap.size := rfl; omega)) hm6 hg6
    unfold LeadI
    rw [HB.out.2.1, ordL_snoc, ofsL_snoc, List.length_append]
    have e1 : ordStep (ordL T) ((qa, qb), ⟨1, qs, qo⟩) = ordL T := by unfold ordStep; simp [HB.out.2.2.2.2.2.2.2.2.1]
    have e2 : grpL (T ++ [((qa, qb), ⟨1, qs, qo⟩)]) = fun t => if t = qo then grpL T qo ++ [(qa, qb)] else grpL T t := by
     funext t
     rw [grpL_snoc]
     by_cases e : t = qo
     ·subst e; simp
     ·simp [e, Ne.symm e]
    rw [e1, e2]
    rw [if_pos HB.out.2.2.2.2.2.2.2.2.1] at hp
    simpa using hp
   ·have hfn := g3 qo hin
    have hlkW : (Instr.lookup 136 (.map (some w.heap.size)) (.int .i64 qo) false).run Tryz.prog W = .ok (.slice none 0 0) W := by
     have h := g1.lookup (int_keyed Tryz.underlying3) Tryz.underlying136 (Tryz.zeroValue50 W) hKey
     rw [hfn] at h
     exact h
    have HB := Hd (An hI (An h8 (An h9 (An htk (An o1 (An o2 (An hin (An hmem hKey))))))))
    clear hI h8 h9 htk g1 g2 g3 g4 hin hmem hKey o1 o2 hT hq hfn
    obtain ⟨i0, hi, hz0, hz1, hz2⟩ := info_parts infoInt
    gi_wp2_with (gi_at_builtin; refine wpListIn_append_own _ rfl _ _ 68 rfl (w.heap.size + 6) 3 i0 (.int .i64 0) 1 8 Tryz.underlying68 hi hz0 hz1 hz2 rfl (by decide) _ (ordL T).length _ rfl (HB.out.2.2.2.2.2.1.alloc _) ⟨W.heap.size, 0, none⟩ 1 1 (encI qo) rfl rfl ?d1 ?d2 ?d3 ?d4 ?d5 ?_)
    case d1 => first | exact int_one W qo | exact fun j u h => h
    case d2 => exact encI_one qo
    case d3 => unfold maxLen; have : ([] : List Int).length = 0 := rfl; unfold ordL at *; omega
    case d4 => have : ([] : List Int).length = 0 := rfl; unfold ordL at *; omega
    case d5 => first | omega | (simp; omega)
    intro v6' w4 hown4 hg4 _
    have hgw4 : W.grownBy w4 (Value.slice oa (ordL T).length oc).ownBlock := World.grownBy.trans (World.grownBy_alloc _ _ _) hg4
    obtain ⟨va6, vc6, rfl⟩ := own_shape hown4
    have hbx := HB.out.2.2.2.2.1.grown hgw4 (blk_ne_row HB.out.2.2.2.2.1 HB.out.2.2.2.2.2.1 (by decide))
    have bc := hbx.cell 0
    have bf := hbx.frozen 0
    simp at bc
    have hst := HB.out.1.pushOrd (by omega) HB.out.2.2.2.2.1 HB.out.2.2.2.2.2.1 hgw4 hown4
    have hrl4 := fun j e => (HB.out.2.2.2.2.2.1.lt j e).1
    have hkf : KeepsFrom w1.heap.size W (w4.setCell ⟨w.heap.size + 1 + 1, 0, none⟩ (.slice va6 ((ordL T).length + 1) vc6)) := (KeepsFrom.grown hgw4 (fun j e => .inr (by obtain ⟨_, c', fz, h⟩ := own_ty HB.out.2.2.2.2.2.1 j e; exact ⟨c', _, fz, h⟩))).trans ((KeepsOthers.setCell _ _ _).from _)
    have hkd : KeepD (fun q => q < w.heap.size ∨ q = w.heap.size + 5 ∨ q = w.heap.size + 4) W (w4.setCell ⟨w.heap.size + 1 + 1, 0, none⟩ (.slice va6 ((ordL T).length + 1) vc6)) :=
     ⟨by have := hgw4.size; simpa using this, fun y hy hl => by
      rw [Below.heap_setCell w4 ⟨w.heap.size + 1 + 1, 0, none⟩ _ y (by show y ≠ w.heap.size + 1 + 1; omega)]
      exact hgw4.block y hl (fun e => by have := hrl4 y e.symm; omega)⟩
    have h89 := (HB.out.2.1.grown hgw4 (blk_ne_row HB.out.2.1 HB.out.2.2.2.2.2.1 (by decide))).far (p := ⟨w.heap.size + 1 + 1, 0, none⟩) (by show x8 ≠ w.heap.size + 1 + 1; omega) (.slice va6 ((ordL T).length + 1) vc6)
    have h99 := (HB.out.2.2.1.grown hgw4 (blk_ne_row HB.out.2.2.1 HB.out.2.2.2.2.2.1 (by decide))).far (p := ⟨w.heap.size + 1 + 1, 0, none⟩) (by show x9 ≠ w.heap.size + 1 + 1; omega) (.slice va6 ((ordL T).length + 1) vc6)
    have HC := Hd (An hst (An hkf (An hkd (An h89 h99))))
    clear hown4 hg4 hgw4 hbx hst hrl4 hkf hkd h89 h99
    gi_wp2
    obtain ⟨W9, hW9⟩ : ∃ W9, (w4.setCell ⟨w.heap.size + 1 + 1, 0, none⟩ (.slice va6 ((ordL T).length + 1) vc6)) = W9 := ⟨_, rfl⟩
    obtain ⟨hst, hkf, hkd, h89, h99⟩ := HC.out
    rw [hW9] at hst hkf hkd h89 h99 ⊢
    clear HC hW9 y0 y1 z0 z1 z2 z3 z4 z5 b5 b6 f6 bc bf hlkW
    obtain ⟨f9, gv9, g1, g2, g3, g4⟩ := hst.grp
    obtain ⟨y0, y1, _⟩ := h89.facts2
    have z5x := h99.cell 5
    have b5x := hst.box.cell 0
    simp at z5x b5x
    have hbS := hst.size
    have hsX : w.heap.size + 6 <= W9.heap.size := hbS
    have hfn9 := g3 qo HB.out.2.2.2.2.2.2.1
    have hlk : ∀ W', MapV Tryz.prog 3 W' w.heap.size T.length f9 -> (Instr.lookup 136 (.map (some w.heap.size)) (.int .i64 qo) false).run Tryz.prog W' = .ok (.slice none 0 0) W' := fun W' hW' => by
     have h := hW'.lookup (int_keyed Tryz.underlying3) Tryz.underlying136 (Tryz.zeroValue50 W') HB.out.2.2.2.2.2.2.2.2
     rw [hfn9] at h
     exact h
    have hlkD := hlk W9.drew g1
    have hlkA := hlk (W9.alloc (.cells #[.int .i64 (qa : Int), .int .i64 (qb : Int)] 53)).drew (g1.alloc _).drew
    have hgr0 : W9.ownsRow (w.heap.size + 6) 53 2 (.slice none 0 0) 0 (flatK encIt ([] : List It)) := World.ownsRow_nil _ _ _ _
    have B5x := hst.box
    have B9x := h99
    have HB9 := Hd (An hst (An g1 (An g2 (An g3 (An g4 (An hgr0 (An hkf hkd)))))))
    have hS11 : W9.drew.cell? ⟨w.heap.size + 1, 0, none⟩ = some (.map (some w.heap.size)) /\ W9.drew.cell? ⟨x9, 5, none⟩ = some (.int .i64 qo) := ⟨b5x, z5x⟩
    have hS11a : (W9.drew.alloc (.cells #[.int .i64 (qa : Int), .int .i64 (qb : Int)] 53)).cell? ⟨w.heap.size + 1, 0, none⟩ = some (.map (some w.heap.size)) /\ (W9.drew.alloc (.cells #[.int .i64 (qa : Int), .int .i64 (qb : Int)] 53)).cell? ⟨x9, 5, none⟩ = some (.int .i64 qo) := ⟨cell_alloc_ hS11.1 _, cell_alloc_ hS11.2 _⟩
    clear hst g1 g2 g3 g4 hgr0 hkf hkd h89 h99 hlk hfn9 i0 hi hz0 hz1 hz2
    refine wpIn_region_out (wideF_wide.inRound lp) (by kernel_rfl) (by kernel_rfl) (by rintro ⟨_, _, h⟩; exact h) ?_
    refine wpAny_of_held (S := (fun W' => W'.cell? ⟨w.heap.size + 1, 0, none⟩ = some (.map (some w.heap.size)) /\ W'.cell? ⟨x9, 5, none⟩ = some (.int .i64 qo))) _ _ _ _ ?_
    show wpAnyH _ _ _ _ _ 11 #[false, false, false, false, false, false, false, false, false, false, false] _ _
    refine held_take (i := 0) (v := .map (some w.heap.size)) rfl (by kernel_rfl) rfl (fun _ _ _ h => h) (fun W' hW' => by obtain ⟨q1, q2⟩ := hW'; go_simp) hS11 ?_
    simp only [Act.put, List.setIfInBounds_toArray, List.set_cons_zero, List.set_cons_succ]
    refine held_take (i := 1) (v := .pointer (some ⟨x9, 5, none⟩)) rfl (by kernel_rfl) rfl (fun _ _ _ h => h) (fun W' hW' => by obtain ⟨q1, q2⟩ := hW'; go_simp) hS11 ?_
    simp only [Act.put, List.setIfInBounds_toArray, List.set_cons_zero, List.set_cons_succ]
    refine held_take (i := 2) (v := .int .i64 qo) rfl (by kernel_rfl) rfl (fun _ _ _ h => h) (fun W' hW' => by obtain ⟨q1, q2⟩ := hW'; go_simp) hS11 ?_
    simp only [Act.put, List.setIfInBounds_toArray, List.set_cons_zero, List.set_cons_succ]
    refine held_take (i := 3) (v := .map (some w.heap.size)) rfl (by kernel_rfl) rfl (fun _ _ _ h => h) (fun W' hW' => by obtain ⟨q1, q2⟩ := hW'; go_simp) hS11 ?_
    simp only [Act.put, List.setIfInBounds_toArray, List.set_cons_zero, List.set_cons_succ]
    refine held_take (i := 4) (v := .pointer (some ⟨x9, 5, none⟩)) rfl (by kernel_rfl) rfl (fun _ _ _ h => h) (fun W' hW' => by obtain ⟨q1, q2⟩ := hW'; go_simp) hS11 ?_
    simp only [Act.put, List.setIfInBounds_toArray, List.set_cons_zero, List.set_cons_succ]
    refine held_take (i := 5) (v := .int .i64 qo) rfl (by kernel_rfl) rfl (fun _ _ _ h => h) (fun W' hW' => by obtain ⟨q1, q2⟩ := hW'; go_simp) hS11 ?_
    simp only [Act.put, List.setIfInBounds_toArray, List.set_cons_zero, List.set_cons_succ]
    apply via
    ·intro KV
     refine held_two (i := 6) (j := 7) (by kernel_rfl) rfl rfl rfl rfl ?_ ?_
     ·intro K hK
      go_simp
      refine hK _ _ hS11 ?_
      clear hK K
      simp only [Act.put, List.setIfInBounds_toArray, List.set_cons_zero, List.set_cons_succ]
      refine held_one (i := 7) (by kernel_rfl) rfl rfl ?_
      intro K hK
      go_simp
      refine hK _ _ hS11 ?_
      clear hK K
      simp only [Act.put, List.setIfInBounds_toArray, List.set_cons_zero, List.set_cons_succ]
      refine held_one (i := 8) (by kernel_rfl) rfl rfl ?_
      intro K hK
      go_simp
      refine hK _ _ hS11a ?_
      clear hK K
      simp only [Act.put, List.setIfInBounds_toArray, List.set_cons_zero, List.set_cons_succ]
      exact KV.out
     ·intro K hK
      go_simp
      refine hK _ _ hS11 ?_
      clear hK K
      simp only [Act.put, List.setIfInBounds_toArray, List.set_cons_zero, List.set_cons_succ]
      refine held_two (i := 6) (j := 8) (by kernel_rfl) rfl rfl rfl rfl ?_ ?_
      ·intro K hK
       go_simp
       refine hK _ _ hS11 ?_
       clear hK K
       simp only [Act.put, List.setIfInBounds_toArray, List.set_cons_zero, List.set_cons_succ]
       refine held_one (i := 8) (by kernel_rfl) rfl rfl ?_
       intro K hK
       go_simp
       refine hK _ _ hS11a ?_
       clear hK K
       simp only [Act.put, List.setIfInBounds_toArray, List.set_cons_zero, List.set_cons_succ]
       exact KV.out
      ·intro K hK
       go_simp
       refine hK _ _ hS11a ?_
       clear hK K
       simp only [Act.put, List.setIfInBounds_toArray, List.set_cons_zero, List.set_cons_succ]
       refine held_one (i := 6) (by kernel_rfl) rfl rfl ?_
       intro K hK
       go_simp
       refine hK _ _ hS11a ?_
       clear hK K
       simp only [Act.put, List.setIfInBounds_toArray, List.set_cons_zero, List.set_cons_succ]
       exact KV.out
    clear hlkD hlkA
    refine held_one (i := 9) (by kernel_rfl) rfl rfl ?_
    obtain ⟨i0, hi, hz0, hz1, hz2⟩ := info_parts infoItem
    intro K9 hK9
    refine wp_append_ownF _ _ _ 50 rfl (w.heap.size + 6) 53 i0 (.agg #[.int .i64 0, .int .i64 0]) 2 16 Tryz.underlying50 hi hz0 hz1 hz2 rfl (by decide) _ 0 (flatK encIt ([] : List It)) rfl (HB9.out.2.2.2.2.2.1.alloc _) ⟨W9.heap.size, 0, none⟩ 1 1 (encIt (qa, qb)) rfl rfl ?c1 ?c2 ?c3 ?c4 ?c5 ?_
    case c1 => exact it_two W9.drew qa qb
    case c2 => exact encIt_one (qa, qb)
    case c3 => unfold maxLen; omega
    case c4 => omega
    case c5 => have := hbS; have := hsX; first | omega | (simp; omega)
    intro v' w5 hown5 hg5 hfr5
    have hgw : W9.grownBy w5 (Value.slice none 0 0).ownBlock := World.grownBy.trans (show W9.grownBy (W9.drew.alloc _) _ from World.grownBy.trans (grown_drewN (grown_refl W9 _) 1) (World.grownBy_alloc _ _ _)) hg5
    have q1 := (hgw.cell b5x (blk_ne_row B5x HB9.out.2.2.2.2.2.1 (by decide)))
    have q2 := (hgw.cell z5x (blk_ne_row B9x HB9.out.2.2.2.2.2.1 (by decide)))
    refine hK9 _ _ ⟨q1, q2⟩ ?_
    clear hK9 K9
    simp only [Act.put, List.setIfInBounds_toArray, List.set_cons_zero, List.set_cons_succ]
    refine held_one (i := 10) (by kernel_rfl) rfl rfl ?_
    have hm5 : MapV Tryz.prog 3 w5 w.heap.size T.length f9 := HB9.out.2.1.grown hgw (fun e => by have := (HB9.out.2.2.2.2.2.1.lt _ e.symm).1; omega)
    intro K10 hK10
    refine wp_mapUpdateV _ _ _ _ 136 rfl 3 50 (int_keyed Tryz.underlying3) Tryz.underlying136 w.heap.size T.length f9 rfl hm5 (by unfold maxLen; omega) _ v' _ rfl rfl HB.out.2.2.2.2.2.2.2.2 ?_
    intro w6 hm6 hg6
    refine hK10 _ _ ⟨hg6.cell q1 (by simp), hg6.cell q2 (by intro e; injection e with e; simp only at e; omega)⟩ ?_
    clear hK10 K10
    refine wpAnyH_done (by kernel_rfl) ?_ _
    simp only [Act.put, List.setIfInBounds_toArray, List.set_cons_zero, List.set_cons_succ]
    show KeepsFrom w1.heap.size W w6 /\ KeepD _ W w6 /\ LeadI _ _ _ _ w6
    refine ⟨(HB9.out.2.2.2.2.2.2.1.trans (KeepsFrom.grown hgw (fun y e => by cases e))).trans (KeepsFrom.of_grownBy hg6 (fun y e => by injection e with e; omega)),
     HB9.out.2.2.2.2.2.2.2.trans ⟨Nat.le_trans hgw.size hg6.size, fun y hy hl => (hg6.block y (Nat.lt_of_lt_of_le hl hgw.size) (by intro e; injection e with e; omega)).trans (hgw.block y hl (fun e => by cases e))⟩, ?_⟩
    have hp := HB9.out.1.pushGrp (by omega) HB9.out.2.2.1 HB9.out.2.2.2.1 HB9.out.2.2.2.2.1 (.inr ⟨HB.out.2.2.2.2.2.2.1, rfl, rfl⟩) hgw HB9.out.2.2.2.2.2.1 hown5
     (fun y hy => (hfr5 y hy).imp id (fun h => by have h2 : (W9.drew.alloc (Obj.cells #[.int .i64 (qa : Int), .int .i64 (qb : Int)] 53)).heap.size <= y := h; rw [World.size_alloc] at h2; have : W9.drew.heap.size = W9.heap.size := rfl; omega)) hm6 hg6
    unfold LeadI
    rw [HB.out.2.2.2.1, ordL_snoc, ofsL_snoc, List.length_append]
    have e1 : ordStep (ordL T) ((qa, qb), ⟨1, qs, qo⟩) = ordL T ++ [qo] := by unfold ordStep; simp [HB.out.2.2.2.2.2.2.1]
    have e3 : grpL T qo = [] := Classical.byContradiction fun h => HB.out.2.2.2.2.2.2.1 (HB.out.2.2.2.2.2.2.2.1.2 h)
    have e2 : grpL (T ++ [((qa, qb), ⟨1, qs, qo⟩)]) = fun t => if t = qo then [] ++ [(qa, qb)] else grpL T t := by
     funext t
     rw [grpL_snoc]
     by_cases e : t = qo
     ·subst e; simp [e3]
     ·simp [e, Ne.symm e]
    rw [e1, e2]
    rw [if_neg HB.out.2.2.2.2.2.2.1] at hp
    simpa using hp
 case done =>
  rintro D W hD hI hK
  rw [List.take_length] at hI
  go_step
  go_step
  exact lead_two g HM.out.2.1 B mb bm sm n s HM.out.2.2.2.2.2.2.1 HM.out.2.2.1 w HM.out.1 HM.out.2.2.2.2.2.2.2.1 HM.out.2.2.2.2.2.2.2.2 hsrt ia ic hvi0 W D hI hK (by omega) _ rfl
theorem lead_all (g : Gr) (hg : Good g) (B mb bm : Nat) (sm : List SM) (n : Nat) (s : SM) (hn : sm[n]? = some s) (hs : Bare s) (w : World) (hm : MkW g B mb bm sm w) (hT : ∀ W', KeepM mb bm w W' -> Bru W') (hLB : LB <= B) :
  Calls Tryz.prog 36 #[.pointer (some ⟨mb, 0, none⟩), .int .i64 (n : Int)] w (Led g B mb bm sm n s w) :=
 lead_any g hg B mb bm sm n s hn hs w hm hT hLB (fun c o v W ho h => sortI_any c o v W ho h)
end Go.Proofs.YtknpkndiflodbaaGreatDoor.Tb
