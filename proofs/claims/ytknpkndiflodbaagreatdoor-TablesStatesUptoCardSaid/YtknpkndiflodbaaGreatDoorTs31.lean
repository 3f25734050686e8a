/- Walks and plain laws that the last text stands on: TbLawSt. -/
import Derived.Test.YtknpkndiflodbaaGreatDoorTs30
import Derived.Test.YtknpkndiflodbaaGreatDoorTs10
import Derived.Test.YtknpkndiflodbaaGreatDoorTs18
set_option linter.unusedVariables false
set_option linter.unusedSimpArgs false
set_option maxRecDepth 100000
set_option maxHeartbeats 16000000
namespace Go.Proofs.YtknpkndiflodbaaGreatDoor.Tb
open Go Go.RowKit Go.Proofs Mx
theorem toSt_inj {sm : List SM} {sts : List St} {rs : List RS} (h : sm.map toSt = sts) (hi : sts.map (·.items) = rs.map (·.items)) (he : sts.map (·.edges) = rs.map (·.edges)) : rs.length = sm.length /\ ∀ (i : Nat) (r : RS), rs[i]? = some r -> ∃ s, sm[i]? = some s /\ s.items = r.items /\ s.edges = r.edges := by
 subst h
 have hl : rs.length = sm.length := by
  have := congrArg List.length hi
  simpa using this.symm
 refine ⟨hl, fun i r hr => ?_⟩
 obtain ⟨s, hs⟩ : ∃ s, sm[i]? = some s := ⟨_, List.getElem?_eq_getElem (by have := (List.getElem?_eq_some_iff.1 hr).1; omega)⟩
 have h1 := congrArg (fun l => l[i]?) hi
 have h2 := congrArg (fun l => l[i]?) he
 simp only [List.getElem?_map, hr, hs, Option.map_some, Option.some.injEq] at h1 h2
 exact ⟨s, hs, h1, h2⟩
theorem symsR_sort {g : Gr} {l : List It} {y : Sy} (h : y ∈ symsR g l) : isSort (g.sorts.length : Int) y = false := by
 refine bool_no fun hs => ?_
 rw [isSort_iff] at hs
 unfold symsR at h
 rcases List.mem_append.1 h with h | h
 ·obtain ⟨n, hn, rfl⟩ := List.mem_map.1 h
  have h1 := List.mem_range.1 (List.mem_filter.1 hn).1
  have h2 : (n : Int) = (g.sorts.length : Int) := hs.2
  omega
 ·obtain ⟨c, _, rfl⟩ := List.mem_map.1 h
  exact absurd (show (0 : Int) = 1 from hs.1) (by decide)
theorem doneF_len (g : Gr) (l : List It) : (doneF g l).length <= l.length := by
 unfold doneF
 rw [List.length_map]
 exact List.length_filter_le _ _
theorem any_take_succ {α : Type} (p : α -> Bool) (l : List α) (k : Nat) {x : α} (h : l[k]? = some x) : (l.take (k + 1)).any p = ((l.take k).any p || p x) := by
 rw [List.take_add_one, h, List.any_append]
 simp
theorem statesLaw_any (g : Gr) (N : Nat) (hN : N <= 2000000) (w : World) (sv pv fv lv : Value) (hG : GramAt w N g sv pv fv lv) (nn : Int) (hbru : Bru w) (hLB : LB <= w.heap.size) :
  Calls Tryz.prog 5 #[.agg #[sv, pv, .int .i64 g.start, fv, lv], .int .i64 nn] w fun e w' => e = .returned (.bool true) /\ Below w.heap.size w w' := by
 obtain ⟨sa, sc, rfl⟩ := slice_shape hG.sorts
 obtain ⟨fa, fc, rfl⟩ := slice_shape hG.forbid
 obtain ⟨la, lc, rfl⟩ := slice_shape hG.follow
 obtain ⟨pa, pc, rfl⟩ := prodsAt_shape hG.prodsAt
 have hwks : ∀ W, Below w.heap.size w W -> Calls Tryz.prog 8 #[] W fun e w' => e = .returned (.bool true) /\ Below W.heap.size W w' := fun W h => works_any W (hbru.below h hLB) (Nat.le_trans hLB h.size)
 have hchk : ∀ W, Below w.heap.size w W -> Calls Tryz.prog 14 #[.agg #[.slice sa g.sorts.length sc, .slice pa g.prods.length pc, .int .i64 g.start, .slice fa g.forbid.length fc, .slice la g.follow.length lc]] W fun e w' => e = .returned (.int .i64 (chkN g)) /\ Below W.heap.size W w' := fun W h => check_any g N hN W _ _ _ _ (hG.keep h)
 have hrchk : ∀ W, Below w.heap.size w W -> Calls Tryz.prog 44 #[.agg #[.slice sa g.sorts.length sc, .slice pa g.prods.length pc, .int .i64 g.start, .slice fa g.forbid.length fc, .slice la g.follow.length lc]] W fun e w' => e = .returned (.int .i64 (chkN g)) /\ Below W.heap.size W w' := fun W h => r06check_any g N hN W _ _ _ _ (hG.keep h)
 have hvst := fun W h => vast_any g N hN W _ _ _ _ (hG.keep h)
 have HE := Hd (An hG (An hbru (An hLB (An hwks (An hchk hrchk)))))
 clear hG hbru hLB hwks hchk hrchk
 go_enter Tryz.func5, Tryz.ntmps5
 go_wp2_with fail
 have hB0 : Blk (w.alloc (.cells #[.slice sa g.sorts.length sc, .slice pa g.prods.length pc, .int .i64 g.start, .slice fa g.forbid.length fc, .slice la g.follow.length lc] 39)) w.heap.size 39 #[.slice sa g.sorts.length sc, .slice pa g.prods.length pc, .int .i64 g.start, .slice fa g.forbid.length fc, .slice la g.follow.length lc] := Blk.new _ _ _
 have hb1 : Below w.heap.size w (w.alloc (.cells #[.slice sa g.sorts.length sc, .slice pa g.prods.length pc, .int .i64 g.start, .slice fa g.forbid.length fc, .slice la g.follow.length lc] 39)) := (Below.refl _ w).alloc (Nat.le_refl _) _
 generalize (w.alloc (.cells #[.slice sa g.sorts.length sc, .slice pa g.prods.length pc, .int .i64 g.start, .slice fa g.forbid.length fc, .slice la g.follow.length lc] 39)) = w1 at hB0 hb1 ⊢
 refine (hvst w1 hb1).mono ?_
 rintro e w2 ⟨rfl, hb2⟩
 have A2 := Hd (An (hB0.below hb2 hB0.lt) (hb1.trans (hb2.mono hb1.size)))
 clear hB0 hb1 hb2 hvst
 cases hv : vastB g with
 | true =>
  go_wp2_with fail
  refine (HE.out.2.2.2.1 w2 A2.out.2).mono ?_
  rintro e w3 ⟨rfl, hb3⟩
  have A3 := Hd (A2.out.2.trans (hb3.mono A2.out.2.size))
  clear hb3
  go_wp2_with fail
  go_ret
  exact ⟨rfl, A3.out⟩
 | false =>
  have HV := Hd hv
  clear hv
  obtain ⟨g0, g1, g2, g3, g4⟩ : w2.cell? ⟨w.heap.size, 0, none⟩ = some (.slice sa g.sorts.length sc) /\ w2.cell? ⟨w.heap.size, 1, none⟩ = some (.slice pa g.prods.length pc) /\ w2.cell? ⟨w.heap.size, 2, none⟩ = some (.int .i64 g.start) /\ w2.cell? ⟨w.heap.size, 3, none⟩ = some (.slice fa g.forbid.length fc) /\ w2.cell? ⟨w.heap.size, 4, none⟩ = some (.slice la g.follow.length lc) := ⟨A2.out.1.cell 0, A2.out.1.cell 1, A2.out.1.cell 2, A2.out.1.cell 3, A2.out.1.cell 4⟩
  by_cases hc : chkN g = 0
  ·have hgd := good_of HE.out.1 HV.out hc
   have hGW := HE.out.1.keep A2.out.2
   have hrm := r9make_any (fun _ => True) g hgd 150 (by decide) (by decide) w2 sa sc (.slice pa g.prods.length pc) (.slice fa g.forbid.length fc) (.slice la g.follow.length lc) hGW.prodsAt (fun W hW => by have := HE.out.2.2.2.2.2 W (A2.out.2.trans (hW.mono A2.out.2.size)); rw [hc] at this; exact this)
   have HC := Hd (An hc hgd)
   clear hc hgd hGW
   go_wp2_with fail
   refine hrm.mono ?_
   rintro e w3 hR
   rcases hR with ⟨wv, rs, sts, hmc, rfl, hRM, hri, hre, hrc, hro, hb3⟩ | ⟨hmc, rfl, hb3⟩
   ·obtain ⟨wa, wc, rfl⟩ := own_shape hRM.row
    have hmF := makeC_F (show 150 <= 16384 by decide) hmc
    have A3 := Hd (An (A2.out.1.below hb3 A2.out.1.lt) (An (A2.out.2.trans (hb3.mono A2.out.2.size)) (An hRM (An hri (An hre hmF)))))
    clear hb3 hrm g0 g1 g2 g3 g4 hRM hri hre hmc hmF
    obtain ⟨g0, g1, g2, g3, g4⟩ : w3.cell? ⟨w.heap.size, 0, none⟩ = some (.slice sa g.sorts.length sc) /\ w3.cell? ⟨w.heap.size, 1, none⟩ = some (.slice pa g.prods.length pc) /\ w3.cell? ⟨w.heap.size, 2, none⟩ = some (.int .i64 g.start) /\ w3.cell? ⟨w.heap.size, 3, none⟩ = some (.slice fa g.forbid.length fc) /\ w3.cell? ⟨w.heap.size, 4, none⟩ = some (.slice la g.follow.length lc) := ⟨A3.out.1.cell 0, A3.out.1.cell 1, A3.out.1.cell 2, A3.out.1.cell 3, A3.out.1.cell 4⟩
    have hGW := HE.out.1.keep A3.out.2.1
    have hmk := make_any (fun _ => True) g HC.out.2 w3 (.slice sa g.sorts.length sc) _ fa la g.forbid.length fc g.follow.length lc hGW.sorts hGW.prodsAt (fun W hW => by have := HE.out.2.2.2.2.1 W (A3.out.2.1.trans (hW.mono A3.out.2.1.size)); rw [HC.out.1] at this; exact this) (HE.out.2.1.below A3.out.2.1 HE.out.2.2.1) (Nat.le_trans HE.out.2.2.1 A3.out.2.1.size)
    clear hGW
    go_wp2_with fail
    refine hmk.mono ?_
    rintro e w4 hM
    rcases hM with ⟨tb, B, sm, hm, rfl, hTW, hnx, hb4⟩ | ⟨hm, rfl, hb4⟩
    ·have hss : sts = sm.map toSt := by have h := A3.out.2.2.2.2.2; rw [hm] at h; injection h with h; exact h.symm
     have hml := makeF_law hm
     obtain ⟨hrl, hrs⟩ := toSt_inj hss.symm A3.out.2.2.2.1 A3.out.2.2.2.2.1
     have hTP : TabP g B (.pointer (some ⟨tb, 0, none⟩)) sm w4 := .inr ⟨tb, rfl, hTW⟩
     have A4 := Hd (An (A3.out.1.below hb4 A3.out.1.lt) (An (A3.out.2.1.trans (hb4.mono A3.out.2.1.size)) (An (A3.out.2.2.1.below hb4) (An hTP (An hml (An hnx hrs))))))
     have hrl1 : (rs.length : Int) = (sm.length : Int) := by omega
     have hsta := states_any g B (.pointer (some ⟨tb, 0, none⟩)) sm w4 hTP
     rw [<- hrl1] at hsta
     have HRL := Hd hrl
     clear hm hmk hss hml hrs hTP hTW hnx hb4 hrl1 hrl g0 g1 g2 g3 g4
     go_wp2_with fail
     refine (num_any 0 w4).mono ?_
     rintro e w4 ⟨rfl, rfl⟩
     go_wp2_with fail
     refine hsta.mono ?_
     rintro e w4 ⟨rfl, rfl⟩
     clear hsta
     go_wp2_with fail
     refine (start_any (.pointer (some ⟨tb, 0, none⟩)) w4).mono ?_
     rintro e w4 ⟨rfl, rfl⟩
     go_wp2_with fail
     go_loopg [9] rs.length (fun m v9 wx => ∃ i : Nat, i <= rs.length /\ m = rs.length - i /\ v9 = .int .i64 (i : Int) /\ Below w4.heap.size w4 wx)
     case atStart => exact ⟨0, Nat.zero_le _, rfl, rfl, Below.refl _ _⟩
     case round =>
      obtain ⟨i, hi, hm, rfl, hbx⟩ := hrel
      have hb0 := A4.out.2.1.trans (hbx.mono A4.out.2.1.size)
      have hgB := A4.out.1.below hbx A4.out.1.lt
      have hRx := A4.out.2.2.1.below hbx
      have hTx := A4.out.2.2.2.1.below hbx
      by_cases hil : i < rs.length
      ·obtain ⟨⟨vi, ve, IT, ED⟩, hr⟩ : ∃ r, rs[i]? = some r := ⟨_, List.getElem?_eq_getElem hil⟩
       obtain ⟨s, hs, hsI, hsE⟩ := A4.out.2.2.2.2.2.2 i _ hr
       simp only at hsI hsE
       have hst := stAt_in hs
       have hsl := (List.getElem?_eq_some_iff.1 hs).1
       have hlaw := stLaw_at A4.out.2.2.2.2.1 hsl
       have hok := hRx.each _ (List.mem_of_getElem? hr)
       have hold := hRx.old i _ hil hr
       simp only at hold
       have hE := edgesOk_of HC.out.2 hlaw
       have hEl := edges_len HC.out.2 A4.out.2.2.2.2.1 hsl
       have hdn : (stAt sm (i : Int)).done = doneF g IT := by have := hlaw.done; rw [hst] at this ⊢; rw [<- hsI]; exact this
       have hEE : (toSt (stAt sm (i : Int))).edges = ED := by rw [hst, <- hsE]; rfl
       have hED : (stAt sm (i : Int)).edges = ED := by rw [hst, <- hsE]
       have hIT : (stAt sm (i : Int)).items = IT := by rw [hst, <- hsI]
       have hnxt : (stAt sm (i : Int)).next = nextF ED := by rw [hst, <- hsE]; exact A4.out.2.2.2.2.2.1 s (List.mem_of_getElem? hs)
       rw [hEE] at hE
       rw [hED] at hEl
       obtain ⟨gb, gcap, hgv, _⟩ := own_some hRx.row (by omega)
       injection hgv with e1 e2 e3
       subst e1
       have r0 : wr.cell? ⟨gb, i * 2, none⟩ = some vi := own_cellK encRS_len hRx.row hr 0 rfl
       have r1 : wr.cell? ⟨gb, i * 2 + 1, none⟩ = some ve := own_cellK encRS_len hRx.row hr 1 rfl
       have hil31 : IT.length <= 3100 := hok.len
       have hdl : (doneF g IT).length <= 3100 := Nat.le_trans (doneF_len g IT) hil31
       have hP := (HE.out.1.keep hb0).prodsAt
       have hgl := HC.out.2.prods
       have hsc : ∀ W, Below wr.heap.size wr W -> Calls Tryz.prog 20 #[.pointer (some ⟨tb, 0, none⟩), .agg #[.slice sa g.sorts.length sc, .slice pa g.prods.length pc, .int .i64 g.start, .slice fa g.forbid.length fc, .slice la g.follow.length lc], .int .i64 (i : Int), .agg #[vi, ve]] W fun e w' => e = .returned (.bool true) /\ Below W.heap.size W w' := fun W hW =>
        state_any (fun _ => True) (fun _ => True) (fun _ => True) g (by omega) B (.pointer (some ⟨tb, 0, none⟩)) sm i W (.slice sa g.sorts.length sc) (.slice pa g.prods.length pc) (.slice fa g.forbid.length fc) (.slice la g.follow.length lc) vi ve (hP.keep fun q _ hl => ⟨trivial, hW.block q hl⟩) (hTx.below hW) IT ED (doneF g IT) hIT hED hdn hE hEl hil31 hdl rfl hok.ok hnxt ((hok.items.imp (D' := fun _ => True) fun _ _ _ => trivial).all hW) ((hold.imp (D' := fun _ => True) fun _ _ _ => trivial).all hW)
       obtain ⟨g0, g1, g2, g3, g4⟩ : wr.cell? ⟨w.heap.size, 0, none⟩ = some (.slice sa g.sorts.length sc) /\ wr.cell? ⟨w.heap.size, 1, none⟩ = some (.slice pa g.prods.length pc) /\ wr.cell? ⟨w.heap.size, 2, none⟩ = some (.int .i64 g.start) /\ wr.cell? ⟨w.heap.size, 3, none⟩ = some (.slice fa g.forbid.length fc) /\ wr.cell? ⟨w.heap.size, 4, none⟩ = some (.slice la g.follow.length lc) := ⟨hgB.cell 0, hgB.cell 1, hgB.cell 2, hgB.cell 3, hgB.cell 4⟩
       have hi0 : (0 : Int) <= (i : Int) := by omega
       have hi1 : (i : Int) < (rs.length : Int) := by omega
       obtain ⟨ia, ic, hvi⟩ := slice_shape hok.items
       simp only at hvi
       obtain ⟨ea, ec, rfl, _, _, hek⟩ := id hold
       have hscd := hsc wr.drew (Below.refl _ _).drew
       have Q := Hd (An hm (An hbx (An hE (An hEl (An hED (An hgB (An hRx (An hTx (An hr hek)))))))))
       clear hm hbx hE hEl hEE hED hIT hgB hRx hTx hr hold hok hsc hdn hlaw hst hs hsI hsE hsl hP hgl hil31 hdl hnxt e2 e3 hb0 hvi
       obtain ⟨wt, rfl⟩ : ∃ wt : World, wt = wr := ⟨_, rfl⟩
       go_wp2_with fail
       go_still_tail 7, (by kernel_rfl)
       repeat still_step
       try refine wpStill_nil ?_
       change wpList _ _ _ _ _ wt.drew
       go_wp2_with fail
       refine hscd.mono ?_
       rintro e w5 ⟨rfl, hb5⟩
       have hbt5 : Below wt.heap.size wt w5 := (show Below wt.heap.size wt wt.drew from (Below.refl _ _).drew).trans hb5
       have H5 := Hd (An hbt5 (An (Q.out.2.2.2.2.2.1.below hbt5 Q.out.2.2.2.2.2.1.lt) (Q.out.2.1.trans (hbt5.mono Q.out.2.1.size))))
       clear hb5 hbt5 hscd g0 g1 g2 g3 g4 r0 r1
       go_wp2_with fail
       go_loopg [10] g.sorts.length (fun m v10 wx => ∃ s : Nat, s <= g.sorts.length /\ m = g.sorts.length - s /\ v10 = .int .i64 (s : Int) /\ Below w5.heap.size w5 wx)
       case atStart => exact ⟨0, Nat.zero_le _, rfl, rfl, Below.refl _ _⟩
       case round =>
        obtain ⟨s, hs, hms, rfl, hby⟩ := hrel
        have q0 : wr.cell? ⟨w.heap.size, 0, none⟩ = some (.slice sa g.sorts.length sc) := (H5.out.2.1.below hby H5.out.2.1.lt).cell 0
        by_cases hsl : s < g.sorts.length
        ·have hbty := H5.out.1.trans (hby.mono H5.out.1.size)
         have hRy := Q.out.2.2.2.2.2.2.1.below hbty
         have r1 : wr.cell? ⟨gb, i * 2 + 1, none⟩ = some (.slice ea ED.length ec) := own_cellK encRS_len hRy.row Q.out.2.2.2.2.2.2.2.2.1 1 rfl
         have hsl1 : (s : Int) < (g.sorts.length : Int) := by omega
         have HS := Hd (An hms (An hby (An hbty hRy)))
         clear hms hby hbty hRy
         have hEl2 := Q.out.2.2.2.1
         have hgs := HC.out.2.sorts
         obtain ⟨wu, rfl⟩ : ∃ wu : World, wu = wr := ⟨_, rfl⟩
         go_wp2_with fail
         go_loopg [11, 12] ED.length (fun m v11 v12 wx => ∃ k : Nat, k <= ED.length /\ m = ED.length - k /\ v12 = .int .i64 (k : Int) /\ v11 = .bool ((ED.take k).any fun e => isSort (s : Int) e.1) /\ wx = wu)
         case atStart => exact ⟨0, Nat.zero_le _, rfl, rfl, rfl, rfl⟩
         case round =>
          obtain ⟨k, hk, hmk, rfl, rfl, rfl⟩ := hrel
          by_cases hkl : k < ED.length
          ·obtain ⟨⟨⟨yk, yS, ys⟩, tn⟩, hx⟩ : ∃ x, ED[k]? = some x := ⟨_, List.getElem?_eq_getElem hkl⟩
           obtain ⟨eb, eo, rfl, _, her⟩ := Q.out.2.2.2.2.2.2.2.2.2 (by rintro h; rw [h] at hkl; simp at hkl)
           have up := HS.out.2.2.1.block eb her.lt
           have z0 : wr.cell? ⟨eb, eo + k * 7, none⟩ = some (.int .i64 yk) := (World.cell?_of_block up).trans (her.cells k _ hx 0 _ rfl)
           have z1 : wr.cell? ⟨eb, eo + k * 7 + 1, none⟩ = some (.int .u64 (wd yS 0)) := (World.cell?_of_block up).trans (her.cells k _ hx 1 _ rfl)
           have z2 : wr.cell? ⟨eb, eo + k * 7 + 2, none⟩ = some (.int .u64 (wd yS 1)) := (World.cell?_of_block up).trans (her.cells k _ hx 2 _ rfl)
           have z3 : wr.cell? ⟨eb, eo + k * 7 + 3, none⟩ = some (.int .u64 (wd yS 2)) := (World.cell?_of_block up).trans (her.cells k _ hx 3 _ rfl)
           have z4 : wr.cell? ⟨eb, eo + k * 7 + 4, none⟩ = some (.int .u64 (wd yS 3)) := (World.cell?_of_block up).trans (her.cells k _ hx 4 _ rfl)
           have z5 : wr.cell? ⟨eb, eo + k * 7 + 5, none⟩ = some (.int .i64 ys) := (World.cell?_of_block up).trans (her.cells k _ hx 5 _ rfl)
           have hat := any_take_succ (fun e : Sy × Nat => isSort (s : Int) e.1) ED k hx
           simp only at hat
           have hse := eqSy_sort (Q.out.2.2.1.sym _ (List.mem_of_getElem? hx)) (s : Int)
           simp only at hse
           obtain ⟨bq, hbq⟩ : ∃ b, isSort (s : Int) ⟨yk, yS, ys⟩ = b := ⟨_, rfl⟩
           rw [hbq] at hse hat
           have hqe := fun W => eql_sym yk (wd yS 0) (wd yS 1) (wd yS 2) (wd yS 3) ys 1 0 0 0 0 (s : Int) W
           rw [hse] at hqe
           obtain ⟨bl, hbl⟩ : ∃ b, ((ED.take k).any fun e => isSort (s : Int) e.1) = b := ⟨_, rfl⟩
           rw [hbl] at hat ⊢
           have hk0 : (0 : Int) <= (k : Int) := by omega
           have hk1 : (k : Int) < (ED.length : Int) := by omega
           have M := Hd (An hmk hat)
           clear hmk hat hx her up hse hbq hbl
           cases bl with
           | true =>
            clear z0 z1 z2 z3 z4 z5 hqe
            go_wp2_with fail
            go_roundg (ED.length - (k + 1))
            case measure => have h1 := M.out.1; omega
            case rel => exact ⟨k + 1, by omega, rfl, rfl, by rw [M.out.2]; rfl, rfl⟩
           | false =>
            go_wp2_with fail
            go_roundg (ED.length - (k + 1))
            case measure => have h1 := M.out.1; omega
            case rel => exact ⟨k + 1, by omega, rfl, rfl, by rw [M.out.2]; rfl, rfl⟩
          ·obtain rfl : k = ED.length := by omega
           rw [List.take_length]
           have hgt := goto_any g B (.pointer (some ⟨tb, 0, none⟩)) sm (i : Int) (s : Int) wr (Q.out.2.2.2.2.2.2.2.1.below HS.out.2.2.1) (by rw [Q.out.2.2.2.2.1]; have := Q.out.2.2.2.1; omega)
           rw [Q.out.2.2.2.2.1] at hgt
           obtain ⟨hf1, hf2⟩ := toF_ok (isSort (s : Int)) ED
           obtain ⟨tz, htz⟩ : ∃ tz, (toF (isSort (s : Int)) ED).1 = tz := ⟨_, rfl⟩
           obtain ⟨ob, hob⟩ : ∃ ob, (ED.any fun e => isSort (s : Int) e.1) = ob := ⟨_, rfl⟩
           rw [hf1, htz, hob] at hgt
           simp only at hgt
           rw [hob, htz] at hf2
           rw [hob]
           have M := Hd hf2
           clear hmk hf1 hf2 htz hob
           go_wp2_with fail
           refine hgt.mono ?_
           rintro e w6 ⟨rfl, hb6⟩
           have H6 := Hd (HS.out.2.1.trans (hb6.mono HS.out.2.1.size))
           clear hb6 hgt r1 q0
           cases ob with
           | true =>
            go_wp2_with fail
            go_roundg (g.sorts.length - (s + 1))
            case measure => have h1 := HS.out.1; omega
            case rel => exact ⟨s + 1, by omega, rfl, rfl, H6.out⟩
           | false =>
            have htz := M.out rfl
            subst htz
            go_wp2_with fail
            go_roundg (g.sorts.length - (s + 1))
            case measure => have h1 := HS.out.1; omega
            case rel => exact ⟨s + 1, by omega, rfl, rfl, H6.out⟩
        ·obtain rfl : s = g.sorts.length := by omega
         have H6 := Hd (H5.out.2.2.trans (hby.mono H5.out.2.2.size))
         clear hby hms
         go_wp2_with fail
         go_roundg (rs.length - (i + 1))
         case measure => have h1 := Q.out.1; omega
         case rel => exact ⟨i + 1, by omega, rfl, rfl, H6.out⟩
      ·obtain rfl : i = rs.length := by omega
       have q0 : wr.cell? ⟨w.heap.size, 0, none⟩ = some (.slice sa g.sorts.length sc) := hgB.cell 0
       have hs0 : 0 < sm.length := by have := HRL.out; omega
       have hgt := goto_any g B (.pointer (some ⟨tb, 0, none⟩)) sm 0 (g.sorts.length : Int) wr hTx (by have := edges_len HC.out.2 A4.out.2.2.2.2.1 hs0; simp only [Int.ofNat_zero] at this; exact Nat.le_trans this (by decide))
       have hmiss : toF (isSort (g.sorts.length : Int)) (stAt sm 0).edges = (0, false) := by
        refine toF_miss _ _ fun x hx => ?_
        have h1 := edges_syms HC.out.2 (stLaw_at A4.out.2.2.2.2.1 hs0)
        have h2 : x.1 ∈ ((toSt (stAt sm ((0 : Nat) : Int))).edges).map (·.1) := List.mem_map_of_mem hx
        rw [h1] at h2
        exact symsR_sort h2
       rw [hmiss] at hgt
       have Q := Hd (An hb0 hTx)
       clear hbx hb0 hgB hRx hTx hm hmiss hs0
       go_wp2_with fail
       refine hgt.mono ?_
       rintro e w5 ⟨rfl, hb5⟩
       have H5 := Hd (An (Q.out.1.trans (hb5.mono Q.out.1.size)) (Q.out.2.below hb5))
       clear hb5 hgt q0
       have fin : ∀ (n2 : Int), stAt sm n2 = noSM -> ∀ W, Below w5.heap.size w5 W -> Calls Tryz.prog 19 #[.pointer (some ⟨tb, 0, none⟩), .int .i64 n2] W fun e w' => e = .returned (.bool true) /\ Below W.heap.size W w' := fun n2 h2 W hW => none_any g B _ sm n2 W (H5.out.2.below hW) h2
       have fil : ∀ (n2 : Int) W, Calls Tryz.prog 19 #[.pointer none, .int .i64 n2] W fun e w' => e = .returned (.bool true) /\ Below W.heap.size W w' := fun n2 W => none_any g 0 _ [] n2 W (.inl ⟨rfl, rfl⟩) (by unfold stAt; split <;> rfl)
       have HF := Hd (An fin fil)
       clear fin fil
       by_cases hn0 : 0 <= nn
       ·by_cases hn1 : nn < (rs.length : Int)
        ·go_wp2_with fail
         refine (HF.out.1 (rs.length : Int) (stAt_out (.inr (by have := HRL.out; omega))) w5 (Below.refl _ _)).mono ?_
         rintro e w6 ⟨rfl, hb6⟩
         have H6 := Hd (H5.out.1.trans (hb6.mono H5.out.1.size))
         clear hb6
         go_wp2_with fail
         refine (HF.out.2 (rs.length : Int) w6).mono ?_
         rintro e w7 ⟨rfl, hb7⟩
         have H7 := Hd (H6.out.trans (hb7.mono H6.out.size))
         clear hb7
         go_wp2_with fail
         refine (HE.out.2.2.2.1 w7 H7.out).mono ?_
         rintro e w8 ⟨rfl, hb8⟩
         have H8 := Hd (H7.out.trans (hb8.mono H7.out.size))
         clear hb8
         go_wp2_with fail
         go_ret
         exact ⟨rfl, H8.out⟩
        ·have hnn : ¬ nn < (rs.length : Int) := hn1
         go_wp2_with fail
         refine (HF.out.1 nn (stAt_out (.inr (by have := HRL.out; omega))) w5 (Below.refl _ _)).mono ?_
         rintro e w6 ⟨rfl, hb6⟩
         have H6 := Hd (H5.out.1.trans (hb6.mono H5.out.1.size))
         clear hb6
         go_wp2_with fail
         refine (HF.out.2 nn w6).mono ?_
         rintro e w7 ⟨rfl, hb7⟩
         have H7 := Hd (H6.out.trans (hb7.mono H6.out.size))
         clear hb7
         go_wp2_with fail
         refine (HE.out.2.2.2.1 w7 H7.out).mono ?_
         rintro e w8 ⟨rfl, hb8⟩
         have H8 := Hd (H7.out.trans (hb8.mono H7.out.size))
         clear hb8
         go_wp2_with fail
         go_ret
         exact ⟨rfl, H8.out⟩
       ·go_wp2_with fail
        refine (HF.out.1 nn (stAt_out (.inl (by omega))) w5 (Below.refl _ _)).mono ?_
        rintro e w6 ⟨rfl, hb6⟩
        have H6 := Hd (H5.out.1.trans (hb6.mono H5.out.1.size))
        clear hb6
        go_wp2_with fail
        refine (HF.out.2 nn w6).mono ?_
        rintro e w7 ⟨rfl, hb7⟩
        have H7 := Hd (H6.out.trans (hb7.mono H6.out.size))
        clear hb7
        go_wp2_with fail
        refine (HE.out.2.2.2.1 w7 H7.out).mono ?_
        rintro e w8 ⟨rfl, hb8⟩
        have H8 := Hd (H7.out.trans (hb8.mono H7.out.size))
        clear hb8
        go_wp2_with fail
        go_ret
        exact ⟨rfl, H8.out⟩
    ·exfalso
     have h := A3.out.2.2.2.2.2
     rw [hm] at h
     cases h
   ·have A3 := Hd (A2.out.2.trans (hb3.mono A2.out.2.size))
    clear hb3 hrm g0 g1 g2 g3 g4 hmc
    go_wp2_with fail
    refine (HE.out.2.2.2.1 w3 A3.out).mono ?_
    rintro e w4 ⟨rfl, hb4⟩
    have A4 := Hd (A3.out.trans (hb4.mono A3.out.size))
    clear hb4
    go_wp2_with fail
    go_ret
    exact ⟨rfl, A4.out⟩
  ·have hc160 : chkN g = 160 := by
    unfold chkN at hc ⊢
    split at hc
    ·exact absurd rfl hc
    ·rw [if_neg (by assumption)]
   have hrm := r9make_no 150 w2 (.slice sa g.sorts.length sc) (.slice pa g.prods.length pc) (.int .i64 g.start) (.slice fa g.forbid.length fc) (.slice la g.follow.length lc) (fun W hW => by have := HE.out.2.2.2.2.2 W (A2.out.2.trans (hW.mono A2.out.2.size)); rw [hc160] at this; exact this)
   have HC := Hd hc160
   clear hc hc160
   go_wp2_with fail
   refine hrm.mono ?_
   rintro e w3 ⟨rfl, hb3⟩
   have A3 := Hd (An (A2.out.1.below hb3 A2.out.1.lt) (A2.out.2.trans (hb3.mono A2.out.2.size)))
   clear hb3 hrm g0 g1 g2 g3 g4
   obtain ⟨g0, g1, g2, g3, g4⟩ : w3.cell? ⟨w.heap.size, 0, none⟩ = some (.slice sa g.sorts.length sc) /\ w3.cell? ⟨w.heap.size, 1, none⟩ = some (.slice pa g.prods.length pc) /\ w3.cell? ⟨w.heap.size, 2, none⟩ = some (.int .i64 g.start) /\ w3.cell? ⟨w.heap.size, 3, none⟩ = some (.slice fa g.forbid.length fc) /\ w3.cell? ⟨w.heap.size, 4, none⟩ = some (.slice la g.follow.length lc) := ⟨A3.out.1.cell 0, A3.out.1.cell 1, A3.out.1.cell 2, A3.out.1.cell 3, A3.out.1.cell 4⟩
   have hmk := make_no w3 (.slice sa g.sorts.length sc) (.slice pa g.prods.length pc) (.int .i64 g.start) (.slice fa g.forbid.length fc) (.slice la g.follow.length lc) (fun W hW => by have := HE.out.2.2.2.2.1 W (A3.out.2.trans (hW.mono A3.out.2.size)); rw [HC.out] at this; exact this)
   go_wp2_with fail
   refine hmk.mono ?_
   rintro e w4 ⟨rfl, hb4⟩
   have A4 := Hd (A3.out.2.trans (hb4.mono A3.out.2.size))
   clear hb4 hmk g0 g1 g2 g3 g4
   have hsta := states_any g 0 (.pointer none) [] w4 (.inl ⟨rfl, rfl⟩)
   go_wp2_with fail
   refine (num_any 160 w4).mono ?_
   rintro e w4 ⟨rfl, rfl⟩
   go_wp2_with fail
   refine hsta.mono ?_
   rintro e w4 ⟨rfl, rfl⟩
   clear hsta
   go_wp2_with fail
   refine (start_any (.pointer none) w4).mono ?_
   rintro e w4 ⟨rfl, rfl⟩
   go_wp2_with fail
   refine (none_any g 0 (.pointer none) [] nn w4 (.inl ⟨rfl, rfl⟩) (by unfold stAt; split <;> rfl)).mono ?_
   rintro e w5 ⟨rfl, hb5⟩
   have A5 := Hd (A4.out.trans (hb5.mono A4.out.size))
   clear hb5
   go_wp2_with fail
   refine (HE.out.2.2.2.1 w5 A5.out).mono ?_
   rintro e w6 ⟨rfl, hb6⟩
   have A6 := Hd (A5.out.trans (hb6.mono A5.out.size))
   clear hb6
   go_wp2_with fail
   go_ret
   exact ⟨rfl, A6.out⟩
end Go.Proofs.YtknpkndiflodbaaGreatDoor.Tb
