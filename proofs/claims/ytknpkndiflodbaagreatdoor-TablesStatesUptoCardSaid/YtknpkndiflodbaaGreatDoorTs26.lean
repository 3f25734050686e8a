/- Walks and plain laws that the last text stands on: TbRef9F. -/
import Derived.Test.YtknpkndiflodbaaGreatDoorTs25
import Derived.Test.YtknpkndiflodbaaGreatDoorTs17
set_option linter.unusedVariables false
set_option linter.unusedSimpArgs false
set_option maxRecDepth 100000
set_option maxHeartbeats 16000000
namespace Go.Proofs.YtknpkndiflodbaaGreatDoor.Tb
open Go Go.RowKit Go.Proofs Mx
def fstN (g : Gr) (n : Nat) : List It := (ofT g n g.start).map (·, 0)
theorem fstN_succ (g : Gr) (n : Nat) {p : Pr} (h : g.prods[n]? = some p) : fstN g (n + 1) = if p.left = g.start /\ p.role ≠ 11 then fstN g n ++ [(n, 0)] else fstN g n := by
 unfold fstN
 rw [ofT_succ g n g.start p h]
 split <;> simp
theorem fstN_len (g : Gr) (n : Nat) : (fstN g n).length <= n := by unfold fstN; rw [List.length_map]; exact ofT_len g n _
theorem fstN_all (g : Gr) : fstN g g.prods.length = (ofS g g.start).map (·, 0) := rfl
theorem ahead_from {g : Gr} {x : It} {y : Sy} (h : aheadF g x = some y) : ∃ p ∈ g.prods, y ∈ p.right := by
 unfold aheadF rightOf at h
 cases hp : g.prods[x.1]? with
 | none => rw [hp] at h; simp at h
 | some p => rw [hp] at h; exact ⟨p, List.mem_of_getElem? hp, List.mem_of_getElem? h⟩
theorem goodA_sets {g : Gr} (h : Good g) : SetsOk g := fun x y hx hk => by
 obtain ⟨p, hp, hy⟩ := ahead_from hx
 rcases h.sym p hp y hy with h1 | h1
 ·exact h1.2.2.2
 ·rw [hk] at h1; exact absurd h1.1 (by decide)
theorem goodA_sorts {g : Gr} (h : Good g) : SortsAt g := fun x y hx hk => by
 obtain ⟨p, hp, hy⟩ := ahead_from hx
 rcases h.sym p hp y hy with h1 | h1
 ·rw [hk] at h1; exact absurd h1.1 (by decide)
 ·exact h1.2.2
theorem goodA_nosort {g : Gr} (h : Good g) : NoSort g := fun x y hx hk => by
 obtain ⟨p, hp, hy⟩ := ahead_from hx
 rcases h.sym p hp y hy with h1 | h1
 ·exact h1.2.1
 ·rw [hk] at h1; exact absurd h1.1 (by decide)
theorem leads_led {g : Gr} (h : Good g) (l : List It) : leadsF g l = ledR g l := leadsF_eq (goodA_sets h) (goodA_sorts h) (goodA_nosort h) l
def MadeR (C : Nat) (g : Gr) (w : World) (e : Ending) (w' : World) : Prop :=
 (∃ v sm sts, makeC C g = some sts /\ e = .returned (.tuple #[v, .int .i64 0]) /\ RefM g w.heap.size w'.heap.size sm.length sm.length v sm w' /\ sts.map (·.items) = sm.map (·.items) /\ sts.map (·.edges) = sm.map (·.edges) /\ sm.length <= C /\ 1 <= sm.length /\ Below w.heap.size w w') ∨
 (makeC C g = none /\ e = .returned (.tuple #[.slice none 0 0, .int .i64 3]) /\ Below w.heap.size w w')
structure RefO (g : Gr) (C : Nat) (w1 : World) (n : Nat) (sm : List RS) (sts : List St) (v : Value) (wx : World) : Prop where
 le : n <= sm.length
 cap : sm.length <= C
 one : 1 <= sm.length
 mem : RefM g w1.heap.size wx.heap.size n n v sm wx
 nodup : (sm.map (·.items)).Nodup
 at_ : StatesAt C g n (sm.map (·.items)) sts
 items : sts.map (·.items) = (sm.take n).map (·.items)
 edges : sts.map (·.edges) = (sm.take n).map (·.edges)
 below : Below w1.heap.size w1 wx
structure RefI (g : Gr) (C : Nat) (w1 : World) (C0 n : Nat) (vi : Value) (l : List It) (sm : List RS) (i : Nat) (si : List RS) (e : List (Sy × Nat)) (ve v : Value) (wx : World) : Prop where
 cap : si.length <= C
 mem : RefM g w1.heap.size C0 n (n + 1) v si wx
 at_ : si[n]? = some ⟨vi, ve, l, e⟩
 eds : wx.ownsRow C0 64 7 ve e.length (flatK encEd e)
 num : numbersC C (sm.map (·.items)) ((ledR g l).take i) = some (e, si.map (·.items))
 nodup : (si.map (·.items)).Nodup
 pre : si.take n = sm.take n
 below : Below w1.heap.size w1 wx
 size : C0 <= wx.heap.size
theorem RefI.next {g : Gr} {C : Nat} {w1 : World} {C0 n : Nat} {vi : Value} {l : List It} {sm : List RS} {i : Nat} {sj : List RS} {e : List (Sy × Nat)} {ve xv v : Value} {W : World} {y : Sy} {tn : Nat} (hcap : sj.length <= C)
  (hM : RefM g w1.heap.size C0 n (n + 1) v (sj.set n ⟨vi, xv, l, e ++ [(y, tn)]⟩) W) (ho : W.ownsRow C0 64 7 xv (e ++ [(y, tn)]).length (flatK encEd (e ++ [(y, tn)]))) (hat : sj[n]? = some ⟨vi, ve, l, e⟩)
  (hnum : numbersC C (sm.map (·.items)) ((ledR g l).take (i + 1)) = some (e ++ [(y, tn)], sj.map (·.items))) (hnd : (sj.map (·.items)).Nodup) (hpre : sj.take n = sm.take n) (hb : Below w1.heap.size w1 W) (hs : C0 <= W.heap.size) :
  RefI g C w1 C0 n vi l sm (i + 1) (sj.set n ⟨vi, xv, l, e ++ [(y, tn)]⟩) (e ++ [(y, tn)]) xv v W := by
 have h1 := map_set_same (·.items) hat (s' := ⟨vi, xv, l, e ++ [(y, tn)]⟩) rfl
 refine ⟨by rw [List.length_set]; exact hcap, hM, List.getElem?_set_self (List.getElem?_eq_some_iff.1 hat).1, ho, ?_, ?_, ?_, hb, hs⟩
 ·rw [h1]; exact hnum
 ·rw [h1]; exact hnd
 ·rw [List.take_set_of_le (Nat.le_refl _)]; exact hpre
def edR (gb gcap SL n : Nat) (ve : Value) (yb BL yc i : Nat) (yk : Int) (yw : Int × Int × Int × Int) (ys : Int) (tn B0 C0 el : Nat) (xs : List Value) (j : Nat) (v : Value) (W : World) : Prop :=
 match j with
 | 0 => v = .slice (some ⟨gb, 0, none⟩) SL gcap
 | 1 => v = .int .i64 (n : Int)
 | 2 => v = .slice (some ⟨gb, 0, none⟩) SL gcap
 | 3 => v = .int .i64 (n : Int)
 | 4 => v = .pointer (some ⟨gb, n * 2, none⟩)
 | 5 => v = .pointer (some ⟨gb, n * 2 + 1, none⟩)
 | 6 => v = ve
 | 7 => v = .slice (some ⟨yb, 0, none⟩) BL yc
 | 8 => v = .int .i64 (i : Int)
 | 9 => v = .pointer (some ⟨yb, i * 6, none⟩)
 | 10 => v = .agg #[.int .i64 yk, .int .u64 yw.1, .int .u64 yw.2.1, .int .u64 yw.2.2.1, .int .u64 yw.2.2.2, .int .i64 ys]
 | 11 => v = .int .i64 (tn : Int)
 | 12 => v = .agg #[.int .i64 yk, .int .u64 yw.1, .int .u64 yw.2.1, .int .u64 yw.2.2.1, .int .u64 yw.2.2.2, .int .i64 ys, .int .i64 (tn : Int)]
 | 13 => ∃ b, v = .slice (some ⟨b, 0, none⟩) 1 1 /\ Blk W b 64 #[.int .i64 yk, .int .u64 yw.1, .int .u64 yw.2.1, .int .u64 yw.2.2.1, .int .u64 yw.2.2.2, .int .i64 ys, .int .i64 (tn : Int)] /\ B0 <= b
 | 14 => W.ownsRow C0 64 7 v (el + 1) (xs ++ [.int .i64 yk, .int .u64 yw.1, .int .u64 yw.2.1, .int .u64 yw.2.2.1, .int .u64 yw.2.2.2, .int .i64 ys, .int .i64 (tn : Int)])
 | 15 => v = .pointer (some ⟨gb, n * 2, none⟩)
 | 16 => v = .pointer (some ⟨gb, n * 2 + 1, none⟩)
 | _ => True
theorem edR_low {gb gcap SL n : Nat} {ve : Value} {yb BL yc i : Nat} {yk : Int} {yw : Int × Int × Int × Int} {ys : Int} {tn B0 C0 el : Nat} {xs : List Value} (j : Nat) (v : Value) {W W' : World} (h : edR gb gcap SL n ve yb BL yc i yk yw ys tn B0 C0 el xs j v W) (hb : Below W.heap.size W W') : edR gb gcap SL n ve yb BL yc i yk yw ys tn B0 C0 el xs j v W' := by
 unfold edR at h ⊢
 split at h <;> first | exact h | skip
 ·obtain ⟨b, e, h1, h2⟩ := h
  exact ⟨b, e, h1.below hb h1.lt, h2⟩
 ·exact row_below h hb
theorem edR_grown {gb gcap SL n : Nat} {ve : Value} {yb BL yc i : Nat} {yk : Int} {yw : Int × Int × Int × Int} {ys : Int} {tn B0 C0 el : Nat} {xs : List Value} (j : Nat) (v : Value) {W W' : World} (h : edR gb gcap SL n ve yb BL yc i yk yw ys tn B0 C0 el xs j v W) (hj : j ≠ 14) (hb : W.grownBy W' ve.ownBlock) (hlt : ∀ b, ve.ownBlock = some b -> b < B0) : edR gb gcap SL n ve yb BL yc i yk yw ys tn B0 C0 el xs j v W' := by
 unfold edR at h ⊢
 split at h <;> first | exact h | exact absurd rfl hj | skip
 obtain ⟨b, e, h1, h2⟩ := h
 exact ⟨b, e, h1.grown hb (by intro e2; have := hlt b e2.symm; omega), h2⟩
theorem r9make_any (D : Nat -> Prop) (g : Gr) (hg : Good g) (C : Nat) (hC0 : 1 <= C) (hC : C <= 16384) (w : World) (sa : Option Addr) (sc : Nat) (pv fv lv : Value) (hP : ProdsAt D w pv g.prods)
  (hchk : ∀ W, Below w.heap.size w W -> Calls Tryz.prog 44 #[.agg #[.slice sa g.sorts.length sc, pv, .int .i64 g.start, fv, lv]] W fun e w' => e = .returned (.int .i64 0) /\ Below W.heap.size W w') :
  Calls Tryz.prog 17 #[.agg #[.slice sa g.sorts.length sc, pv, .int .i64 g.start, fv, lv], .int .i64 (C : Int)] w (MadeR C g w) := by
 obtain ⟨pa, pc, rfl⟩ := prodsAt_shape hP
 have hNP := hg.prods
 obtain ⟨NSL, hNSL⟩ : ∃ NSL, g.sorts.length = NSL := ⟨_, rfl⟩
 rw [hNSL] at hchk ⊢
 have HK := Hd (An hP (An hg (An hchk (An hC0 hNSL))))
 clear hP hg hchk hNSL hC0
 go_enter Tryz.func17, Tryz.ntmps17
 go_wp2_with fail
 have hB0 : Blk (w.alloc (.cells #[.slice sa NSL sc, .slice pa g.prods.length pc, .int .i64 g.start, fv, lv] 39)) w.heap.size 39 #[.slice sa NSL sc, .slice pa g.prods.length pc, .int .i64 g.start, fv, lv] := Blk.new _ _ _
 have hb0 : Below w.heap.size w (w.alloc (.cells #[.slice sa NSL sc, .slice pa g.prods.length pc, .int .i64 g.start, fv, lv] 39)) := (Below.refl _ w).alloc (Nat.le_refl _) _
 generalize (w.alloc (.cells #[.slice sa NSL sc, .slice pa g.prods.length pc, .int .i64 g.start, fv, lv] 39)) = W1 at hB0 hb0 ⊢
 refine (HK.out.2.2.1 W1 hb0).mono ?_
 rintro e w1 ⟨rfl, hb1⟩
 have H1 := Hd (An (hB0.below hb1 hB0.lt) (hb0.trans (hb1.mono hb0.size)))
 clear hB0 hb0 hb1
 go_wp2_with fail
 go_loopg [6, 7] g.prods.length (fun m v6 v7 wx => ∃ n : Nat, n <= g.prods.length /\ m = g.prods.length - n /\ v7 = .int .i64 (n : Int) /\ wx.ownsRow w1.heap.size 53 2 v6 (fstN g n).length (flatK encIt (fstN g n)) /\ Below w1.heap.size w1 wx)
 case atStart => exact ⟨0, by omega, rfl, rfl, World.ownsRow_nil _ _ _ _, Below.refl _ _⟩
 case round =>
  obtain ⟨n, hn, hm, rfl, hown, hbx⟩ := hrel
  obtain ⟨ua, uc, rfl⟩ := own_shape hown
  have hgB := H1.out.1.below hbx H1.out.1.lt
  have hbw : Below w.heap.size w wr := H1.out.2.trans (hbx.mono H1.out.2.size)
  have q1 : wr.cell? ⟨w.heap.size, 1, none⟩ = some (.slice pa g.prods.length pc) := hgB.cell 1
  by_cases hnl : n < g.prods.length
  ·obtain ⟨p, hp⟩ : ∃ p, g.prods[n]? = some p := ⟨_, List.getElem?_eq_getElem hnl⟩
   obtain ⟨cap, pb, po, vr, epv, hbl, hvr, hpc⟩ := HK.out.1.at_ hp
   injection epv with e1 e2 e3
   subst e1
   subst e3
   have f0 := (World.cell?_of_block (hbw.block pb hbl)).trans (hpc 0 _ rfl)
   have f3 := (World.cell?_of_block (hbw.block pb hbl)).trans (hpc 3 _ rfl)
   simp only [Nat.add_zero] at f0
   have q2 : wr.cell? ⟨w.heap.size, 2, none⟩ = some (.int .i64 g.start) := hgB.cell 2
   have hn0 : (0 : Int) <= (n : Int) := by omega
   have hn1 : (n : Int) < (g.prods.length : Int) := by omega
   have hsu := fstN_succ g n hp
   have hml := fstN_len g n
   obtain ⟨ML, hML⟩ : ∃ ML, (fstN g n).length = ML := ⟨_, rfl⟩
   rw [hML] at hown hml ⊢
   have Q := Hd (An hm (An hown (An hbx (An hsu hML))))
   clear hm hown hbx hsu hML hgB hbw hpc hvr hp e2 hbl
   obtain ⟨wt, rfl⟩ : ∃ wt : World, wt = wr := ⟨_, rfl⟩
   by_cases hl : p.left = g.start
   ·by_cases hro : p.role = 11
    ·have hcr : (p.role != 11) = false := by simp [hro]
     have HSU := Hd (show fstN g (n + 1) = fstN g n from by rw [Q.out.2.2.2.1]; exact if_neg (fun h => h.2 hro))
     rw [hl] at f0
     clear hl hro
     go_wp2_with fail
     go_quiet (fail)
     go_wp2_with fail
     go_roundg (g.prods.length - (n + 1))
     case measure => have h1 := Q.out.1; omega
     case rel =>
      exact ⟨n + 1, by omega, rfl, rfl, by rw [HSU.out, Q.out.2.2.2.2]; exact row_below Q.out.2.1 (below_drewN (Below.refl _ _) _), Q.out.2.2.1.trans ((below_drewN (Below.refl _ _) _).mono Q.out.2.2.1.size)⟩
    ·have hcr : (p.role != 11) = true := by simpa using hro
     have HSU := Hd (show fstN g (n + 1) = fstN g n ++ [(n, 0)] from by rw [Q.out.2.2.2.1]; exact if_pos ⟨hl, hro⟩)
     rw [hl] at f0
     clear hl hro
     go_wp2_with fail
     go_quiet (fail)
     go_upto_region 8 with fail
     generalize hwd : World.drewN wt _ = wd
     obtain ⟨nq, hwd⟩ : ∃ nq, World.drewN wt nq = wd := ⟨_, hwd⟩
     have hbd := below_drewN (Below.refl wt.heap.size wt) nq
     rw [hwd] at hbd
     have T := Hd (An (row_below Q.out.2.1 hbd) (Q.out.2.2.1.trans (hbd.mono Q.out.2.2.1.size)))
     have hsz := T.out.2.size
     clear hwd hbd f0 f3 q1 q2
     obtain ⟨i0, hi9, hz0, hz1, hz2⟩ := info_parts infoItem
     go_wp2_with (at_builtin; go_loud (refine wpList_append_ownF _ rfl _ _ 50 rfl w1.heap.size 53 i0 (.agg #[.int .i64 0, .int .i64 0]) 2 16 Tryz.underlying50 hi9 hz0 hz1 hz2 rfl (by decide) _ ML _ rfl (T.out.1.alloc _) ⟨wd.heap.size, 0, none⟩ 1 1 [.int .i64 (n : Int), .int .i64 0] rfl rfl ?c1 ?c2 ?c3 ?c4 ?c5 ?_))
     case c1 => exact cells_new2 wd _ _
     case c2 => intro u hu; simp at hu; rcases hu with rfl | rfl <;> rfl
     case c3 => unfold maxLen; omega
     case c4 => omega
     case c5 => first | (simp; omega) | omega
     intro v' w8 hown8 hg8 hfr8
     have hb8 := (T.out.2.alloc hsz (.cells #[.int .i64 (n : Int), .int .i64 0] 53)).grown hg8 (by simp; omega) (fun b hb => (T.out.1.lt b hb).1)
     have ez : flatK encIt (fstN g n) ++ [.int .i64 (n : Int), .int .i64 0] = flatK encIt (fstN g n ++ [(n, 0)]) := by rw [<- flatK_snoc]; rfl
     rw [ez] at hown8
     have S8 := Hd (An hown8 hb8)
     clear hown8 hg8 hfr8 hb8 hi9 hz0 hz1 hz2 ez
     go_wp2_with fail
     go_roundg (g.prods.length - (n + 1))
     case measure => have h1 := Q.out.1; omega
     case rel =>
      refine ⟨n + 1, by omega, rfl, rfl, ?_, S8.out.2⟩
      rw [HSU.out, List.length_append, Q.out.2.2.2.2]
      exact S8.out.1
   ·have hl2 : (p.left == g.start) = false := by simpa using hl
    have HSU := Hd (show fstN g (n + 1) = fstN g n from by rw [Q.out.2.2.2.1]; exact if_neg (fun h => hl h.1))
    clear hl
    go_wp2_with fail
    go_quiet (fail)
    go_wp2_with fail
    go_roundg (g.prods.length - (n + 1))
    case measure => have h1 := Q.out.1; omega
    case rel =>
     exact ⟨n + 1, by omega, rfl, rfl, by rw [HSU.out, Q.out.2.2.2.2]; exact row_below Q.out.2.1 (below_drewN (Below.refl _ _) _), Q.out.2.2.1.trans ((below_drewN (Below.refl _ _) _).mono Q.out.2.2.1.size)⟩
  ·obtain rfl : n = g.prods.length := by omega
   rw [fstN_all] at hown ⊢
   have hokF : ∀ x ∈ (ofS g g.start).map (fun n => ((n, 0) : It)), itemOk g x = true := fun x hx => by
    obtain ⟨k, hk, rfl⟩ := List.mem_map.1 hx
    exact itemOk_new hk
   have hFl : ((ofS g g.start).map (fun n => ((n, 0) : It))).length <= 100 := by
    have h1 := fstN_len g g.prods.length
    rw [fstN_all] at h1
    omega
   have hgL := HK.out.2.1
   have hcl := r9closed_any D (fun _ => True) g (by omega) hgL.right ((ofS g g.start).map (fun n => ((n, 0) : It))) hokF (by omega) wr (.slice sa NSL sc) (.slice pa g.prods.length pc) fv lv _ (HK.out.1.keep fun q hq hl => ⟨hq, hbw.block q hl⟩) ((own_sliceK encIt_len hown).imp (D' := fun _ => True) fun _ _ _ => trivial)
   have hokC := (closedF_fits hokF).2
   have hlC := closedF_small hgL hokF
   obtain ⟨g0, g1, g2, g3, g4⟩ : wr.cell? ⟨w.heap.size, 0, none⟩ = some (.slice sa NSL sc) /\ wr.cell? ⟨w.heap.size, 1, none⟩ = some (.slice pa g.prods.length pc) /\ wr.cell? ⟨w.heap.size, 2, none⟩ = some (.int .i64 g.start) /\ wr.cell? ⟨w.heap.size, 3, none⟩ = some fv /\ wr.cell? ⟨w.heap.size, 4, none⟩ = some lv := ⟨hgB.cell 0, hgB.cell 1, hgB.cell 2, hgB.cell 3, hgB.cell 4⟩
   have HS := Hd (show StatesAt C g 0 [closedF g ((ofS g g.start).map (fun n => ((n, 0) : It)))] [] from statesAt_start C g)
   obtain ⟨F0, hF0⟩ : ∃ F0, (ofS g g.start).map (fun n => ((n, 0) : It)) = F0 := ⟨_, rfl⟩
   rw [hF0] at hcl hokC hlC hown hFl ⊢
   have HF0 := Hd hF0
   have Q := Hd (An hbx (An hokC hlC))
   clear hown hm hbx hgB hbw hF0 hokF hgL hokC q1
   obtain ⟨wt, rfl⟩ : ∃ wt : World, wt = wr := ⟨_, rfl⟩
   go_wp2_with fail
   refine hcl.mono ?_
   rintro e w5 ⟨v', rfl, h1, h2⟩
   obtain ⟨ra, rc, rfl⟩ := own_shape h1
   have hsz5 : w1.heap.size <= wt.heap.size := Q.out.1.size
   have hM6 : RefM g w1.heap.size (w5.alloc (.cells #[.slice ra (closedF g F0).length rc, .slice none 0 0] 62)).heap.size 0 0 (.slice (some ⟨w5.heap.size, 0, none⟩) 1 1) [⟨.slice ra (closedF g F0).length rc, .slice none 0 0, closedF g F0, []⟩] (w5.alloc (.cells #[.slice ra (closedF g F0).length rc, .slice none 0 0] 62)) := by
    refine ⟨?_, ?_, fun i s hi _ => absurd hi (Nat.not_lt_zero _), ?_⟩
    ·have := own_fresh w5 62 2 1 #[.slice ra (closedF g F0).length rc, .slice none 0 0] (Nat.le_trans hsz5 h2.size) rfl (by unfold maxLen; omega)
     simpa [flatK, encRS] using this
    ·intro s hs
     rw [List.mem_singleton] at hs
     subst hs
     exact ⟨((own_sliceT encIt_len h1).tyLow hsz5).tyBelow ((Below.refl _ _).alloc (Nat.le_refl _) _), Q.out.2.1, Q.out.2.2⟩
    ·intro i s _ hs
     have := List.mem_of_getElem? hs
     rw [List.mem_singleton] at this
     subst this
     exact ⟨rfl, rfl⟩
   have hb6 : Below w1.heap.size w1 (w5.alloc (.cells #[.slice ra (closedF g F0).length rc, .slice none 0 0] 62)) := (Q.out.1.trans (h2.mono Q.out.1.size)).alloc (Nat.le_trans hsz5 h2.size) _
   have HO := Hd (show RefO g C w1 0 [⟨.slice ra (closedF g F0).length rc, .slice none 0 0, closedF g F0, []⟩] [] (.slice (some ⟨w5.heap.size, 0, none⟩) 1 1) (w5.alloc (.cells #[.slice ra (closedF g F0).length rc, .slice none 0 0] 62)) from
    ⟨Nat.zero_le _, HK.out.2.2.2.1, Nat.le_refl _, hM6, by simp, by have := HS.out; rw [HF0.out] at this; exact this, rfl, rfl, hb6⟩)
   clear hM6 hb6 h1 h2 hcl g0 g1 g2 g3 g4 HF0 Q hFl hlC
   go_wp2_with fail
   go_loopg [8, 9] C (fun m v8 v9 wx => ∃ (n : Nat) (sm : List RS) (sts : List St), m = C - n /\ v9 = .int .i64 (n : Int) /\ RefO g C w1 n sm sts v8 wx)
   case atStart => exact ⟨0, _, [], rfl, rfl, HO.out⟩
   case round =>
    obtain ⟨n, sm, sts, hm, rfl, hO⟩ := hrel
    obtain ⟨gb, gcap, rfl, hgB5, _, _⟩ := own_some hO.mem.row hO.one
    have hcapS := hO.cap
    by_cases hnl : n < sm.length
    ·obtain ⟨⟨vi, ve, l, es⟩, hs⟩ : ∃ s, sm[n]? = some s := ⟨_, List.getElem?_eq_getElem hnl⟩
     obtain ⟨e1, e2⟩ := hO.mem.new n _ (Nat.le_refl _) hs
     simp only at e1 e2
     subst e1
     subst e2
     have hok := hO.mem.each _ (List.mem_of_getElem? hs)
     obtain ⟨ia, ic, hvi, hic1, hic2, hik⟩ := hok.items
     simp only at hvi
     subst hvi
     have r0 : wr.cell? ⟨gb, n * 2, none⟩ = some (.slice ia l.length ic) := own_cellK encRS_len hO.mem.row hs 0 rfl
     have hgB := H1.out.1.below hO.below H1.out.1.lt
     have hbw : Below w.heap.size w wr := H1.out.2.trans (hO.below.mono H1.out.2.size)
     have hgL := HK.out.2.1
     have hl31 : l.length <= 3100 := hok.len
     have hsy := r9symbols_any D (fun _ => True) (fun _ => True) g (by omega) hgL.right hgL.sorts l hok.ok (by omega) wr.drew sa sc (.slice pa g.prods.length pc) fv lv (.slice ia l.length ic) (HK.out.1.keep fun q hq hl => ⟨hq, hbw.drew.block q hl⟩) ((hok.items.imp (D' := fun _ => True) fun _ _ _ => trivial).all (Below.refl _ _).drew)
     rw [HK.out.2.2.2.2] at hsy
     have hBLb := symsR_lenM g l
     have hso := hgL.sorts
     obtain ⟨BL, hBL⟩ : ∃ BL, (symsR g l).length = BL := ⟨_, rfl⟩
     rw [hBL] at hsy hBLb
     replace hBLb : BL <= 1256 := by omega
     obtain ⟨g0, g1, g2, g3, g4⟩ : wr.cell? ⟨w.heap.size, 0, none⟩ = some (.slice sa NSL sc) /\ wr.cell? ⟨w.heap.size, 1, none⟩ = some (.slice pa g.prods.length pc) /\ wr.cell? ⟨w.heap.size, 2, none⟩ = some (.int .i64 g.start) /\ wr.cell? ⟨w.heap.size, 3, none⟩ = some fv /\ wr.cell? ⟨w.heap.size, 4, none⟩ = some lv := ⟨hgB.cell 0, hgB.cell 1, hgB.cell 2, hgB.cell 3, hgB.cell 4⟩
     have hn0 : (0 : Int) <= (n : Int) := by omega
     have hn1 : (n : Int) < (sm.length : Int) := by omega
     have Q := Hd (An hm (An hO (An hs (An hok (An hBL hgB5)))))
     clear hm hO hs hok hBL hgB hbw hgL hic1 hic2 hik hso
     obtain ⟨wo, rfl⟩ : ∃ wo : World, wo = wr := ⟨_, rfl⟩
     go_wp2_with fail
     go_still_tail 6, (by kernel_rfl)
     repeat still_step
     try refine wpStill_nil ?_
     change wpList _ _ _ _ _ wo.drew
     go_wp2_with fail
     refine hsy.mono ?_
     rintro e w5 ⟨v', rfl, h1, h2⟩
     obtain ⟨ya, yc, rfl⟩ := own_shape h1
     have hb5 : Below wo.heap.size wo w5 := (show Below wo.heap.size wo wo.drew from (Below.refl _ _).drew).trans h2
     have HI0 := Hd (show RefI g C w1 w5.heap.size n (.slice ia l.length ic) l sm 0 sm [] (.slice none 0 0) (.slice (some ⟨gb, 0, none⟩) sm.length gcap) w5 /\ w5.ownsRow wo.heap.size 28 6 (.slice ya BL yc) BL (flatK encSy (symsR g l)) from
      ⟨⟨Q.out.2.1.cap, (Q.out.2.1.mem.below hb5).widen hb5.size (Nat.le_succ _), Q.out.2.2.1, World.ownsRow_nil _ _ _ _, by rw [List.take_zero]; rfl, Q.out.2.1.nodup, rfl, Q.out.2.1.below.trans (hb5.mono Q.out.2.1.below.size), Nat.le_refl _⟩, h1⟩)
     have H15 := Hd (show w1.heap.size <= w5.heap.size from Nat.le_trans Q.out.2.1.below.size hb5.size)
     clear h1 h2 hb5 hsy g0 g1 g2 g3 g4 r0
     go_wp2_with fail
     go_loopg [8, 11] BL (fun m v8 v11 wx => ∃ (i : Nat) (si : List RS) (e : List (Sy × Nat)) (ve : Value), i <= BL /\ m = BL - i /\ v11 = .int .i64 (i : Int) /\ RefI g C w1 w5.heap.size n (.slice ia l.length ic) l sm i si e ve v8 wx /\ wx.ownsRow wo.heap.size 28 6 (.slice ya BL yc) BL (flatK encSy (symsR g l)))
     case atStart => exact ⟨0, sm, [], .slice none 0 0, Nat.zero_le _, rfl, rfl, HI0.out.1, HI0.out.2⟩
     case round =>
      obtain ⟨i, si, e, ve, hi, hm, rfl, hI, hY⟩ := hrel
      have hnS : n < si.length := (List.getElem?_eq_some_iff.1 hI.at_).1
      obtain ⟨gb, gcap, rfl, hgBB, _, _⟩ := own_some hI.mem.row (by omega)
      have hcapI := hI.cap
      by_cases hil : i < BL
      ·obtain ⟨⟨yk, yS, ys⟩, hy⟩ : ∃ y, (symsR g l)[i]? = some y := ⟨_, List.getElem?_eq_getElem (by have := Q.out.2.2.2.2.1; omega)⟩
       obtain ⟨yb, ycap, hyv, _⟩ := own_some hY (by omega)
       injection hyv with e1 e2 e3
       subst e1
       have hok := hI.mem.each _ (List.mem_of_getElem? hI.at_)
       have hgB := H1.out.1.below hI.below H1.out.1.lt
       have hbw : Below w.heap.size w wr := H1.out.2.trans (hI.below.mono H1.out.2.size)
       have hgL := HK.out.2.1
       have hmv := r9moved_any D (fun _ => True) g (by omega) hgL.right l hok.ok (by omega) ⟨yk, yS, ys⟩ (symsR_lt (List.mem_of_getElem? hy)) wr.drew (.slice sa NSL sc) (.slice pa g.prods.length pc) fv lv (.slice ia l.length ic) (HK.out.1.keep fun q hq hl => ⟨hq, hbw.drew.block q hl⟩) ((hok.items.imp (D' := fun _ => True) fun _ _ _ => trivial).all (Below.refl _ _).drew)
       have hL2ok : ∀ x ∈ closedF g (movedR g l ⟨yk, yS, ys⟩), itemOk g x = true := (closedF_fits fun x hx => movN_ok x hx).2
       have hL2len : (closedF g (movedR g l ⟨yk, yS, ys⟩)).length <= 3100 := closedF_small hgL fun x hx => movN_ok x hx
       obtain ⟨L2, hL2⟩ : ∃ L2, closedF g (movedR g l ⟨yk, yS, ys⟩) = L2 := ⟨_, rfl⟩
       rw [hL2] at hmv hL2ok hL2len
       have HL2 := Hd (An hL2 hL2ok)
       unfold symV at hmv
       simp only at hmv
       have yq := fun (j : Nat) (u : Value) (hj : (encSy ⟨yk, yS, ys⟩)[j]? = some u) => own_cellK encSy_len hY hy j hj
       have z0 : wr.cell? ⟨yb, i * 6, none⟩ = some (.int .i64 yk) := yq 0 _ rfl
       have z1 : wr.cell? ⟨yb, i * 6 + 1, none⟩ = some (.int .u64 (wd yS 0)) := yq 1 _ rfl
       have z2 : wr.cell? ⟨yb, i * 6 + 2, none⟩ = some (.int .u64 (wd yS 1)) := yq 2 _ rfl
       have z3 : wr.cell? ⟨yb, i * 6 + 3, none⟩ = some (.int .u64 (wd yS 2)) := yq 3 _ rfl
       have z4 : wr.cell? ⟨yb, i * 6 + 4, none⟩ = some (.int .u64 (wd yS 3)) := yq 4 _ rfl
       have z5 : wr.cell? ⟨yb, i * 6 + 5, none⟩ = some (.int .i64 ys) := yq 5 _ rfl
       clear yq
       obtain ⟨y0, hy0⟩ : ∃ z, wd yS 0 = z := ⟨_, rfl⟩
       obtain ⟨y1, hy1⟩ : ∃ z, wd yS 1 = z := ⟨_, rfl⟩
       obtain ⟨y2, hy2⟩ : ∃ z, wd yS 2 = z := ⟨_, rfl⟩
       obtain ⟨y3, hy3⟩ : ∃ z, wd yS 3 = z := ⟨_, rfl⟩
       have HYI := Hd (An hy (An hy0 (An hy1 (An hy2 hy3))))
       rw [hy0, hy1, hy2, hy3] at hmv
       rw [hy0] at z1
       rw [hy1] at z2
       rw [hy2] at z3
       rw [hy3] at z4
       have r0 : wr.cell? ⟨gb, n * 2, none⟩ = some (.slice ia l.length ic) := own_cellK encRS_len hI.mem.row hI.at_ 0 rfl
       obtain ⟨g0, g1, g2, g3, g4⟩ : wr.cell? ⟨w.heap.size, 0, none⟩ = some (.slice sa NSL sc) /\ wr.cell? ⟨w.heap.size, 1, none⟩ = some (.slice pa g.prods.length pc) /\ wr.cell? ⟨w.heap.size, 2, none⟩ = some (.int .i64 g.start) /\ wr.cell? ⟨w.heap.size, 3, none⟩ = some fv /\ wr.cell? ⟨w.heap.size, 4, none⟩ = some lv := ⟨hgB.cell 0, hgB.cell 1, hgB.cell 2, hgB.cell 3, hgB.cell 4⟩
       have hn0 : (0 : Int) <= (n : Int) := by omega
       have hn1 : (n : Int) < (si.length : Int) := by omega
       have hi0 : (0 : Int) <= (i : Int) := by omega
       have hi1 : (i : Int) < (BL : Int) := by omega
       have hel : e.length <= 1300 := by
        have h1 := numbersC_len hI.num
        rw [List.length_take] at h1
        have h2 := HK.out.2.1.sorts
        omega
       have HI := Hd (An hm (An hI (An hY (An hgBB hel))))
       clear hm hI hY hok hgB hbw hgL hy hy0 hy1 hy2 hy3 hL2 hL2ok e2 e3 hel hnS
       obtain ⟨wq, rfl⟩ : ∃ wq : World, wq = wr := ⟨_, rfl⟩
       go_wp2_with fail
       go_still_tail 10, (by kernel_rfl)
       repeat still_step
       try refine wpStill_nil ?_
       change wpList _ _ _ _ _ wq.drew
       go_wp2_with fail
       refine hmv.mono ?_
       rintro e' w6 ⟨v', rfl, h1, h2⟩
       obtain ⟨ma, mc, rfl⟩ := own_shape h1
       have hb6 : Below wq.heap.size wq w6 := (show Below wq.heap.size wq wq.drew from (Below.refl _ _).drew).trans h2
       have H6 := Hd (An hb6 (show w6.ownsRow wq.heap.size 53 2 (.slice ma L2.length mc) L2.length (flatK encIt L2) from h1))
       clear h1 h2 hb6 hmv g0 g1 g2 g3 g4 z0 z1 z2 z3 z4 z5 r0
       go_wp2_with fail
       go_loopg [13, 14] si.length (fun m v13 v14 wx => ∃ (k : Nat) (t : Int), k <= si.length /\ m = si.length - k /\ v14 = .int .i64 (k : Int) /\ v13 = .int .i64 t /\ FoundAt (si.map (·.items)) L2 k t /\ Below w6.heap.size w6 wx)
       case atStart => exact ⟨0, -1, Nat.zero_le _, rfl, rfl, rfl, FoundAt.start _ _, Below.refl _ _⟩
       case round =>
        obtain ⟨k, t, hk, hmk, rfl, rfl, hF, hbk⟩ := hrel
        have hbq : Below wq.heap.size wq wr := H6.out.1.trans (hbk.mono H6.out.1.size)
        have hM := HI.out.2.1.mem.below hbq
        by_cases hkl : k < si.length
        ·obtain ⟨⟨kvi, kve, kl, kes⟩, hks⟩ : ∃ s, si[k]? = some s := ⟨_, List.getElem?_eq_getElem hkl⟩
         have hok := hM.each _ (List.mem_of_getElem? hks)
         obtain ⟨ka, kc, hkv, _⟩ := id hok.items
         simp only at hkv
         subst hkv
         have hsm := r9same_any (fun _ => True) (fun _ => True) kl L2 (by have := hok.len; simp only at this; omega) (by omega) (.slice ka kl.length kc) (.slice ma L2.length mc) wr (hok.items.imp fun _ _ _ => trivial) (((own_sliceK encIt_len H6.out.2).imp (D' := fun _ => True) fun _ _ _ => trivial).all hbk)
         have r0 : wr.cell? ⟨gb, k * 2, none⟩ = some (.slice ka kl.length kc) := own_cellK encRS_len hM.row hks 0 rfl
         have hat : (si.map (·.items))[k]? = some kl := by rw [List.getElem?_map, hks]; rfl
         obtain ⟨bd, hbd⟩ : ∃ b, decide (kl = L2) = b := ⟨_, rfl⟩
         rw [hbd] at hsm
         have hk0 : (0 : Int) <= (k : Int) := by omega
         have hk1 : (k : Int) < (si.length : Int) := by omega
         have N := Hd (An hmk (An hF (An hbk (An hat hbd))))
         clear hmk hF hbk hat hbd hM hok hks hbq
         go_wp2_with fail
         refine hsm.mono ?_
         rintro e' w7 ⟨rfl, hb7⟩
         have HB7 := Hd (N.out.2.2.1.trans (hb7.mono N.out.2.2.1.size))
         clear hb7 hsm r0
         cases bd with
         | true =>
          have HF1 := Hd (show FoundAt (si.map (·.items)) L2 (k + 1) (k : Int) from FoundAt.hit (by rw [N.out.2.2.2.1, of_decide_eq_true N.out.2.2.2.2]))
          go_wp2_with fail
          go_roundg (si.length - (k + 1))
          case measure => have h1 := N.out.1; omega
          case rel => exact ⟨k + 1, _, by omega, rfl, rfl, rfl, HF1.out, HB7.out⟩
         | false =>
          have HF1 := Hd (show FoundAt (si.map (·.items)) L2 (k + 1) t from FoundAt.miss N.out.2.1 (by rw [N.out.2.2.2.1]; intro h; injection h with h; exact of_decide_eq_false N.out.2.2.2.2 h))
          go_wp2_with fail
          go_roundg (si.length - (k + 1))
          case measure => have h1 := N.out.1; omega
          case rel => exact ⟨k + 1, _, by omega, rfl, rfl, rfl, HF1.out, HB7.out⟩
        ·obtain rfl : k = si.length := by omega
         have hYw := row_below HI.out.2.2.1 hbq
         have hEw := row_below HI.out.2.1.eds hbq
         have hBw := HI.out.2.1.below.trans (hbq.mono HI.out.2.1.below.size)
         have hsw := Nat.le_trans HI.out.2.1.size hbq.size
         rcases hF with ⟨rfl, hF⟩ | ⟨j, rfl, hj, hF⟩
         ·have HF := Hd hF
          have hmr := row_below H6.out.2 hbk
          have HX := Hd (An hM (An hYw (An hEw (An hBw (An hsw hmr)))))
          clear hF hM hYw hEw hBw hsw hmr hmk hbk hbq
          by_cases hfull : C <= si.length
          ·have hfI : (C : Int) <= (si.length : Int) := by omega
           have HE := Hd (show MadeR C g w (.returned (.tuple #[.slice none 0 0, .int .i64 3])) wr from .inr ⟨statesAt_stop (by have := Q.out.2.1.le; omega) Q.out.2.1.at_ (by rw [List.getElem?_map, Q.out.2.2.1]; rfl) (by rw [leads_led HK.out.2.1]; exact led_stop HI.out.2.1.num HYI.out.1 (by rw [HL2.out.1, numberC_new (by intro q hq; rw [List.length_map] at hq; exact HF.out q hq), if_pos (by rw [List.length_map]; exact hfull)])), rfl, H1.out.2.trans (HX.out.2.2.2.1.mono H1.out.2.size)⟩)
           go_wp2_with fail
           go_ret2
           exact HE.out
          ·have hfI : (si.length : Int) < (C : Int) := by omega
           obtain ⟨i0, hi9, hz0, hz1, hz2⟩ := info_parts infoRState
           have HA1 := Hd (show (∀ j u, ([.slice ma L2.length mc, .slice none 0 0] : List Value)[j]? = some u -> (wr.alloc (.cells #[.slice ma L2.length mc, .slice none 0 0] 62)).cell? ((⟨wr.heap.size, 0, none⟩ : Addr).add j) = some u) /\ (∀ u ∈ ([.slice ma L2.length mc, .slice none 0 0] : List Value), u.oneCell' = true) /\ si.length + 1 <= maxLen /\ (si.length + 1) * 48 <= 140737488355328 /\ w1.heap.size <= (wr.alloc (.cells #[.slice ma L2.length mc, .slice none 0 0] 62)).heap.size from
            ⟨cells_new2 wr 62 #[.slice ma L2.length mc, .slice none 0 0], by { intro u hu; simp at hu; rcases hu with rfl | rfl <;> rfl }, by { unfold maxLen; omega }, by omega, by { have := HX.out.2.2.2.1.size; simp; omega }⟩)
           go_wp2_with (at_builtin; go_loud (refine wpList_append_ownF _ rfl _ _ 55 rfl w1.heap.size 62 i0 (.agg #[.slice none 0 0, .slice none 0 0]) 2 48 Tryz.underlying55 hi9 hz0 hz1 hz2 rfl (by decide) _ si.length _ rfl (HX.out.1.row.alloc _) ⟨wr.heap.size, 0, none⟩ 1 1 [.slice ma L2.length mc, .slice none 0 0] rfl rfl HA1.out.1 HA1.out.2.1 HA1.out.2.2.1 HA1.out.2.2.2.1 HA1.out.2.2.2.2 ?_))
           intro v' W4 hown8 hg8 hfr8
           obtain ⟨gb, gcap, hv2, hgB2, _, _⟩ := own_some hown8 (Nat.succ_pos _)
           subst hv2
           have hal := (Below.refl wr.heap.size wr).alloc (Nat.le_refl _) (.cells #[.slice ma L2.length mc, .slice none 0 0] 62)
           have hrA := row_below HX.out.1.row hal
           have hmA := (row_below HX.out.2.2.2.2.2 hal).kept hg8 (own_ne (row_below HX.out.2.2.2.2.2 hal) hrA (by decide))
           have hEA := (row_below HX.out.2.2.1 hal).kept hg8 (own_ne (row_below HX.out.2.2.1 hal) hrA (by decide))
           have hYA := (row_below HX.out.2.1 hal).kept hg8 (own_ne (row_below HX.out.2.1 hal) hrA (by decide))
           have hnS : n < si.length := (List.getElem?_eq_some_iff.1 HI.out.2.1.at_).1
           have hM4 := (HX.out.1.below hal).push (L := L2) hnS hg8 hown8 ⟨(own_sliceT encIt_len hmA).tyLow HI.out.2.1.below.size, HL2.out.2, hL2len⟩
           have hb4 := (HX.out.2.2.2.1.alloc HX.out.2.2.2.1.size (.cells #[.slice ma L2.length mc, .slice none 0 0] 62)).grown hg8 (Nat.le_trans HX.out.2.2.2.1.size hal.size) (fun b hb => (hrA.lt b hb).1)
           have HNX := Hd (show (si ++ [(⟨.slice ma L2.length mc, .slice none 0 0, L2, []⟩ : RS)]).length <= C /\ numbersC C (sm.map (·.items)) ((ledR g l).take (i + 1)) = some (e ++ [((⟨yk, yS, ys⟩ : Sy), si.length)], (si ++ [(⟨.slice ma L2.length mc, .slice none 0 0, L2, []⟩ : RS)]).map (·.items)) /\ ((si ++ [(⟨.slice ma L2.length mc, .slice none 0 0, L2, []⟩ : RS)]).map (·.items)).Nodup /\ (si ++ [(⟨.slice ma L2.length mc, .slice none 0 0, L2, []⟩ : RS)]).take n = sm.take n from by
            have hnm := numberC_new (C := C) (all := si.map (·.items)) (l := L2) (by intro q hq; rw [List.length_map] at hq; exact HF.out q hq)
            rw [if_neg (by rw [List.length_map]; omega)] at hnm
            have hni := (find_none (all := si.map (·.items)) (l := L2) (by intro q hq; rw [List.length_map] at hq; exact HF.out q hq)).2
            refine ⟨by rw [List.length_append]; simp; omega, ?_, ?_, by rw [List.take_append_of_le_length (by omega)]; exact HI.out.2.1.pre⟩
            ·have := led_step HI.out.2.1.num HYI.out.1 (by rw [HL2.out.1]; exact hnm)
             rw [List.length_map] at this
             rw [this, List.map_append]
             rfl
            ·rw [List.map_append]
             exact List.nodup_append.2 ⟨HI.out.2.1.nodup, by simp, fun a ha b hb => by simp at hb; subst hb; rintro rfl; exact hni ha⟩)
           have HM := Hd (An hM4 (An (show (si ++ [(⟨.slice ma L2.length mc, .slice none 0 0, L2, []⟩ : RS)])[n]? = _ from (List.getElem?_append_left hnS).trans HI.out.2.1.at_) (An hEA (An hYA (An (Nat.le_trans HX.out.2.2.2.2.1 (Nat.le_trans hal.size hg8.size)) (An HI.out.2.2.2.2 (An hb4 (An H15.out hgB2))))))))
           clear hown8 hg8 hfr8 hal hrA hmA hEA hYA hnS hM4 hb4 hgB2 hi9 hz0 hz1 hz2
           go_wp2_with fail
           have hGE := HM.out.2.2.1
           have hve : ∀ bq, ve.ownBlock = some bq -> w5.heap.size <= bq /\ bq < W4.heap.size := fun bq hb => ⟨(own_ty hGE bq hb).1, (hGE.lt bq hb).2⟩
           obtain ⟨va, vc, hgs⟩ := own_shape hGE
           have HVE := Hd (An hgs hve)
           have hcells : ∀ W, W4.drew.grownBy W ve.ownBlock -> W.cell? ⟨gb, n * 2 + 1, none⟩ = some ve /\ W.cell? ⟨yb, i * 6, none⟩ = some (.int .i64 yk) /\ W.cell? ⟨yb, i * 6 + 1, none⟩ = some (.int .u64 y0) /\ W.cell? ⟨yb, i * 6 + 2, none⟩ = some (.int .u64 y1) /\ W.cell? ⟨yb, i * 6 + 3, none⟩ = some (.int .u64 y2) /\ W.cell? ⟨yb, i * 6 + 4, none⟩ = some (.int .u64 y3) /\ W.cell? ⟨yb, i * 6 + 5, none⟩ = some (.int .i64 ys) := fun W hG => by
            have hR := HM.out.1.row.kept (w' := W) ⟨hG.os, hG.tape, hG.output, hG.size, hG.block⟩ (own_ne HM.out.1.row hGE (by decide))
            have hY := HM.out.2.2.2.1.kept (w' := W) ⟨hG.os, hG.tape, hG.output, hG.size, hG.block⟩ (own_ne HM.out.2.2.2.1 hGE (by decide))
            have yq := fun (j : Nat) (u : Value) (hj : (encSy ⟨yk, yS, ys⟩)[j]? = some u) => own_cellK encSy_len hY HYI.out.1 j hj
            refine ⟨own_cellK encRS_len hR HM.out.2.1 1 rfl, yq 0 _ rfl, ?_, ?_, ?_, ?_, yq 5 _ rfl⟩
            ·have := yq 1 _ rfl; rw [HYI.out.2.1] at this; exact this
            ·have := yq 2 _ rfl; rw [HYI.out.2.2.1] at this; exact this
            ·have := yq 3 _ rfl; rw [HYI.out.2.2.2.1] at this; exact this
            ·have := yq 4 _ rfl; rw [HYI.out.2.2.2.2] at this; exact this
           have HC := Hd hcells
           have HZ := Hd (show ∀ W, W4.drew.grownBy W ve.ownBlock -> W4.heap.size <= W.heap.size from fun W hG => hG.size)
           have HP := Hd (show W4.ownsRow w5.heap.size 64 7 ve e.length (flatK encEd e) /\ e.length <= 1300 /\ w5.heap.size <= W4.heap.size /\ ∀ bq, ve.ownBlock = some bq -> bq < W4.heap.size from ⟨hGE, HM.out.2.2.2.2.2.1, HM.out.2.2.2.2.1, fun bq hb => (hve bq hb).2⟩)
           have hn1 : (n : Int) < (si.length : Int) + 1 := by have h1 := (List.getElem?_eq_some_iff.1 HM.out.2.1).1; have h2 : si.length + 1 = (si ++ [(⟨.slice ma L2.length mc, .slice none 0 0, L2, []⟩ : RS)]).length := (by simp); omega
           have hn0 : (0 : Int) <= (n : Int) := by omega
           have hi0 : (0 : Int) <= (i : Int) := by omega
           have hi1 : (i : Int) < (BL : Int) := by omega
           clear hcells hgs hGE hve
           refine wp_region_concT 17 (edR gb gcap (si.length + 1) n ve yb BL yc i yk (y0, y1, y2, y3) ys (si.length) W4.heap.size w5.heap.size e.length (flatK encEd e)) (fun A W => A.grownBy W ve.ownBlock) (fun L W => L.getD 14 false = false -> Below W4.drew.heap.size W4.drew W) (by kernel_rfl) (by kernel_rfl) (by kernel_rfl) (by kernel_rfl) (grown_refl _ _) (fun _ => Below.refl _ _) (fun h k => grown_trans_opt h k) ?_ ?_
           ·simp only [List.take_succ_cons, List.take_zero]
            refine ⟨?_, ?_, ?_, ?_, ?_, ?_, ?_, ?_, ?_, ?_, ?_, ?_, ?_, ?_, ?_, ?_, ?_, trivial⟩
            ·intro L T W hG hJ hLs hLi dq fq vq K hK
             have h1 := fq 8 (by decide)
             simp at h1
             go_simp
             exact hK _ _ (grown_refl W _) (fun j u _ _ _ h => h) (flag_set (by decide) hJ) rfl
            ·intro L T W hG hJ hLs hLi dq fq vq K hK
             have h1 := fq 9 (by decide)
             simp at h1
             go_simp
             exact hK _ _ (grown_refl W _) (fun j u _ _ _ h => h) (flag_set (by decide) hJ) rfl
            ·intro L T W hG hJ hLs hLi dq fq vq K hK
             have h1 := fq 8 (by decide)
             simp at h1
             go_simp
             exact hK _ _ (grown_refl W _) (fun j u _ _ _ h => h) (flag_set (by decide) hJ) rfl
            ·intro L T W hG hJ hLs hLi dq fq vq K hK
             have h1 := fq 9 (by decide)
             simp at h1
             go_simp
             exact hK _ _ (grown_refl W _) (fun j u _ _ _ h => h) (flag_set (by decide) hJ) rfl
            ·intro L T W hG hJ hLs hLi dq fq vq K hK
             have h1 := vq ⟨2, .data⟩ (by simp) rfl 111 rfl
             simp only [edR] at h1
             have h2 := vq ⟨3, .data⟩ (by simp) rfl 112 rfl
             simp only [edR] at h2
             simp at h1 h2
             go_simp
             exact hK _ _ (grown_refl W _) (fun j u _ _ _ h => h) (flag_set (by decide) hJ) rfl
            ·intro L T W hG hJ hLs hLi dq fq vq K hK
             have h1 := vq ⟨4, .data⟩ (by simp) rfl 113 rfl
             simp only [edR] at h1
             simp at h1
             go_simp
             exact hK _ _ (grown_refl W _) (fun j u _ _ _ h => h) (flag_set (by decide) hJ) rfl
            ·intro L T W hG hJ hLs hLi dq fq vq K hK
             have h1 := vq ⟨5, .data⟩ (by simp) rfl 114 rfl
             simp only [edR] at h1
             simp at h1
             obtain ⟨c0, z0, z1, z2, z3, z4, z5⟩ := HC.out W hG
             go_simp
             exact hK _ _ (grown_refl W _) (fun j u _ _ _ h => h) (flag_set (by decide) hJ) rfl
            ·intro L T W hG hJ hLs hLi dq fq vq K hK
             have h1 := fq 10 (by decide)
             simp at h1
             go_simp
             exact hK _ _ (grown_refl W _) (fun j u _ _ _ h => h) (flag_set (by decide) hJ) rfl
            ·intro L T W hG hJ hLs hLi dq fq vq K hK
             have h1 := fq 11 (by decide)
             simp at h1
             go_simp
             exact hK _ _ (grown_refl W _) (fun j u _ _ _ h => h) (flag_set (by decide) hJ) rfl
            ·intro L T W hG hJ hLs hLi dq fq vq K hK
             have h1 := vq ⟨7, .data⟩ (by simp) rfl 116 rfl
             simp only [edR] at h1
             have h2 := vq ⟨8, .data⟩ (by simp) rfl 117 rfl
             simp only [edR] at h2
             simp at h1 h2
             go_simp
             exact hK _ _ (grown_refl W _) (fun j u _ _ _ h => h) (flag_set (by decide) hJ) rfl
            ·intro L T W hG hJ hLs hLi dq fq vq K hK
             have h1 := vq ⟨9, .data⟩ (by simp) rfl 118 rfl
             simp only [edR] at h1
             simp at h1
             obtain ⟨c0, z0, z1, z2, z3, z4, z5⟩ := HC.out W hG
             go_simp
             exact hK _ _ (grown_refl W _) (fun j u _ _ _ h => h) (flag_set (by decide) hJ) rfl
            ·intro L T W hG hJ hLs hLi dq fq vq K hK
             have h1 := fq 13 (by decide)
             simp at h1
             go_simp
             exact hK _ _ (grown_refl W _) (fun j u _ _ _ h => h) (flag_set (by decide) hJ) rfl
            ·intro L T W hG hJ hLs hLi dq fq vq K hK
             have h1 := vq ⟨10, .data⟩ (by simp) rfl 119 rfl
             simp only [edR] at h1
             have h2 := vq ⟨11, .data⟩ (by simp) rfl 120 rfl
             simp only [edR] at h2
             simp at h1 h2
             go_simp
             exact hK _ _ (grown_refl W _) (fun j u _ _ _ h => h) (flag_set (by decide) hJ) rfl
            ·intro L T W hG hJ hLs hLi dq fq vq K hK
             have h1 := vq ⟨12, .data⟩ (by simp) rfl 121 rfl
             simp only [edR] at h1
             simp at h1
             go_simp
             have hbn := (Below.refl W.heap.size W).alloc (Nat.le_refl _) (.cells #[.int .i64 yk, .int .u64 y0, .int .u64 y1, .int .u64 y2, .int .u64 y3, .int .i64 ys, .int .i64 (si.length : Int)] 64)
             exact hK _ _ (grown_alloc (grown_refl W _) _) (fun j u _ _ _ h => edR_low j u h hbn) (fun e => (hJ (by rwa [getD_set_ne false (by decide)] at e)).trans (hbn.mono (hJ (by rwa [getD_set_ne false (by decide)] at e)).size)) ⟨_, rfl, Blk.new W _ _, HZ.out W hG⟩
            ·intro L T W hG hJ hLs hLi dq fq vq K hK
             have h1 := vq ⟨6, .data⟩ (by simp) rfl 115 rfl
             obtain ⟨nb, h2, k1, k3⟩ := vq ⟨13, .data⟩ (by simp) rfl 122 rfl
             have hJ' := hJ (by rw [<- getD_flip (by rw [hLs]; decide)]; exact hLi)
             have hown := row_below (show W4.drew.ownsRow w5.heap.size 64 7 ve e.length (flatK encEd e) from HP.out.1) hJ'
             obtain ⟨i0, hi, hz0, hz1, hz2⟩ := info_parts infoREdge
             refine wp_append_ownF W _ _ 60 rfl w5.heap.size 64 i0 (.agg #[.int .i64 0, .int .u64 0, .int .u64 0, .int .u64 0, .int .u64 0, .int .i64 0, .int .i64 0]) 7 56 Tryz.underlying60 hi hz0 hz1 hz2 rfl (by decide) _ _ _ h1 hown ⟨nb, 0, none⟩ 1 1 [.int .i64 yk, .int .u64 y0, .int .u64 y1, .int .u64 y2, .int .u64 y3, .int .i64 ys, .int .i64 (si.length : Int)] h2 rfl ?_ ?_ ?_ ?_ ?_ ?_
             ·intro j u hj
              rw [addr_add_, Nat.zero_add, k1.cell j]
              simpa using hj
             ·intro u hu; simp at hu; rcases hu with rfl | rfl | rfl | rfl | rfl | rfl | rfl <;> rfl
             ·have := HP.out.2.1; unfold maxLen; omega
             ·have := HP.out.2.1; omega
             ·have := HZ.out W hG; have := HP.out.2.2.1; omega
             intro v' W' hown' hg' hfr
             refine hK _ _ hg' (fun j u _ hj _ h => edR_grown j u h hj hg' HP.out.2.2.2) (fun e => ?_) hown'
             rw [getD_set_self (by rw [hLs]; decide)] at e
             cases e
            ·intro L T W hG hJ hLs hLi dq fq vq K hK
             have h1 := vq ⟨0, .data⟩ (by simp) rfl 109 rfl
             simp only [edR] at h1
             have h2 := vq ⟨1, .data⟩ (by simp) rfl 110 rfl
             simp only [edR] at h2
             simp at h1 h2
             go_simp
             exact hK _ _ (grown_refl W _) (fun j u _ _ _ h => h) (flag_set (by decide) hJ) rfl
            ·intro L T W hG hJ hLs hLi dq fq vq K hK
             have h1 := vq ⟨15, .data⟩ (by simp) rfl 124 rfl
             simp only [edR] at h1
             simp at h1
             go_simp
             exact hK _ _ (grown_refl W _) (fun j u _ _ _ h => h) (flag_set (by decide) hJ) rfl
           ·intro f9 W5 hG hJe hR
            obtain hr14 := hR 14 123 (by decide) rfl
            have e16 := hR 16 125 (by decide) rfl
            simp only [concDsts, List.take_succ_cons, List.take_zero, List.drop_succ_cons, List.drop_zero, List.filterMap_cons, List.filterMap_nil, List.foldl_cons, List.foldl_nil, List.setIfInBounds_toArray, List.set_cons_zero, List.set_cons_succ]
            simp only [edR] at e16
            rw [e16]
            clear e16 hR
            obtain ⟨xa, xc, hx⟩ := own_shape hr14
            rw [hx] at hr14 ⊢
            clear hx
            generalize f9 109 = v109
            generalize f9 110 = v110
            generalize f9 111 = v111
            generalize f9 112 = v112
            generalize f9 113 = v113
            generalize f9 114 = v114
            generalize f9 115 = v115
            generalize f9 116 = v116
            generalize f9 117 = v117
            generalize f9 118 = v118
            generalize f9 119 = v119
            generalize f9 120 = v120
            generalize f9 121 = v121
            generalize f9 122 = v122
            generalize f9 124 = v124
            clear f9
            have hg5 : W4.grownBy W5 ve.ownBlock := ⟨hG.os, hG.tape, hG.output, hG.size, hG.block⟩
            have hEE : encEd ((⟨yk, yS, ys⟩ : Sy), si.length) = [.int .i64 yk, .int .u64 y0, .int .u64 y1, .int .u64 y2, .int .u64 y3, .int .i64 ys, .int .i64 (si.length : Int)] := by unfold encEd encSy; rw [HYI.out.2.1, HYI.out.2.2.1, HYI.out.2.2.2.1, HYI.out.2.2.2.2]; rfl
            have hE := HM.out.1.edge (by simp) (y := ⟨yk, yS, ys⟩) (tn := si.length) HM.out.2.1 HP.out.1 hg5 (xv := .slice xa (e.length + 1) xc) (by rw [hEE]; exact hr14)
            have hY5 := (HM.out.2.2.2.1.kept hg5 (own_ne HM.out.2.2.2.1 HP.out.1 (by decide)))
            have hR5 := HM.out.1.row.kept hg5 (own_ne HM.out.1.row HP.out.1 (by decide))
            have hgr5 : W5.grownBy (W5.setCell ⟨gb, n * 2 + 1, none⟩ (.slice xa (e.length + 1) xc)) (Value.slice (some ⟨gb, 0, none⟩) (si.length + 1) gcap).ownBlock := grown_set (grown_refl W5 (some gb)) (p := ⟨gb, n * 2 + 1, none⟩) rfl _
            have hY6 := hY5.kept hgr5 (own_ne hY5 hR5 (by decide))
            have hb6 : Below w1.heap.size w1 (W5.setCell ⟨gb, n * 2 + 1, none⟩ (.slice xa (e.length + 1) xc)) := (HM.out.2.2.2.2.2.2.1.trans ⟨hg5.os, hg5.tape, hg5.output, hg5.size, fun k hk => hg5.block k (Nat.lt_of_lt_of_le hk HM.out.2.2.2.2.2.2.1.size) (fun e1 => by have h1 := (HVE.out.2 k e1.symm).1; have h2 := HM.out.2.2.2.2.2.2.2.1; omega)⟩).setCell (show w1.heap.size <= gb from HM.out.2.2.2.2.2.2.2.2) _
            have c0 : W5.cell? ⟨gb, n * 2 + 1, none⟩ = some ve := (HC.out W5 hG).1
            have cf : W5.frozen? ⟨gb, n * 2 + 1, none⟩ = false := own_frozenV hR5 rfl _
            rw [HVE.out.1] at c0
            have hs6 : w5.heap.size <= (W5.setCell ⟨gb, n * 2 + 1, none⟩ (.slice xa (e.length + 1) xc)).heap.size := Nat.le_trans (Nat.le_trans HM.out.2.2.2.2.1 hg5.size) hgr5.size
            have HF := Hd (show RefI g C w1 w5.heap.size n (.slice ia l.length ic) l sm (i + 1) ((si ++ [(⟨.slice ma L2.length mc, .slice none 0 0, L2, []⟩ : RS)]).set n ⟨.slice ia l.length ic, .slice xa (e.length + 1) xc, l, e ++ [((⟨yk, yS, ys⟩ : Sy), si.length)]⟩) (e ++ [((⟨yk, yS, ys⟩ : Sy), si.length)]) (.slice xa (e.length + 1) xc) (.slice (some ⟨gb, 0, none⟩) (si.length + 1) gcap) (W5.setCell ⟨gb, n * 2 + 1, none⟩ (.slice xa (e.length + 1) xc)) /\ (W5.setCell ⟨gb, n * 2 + 1, none⟩ (.slice xa (e.length + 1) xc)).ownsRow wo.heap.size 28 6 (.slice (some ⟨yb, 0, none⟩) BL yc) BL (flatK encSy (symsR g l)) from
             ⟨RefI.next HNX.out.1 hE.1 hE.2 HM.out.2.1 HNX.out.2.1 HNX.out.2.2.1 HNX.out.2.2.2 hb6 hs6, hY6⟩)
            clear hr14 hg5 hEE hE hY5 hR5 hgr5 hY6 hb6 hs6 hJe hG
            go_wp2_with fail
            go_roundg (BL - (i + 1))
            case measure => have h1 := HI.out.1; omega
            case rel => exact ⟨i + 1, _, _, _, by omega, rfl, rfl, HF.out.1, HF.out.2⟩
         ·have hj0 : ¬ ((j : Int) < 0) := by omega
          obtain ⟨W4, rfl⟩ : ∃ W4 : World, W4 = wr := ⟨_, rfl⟩
          have HNX := Hd (show si.length <= C /\ numbersC C (sm.map (·.items)) ((ledR g l).take (i + 1)) = some (e ++ [((⟨yk, yS, ys⟩ : Sy), j)], si.map (·.items)) /\ (si.map (·.items)).Nodup /\ si.take n = sm.take n from
           ⟨HI.out.2.1.cap, led_step HI.out.2.1.num HYI.out.1 (by rw [HL2.out.1]; exact numberC_there HI.out.2.1.nodup hF), HI.out.2.1.nodup, HI.out.2.1.pre⟩)
          have HM := Hd (An hM (An HI.out.2.1.at_ (An hEw (An hYw (An hsw (An HI.out.2.2.2.2 (An hBw (An H15.out HI.out.2.2.2.1))))))))
          clear hF hM hYw hEw hBw hsw hmk hbk hbq
          go_wp2_with fail
          have hGE := HM.out.2.2.1
          have hve : ∀ bq, ve.ownBlock = some bq -> w5.heap.size <= bq /\ bq < W4.heap.size := fun bq hb => ⟨(own_ty hGE bq hb).1, (hGE.lt bq hb).2⟩
          obtain ⟨va, vc, hgs⟩ := own_shape hGE
          have HVE := Hd (An hgs hve)
          have hcells : ∀ W, W4.drew.grownBy W ve.ownBlock -> W.cell? ⟨gb, n * 2 + 1, none⟩ = some ve /\ W.cell? ⟨yb, i * 6, none⟩ = some (.int .i64 yk) /\ W.cell? ⟨yb, i * 6 + 1, none⟩ = some (.int .u64 y0) /\ W.cell? ⟨yb, i * 6 + 2, none⟩ = some (.int .u64 y1) /\ W.cell? ⟨yb, i * 6 + 3, none⟩ = some (.int .u64 y2) /\ W.cell? ⟨yb, i * 6 + 4, none⟩ = some (.int .u64 y3) /\ W.cell? ⟨yb, i * 6 + 5, none⟩ = some (.int .i64 ys) := fun W hG => by
           have hR := HM.out.1.row.kept (w' := W) ⟨hG.os, hG.tape, hG.output, hG.size, hG.block⟩ (own_ne HM.out.1.row hGE (by decide))
           have hY := HM.out.2.2.2.1.kept (w' := W) ⟨hG.os, hG.tape, hG.output, hG.size, hG.block⟩ (own_ne HM.out.2.2.2.1 hGE (by decide))
           have yq := fun (j : Nat) (u : Value) (hj : (encSy ⟨yk, yS, ys⟩)[j]? = some u) => own_cellK encSy_len hY HYI.out.1 j hj
           refine ⟨own_cellK encRS_len hR HM.out.2.1 1 rfl, yq 0 _ rfl, ?_, ?_, ?_, ?_, yq 5 _ rfl⟩
           ·have := yq 1 _ rfl; rw [HYI.out.2.1] at this; exact this
           ·have := yq 2 _ rfl; rw [HYI.out.2.2.1] at this; exact this
           ·have := yq 3 _ rfl; rw [HYI.out.2.2.2.1] at this; exact this
           ·have := yq 4 _ rfl; rw [HYI.out.2.2.2.2] at this; exact this
          have HC := Hd hcells
          have HZ := Hd (show ∀ W, W4.drew.grownBy W ve.ownBlock -> W4.heap.size <= W.heap.size from fun W hG => hG.size)
          have HP := Hd (show W4.ownsRow w5.heap.size 64 7 ve e.length (flatK encEd e) /\ e.length <= 1300 /\ w5.heap.size <= W4.heap.size /\ ∀ bq, ve.ownBlock = some bq -> bq < W4.heap.size from ⟨hGE, HM.out.2.2.2.2.2.1, HM.out.2.2.2.2.1, fun bq hb => (hve bq hb).2⟩)
          have hn1 : (n : Int) < (si.length : Int) := by have h1 := (List.getElem?_eq_some_iff.1 HM.out.2.1).1; have h2 : si.length = (si).length := rfl; omega
          have hn0 : (0 : Int) <= (n : Int) := by omega
          have hi0 : (0 : Int) <= (i : Int) := by omega
          have hi1 : (i : Int) < (BL : Int) := by omega
          clear hcells hgs hGE hve
          refine wp_region_concT 17 (edR gb gcap (si.length) n ve yb BL yc i yk (y0, y1, y2, y3) ys (j) W4.heap.size w5.heap.size e.length (flatK encEd e)) (fun A W => A.grownBy W ve.ownBlock) (fun L W => L.getD 14 false = false -> Below W4.drew.heap.size W4.drew W) (by kernel_rfl) (by kernel_rfl) (by kernel_rfl) (by kernel_rfl) (grown_refl _ _) (fun _ => Below.refl _ _) (fun h k => grown_trans_opt h k) ?_ ?_
          ·simp only [List.take_succ_cons, List.take_zero]
           refine ⟨?_, ?_, ?_, ?_, ?_, ?_, ?_, ?_, ?_, ?_, ?_, ?_, ?_, ?_, ?_, ?_, ?_, trivial⟩
           ·intro L T W hG hJ hLs hLi dq fq vq K hK
            have h1 := fq 8 (by decide)
            simp at h1
            go_simp
            exact hK _ _ (grown_refl W _) (fun j u _ _ _ h => h) (flag_set (by decide) hJ) rfl
           ·intro L T W hG hJ hLs hLi dq fq vq K hK
            have h1 := fq 9 (by decide)
            simp at h1
            go_simp
            exact hK _ _ (grown_refl W _) (fun j u _ _ _ h => h) (flag_set (by decide) hJ) rfl
           ·intro L T W hG hJ hLs hLi dq fq vq K hK
            have h1 := fq 8 (by decide)
            simp at h1
            go_simp
            exact hK _ _ (grown_refl W _) (fun j u _ _ _ h => h) (flag_set (by decide) hJ) rfl
           ·intro L T W hG hJ hLs hLi dq fq vq K hK
            have h1 := fq 9 (by decide)
            simp at h1
            go_simp
            exact hK _ _ (grown_refl W _) (fun j u _ _ _ h => h) (flag_set (by decide) hJ) rfl
           ·intro L T W hG hJ hLs hLi dq fq vq K hK
            have h1 := vq ⟨2, .data⟩ (by simp) rfl 111 rfl
            simp only [edR] at h1
            have h2 := vq ⟨3, .data⟩ (by simp) rfl 112 rfl
            simp only [edR] at h2
            simp at h1 h2
            go_simp
            exact hK _ _ (grown_refl W _) (fun j u _ _ _ h => h) (flag_set (by decide) hJ) rfl
           ·intro L T W hG hJ hLs hLi dq fq vq K hK
            have h1 := vq ⟨4, .data⟩ (by simp) rfl 113 rfl
            simp only [edR] at h1
            simp at h1
            go_simp
            exact hK _ _ (grown_refl W _) (fun j u _ _ _ h => h) (flag_set (by decide) hJ) rfl
           ·intro L T W hG hJ hLs hLi dq fq vq K hK
            have h1 := vq ⟨5, .data⟩ (by simp) rfl 114 rfl
            simp only [edR] at h1
            simp at h1
            obtain ⟨c0, z0, z1, z2, z3, z4, z5⟩ := HC.out W hG
            go_simp
            exact hK _ _ (grown_refl W _) (fun j u _ _ _ h => h) (flag_set (by decide) hJ) rfl
           ·intro L T W hG hJ hLs hLi dq fq vq K hK
            have h1 := fq 10 (by decide)
            simp at h1
            go_simp
            exact hK _ _ (grown_refl W _) (fun j u _ _ _ h => h) (flag_set (by decide) hJ) rfl
           ·intro L T W hG hJ hLs hLi dq fq vq K hK
            have h1 := fq 11 (by decide)
            simp at h1
            go_simp
            exact hK _ _ (grown_refl W _) (fun j u _ _ _ h => h) (flag_set (by decide) hJ) rfl
           ·intro L T W hG hJ hLs hLi dq fq vq K hK
            have h1 := vq ⟨7, .data⟩ (by simp) rfl 116 rfl
            simp only [edR] at h1
            have h2 := vq ⟨8, .data⟩ (by simp) rfl 117 rfl
            simp only [edR] at h2
            simp at h1 h2
            go_simp
            exact hK _ _ (grown_refl W _) (fun j u _ _ _ h => h) (flag_set (by decide) hJ) rfl
           ·intro L T W hG hJ hLs hLi dq fq vq K hK
            have h1 := vq ⟨9, .data⟩ (by simp) rfl 118 rfl
            simp only [edR] at h1
            simp at h1
            obtain ⟨c0, z0, z1, z2, z3, z4, z5⟩ := HC.out W hG
            go_simp
            exact hK _ _ (grown_refl W _) (fun j u _ _ _ h => h) (flag_set (by decide) hJ) rfl
           ·intro L T W hG hJ hLs hLi dq fq vq K hK
            have h1 := fq 13 (by decide)
            simp at h1
            go_simp
            exact hK _ _ (grown_refl W _) (fun j u _ _ _ h => h) (flag_set (by decide) hJ) rfl
           ·intro L T W hG hJ hLs hLi dq fq vq K hK
            have h1 := vq ⟨10, .data⟩ (by simp) rfl 119 rfl
            simp only [edR] at h1
            have h2 := vq ⟨11, .data⟩ (by simp) rfl 120 rfl
            simp only [edR] at h2
            simp at h1 h2
            go_simp
            exact hK _ _ (grown_refl W _) (fun j u _ _ _ h => h) (flag_set (by decide) hJ) rfl
           ·intro L T W hG hJ hLs hLi dq fq vq K hK
            have h1 := vq ⟨12, .data⟩ (by simp) rfl 121 rfl
            simp only [edR] at h1
            simp at h1
            go_simp
            have hbn := (Below.refl W.heap.size W).alloc (Nat.le_refl _) (.cells #[.int .i64 yk, .int .u64 y0, .int .u64 y1, .int .u64 y2, .int .u64 y3, .int .i64 ys, .int .i64 (j : Int)] 64)
            exact hK _ _ (grown_alloc (grown_refl W _) _) (fun j u _ _ _ h => edR_low j u h hbn) (fun e => (hJ (by rwa [getD_set_ne false (by decide)] at e)).trans (hbn.mono (hJ (by rwa [getD_set_ne false (by decide)] at e)).size)) ⟨_, rfl, Blk.new W _ _, HZ.out W hG⟩
           ·intro L T W hG hJ hLs hLi dq fq vq K hK
            have h1 := vq ⟨6, .data⟩ (by simp) rfl 115 rfl
            obtain ⟨nb, h2, k1, k3⟩ := vq ⟨13, .data⟩ (by simp) rfl 122 rfl
            have hJ' := hJ (by rw [<- getD_flip (by rw [hLs]; decide)]; exact hLi)
            have hown := row_below (show W4.drew.ownsRow w5.heap.size 64 7 ve e.length (flatK encEd e) from HP.out.1) hJ'
            obtain ⟨i0, hi, hz0, hz1, hz2⟩ := info_parts infoREdge
            refine wp_append_ownF W _ _ 60 rfl w5.heap.size 64 i0 (.agg #[.int .i64 0, .int .u64 0, .int .u64 0, .int .u64 0, .int .u64 0, .int .i64 0, .int .i64 0]) 7 56 Tryz.underlying60 hi hz0 hz1 hz2 rfl (by decide) _ _ _ h1 hown ⟨nb, 0, none⟩ 1 1 [.int .i64 yk, .int .u64 y0, .int .u64 y1, .int .u64 y2, .int .u64 y3, .int .i64 ys, .int .i64 (j : Int)] h2 rfl ?_ ?_ ?_ ?_ ?_ ?_
            ·intro j u hj
             rw [addr_add_, Nat.zero_add, k1.cell j]
             simpa using hj
            ·intro u hu; simp at hu; rcases hu with rfl | rfl | rfl | rfl | rfl | rfl | rfl <;> rfl
            ·have := HP.out.2.1; unfold maxLen; omega
            ·have := HP.out.2.1; omega
            ·have := HZ.out W hG; have := HP.out.2.2.1; omega
            intro v' W' hown' hg' hfr
            refine hK _ _ hg' (fun j u _ hj _ h => edR_grown j u h hj hg' HP.out.2.2.2) (fun e => ?_) hown'
            rw [getD_set_self (by rw [hLs]; decide)] at e
            cases e
           ·intro L T W hG hJ hLs hLi dq fq vq K hK
            have h1 := vq ⟨0, .data⟩ (by simp) rfl 109 rfl
            simp only [edR] at h1
            have h2 := vq ⟨1, .data⟩ (by simp) rfl 110 rfl
            simp only [edR] at h2
            simp at h1 h2
            go_simp
            exact hK _ _ (grown_refl W _) (fun j u _ _ _ h => h) (flag_set (by decide) hJ) rfl
           ·intro L T W hG hJ hLs hLi dq fq vq K hK
            have h1 := vq ⟨15, .data⟩ (by simp) rfl 124 rfl
            simp only [edR] at h1
            simp at h1
            go_simp
            exact hK _ _ (grown_refl W _) (fun j u _ _ _ h => h) (flag_set (by decide) hJ) rfl
          ·intro f9 W5 hG hJe hR
           obtain hr14 := hR 14 123 (by decide) rfl
           have e16 := hR 16 125 (by decide) rfl
           simp only [concDsts, List.take_succ_cons, List.take_zero, List.drop_succ_cons, List.drop_zero, List.filterMap_cons, List.filterMap_nil, List.foldl_cons, List.foldl_nil, List.setIfInBounds_toArray, List.set_cons_zero, List.set_cons_succ]
           simp only [edR] at e16
           rw [e16]
           clear e16 hR
           obtain ⟨xa, xc, hx⟩ := own_shape hr14
           rw [hx] at hr14 ⊢
           clear hx
           generalize f9 109 = v109
           generalize f9 110 = v110
           generalize f9 111 = v111
           generalize f9 112 = v112
           generalize f9 113 = v113
           generalize f9 114 = v114
           generalize f9 115 = v115
           generalize f9 116 = v116
           generalize f9 117 = v117
           generalize f9 118 = v118
           generalize f9 119 = v119
           generalize f9 120 = v120
           generalize f9 121 = v121
           generalize f9 122 = v122
           generalize f9 124 = v124
           clear f9
           have hg5 : W4.grownBy W5 ve.ownBlock := ⟨hG.os, hG.tape, hG.output, hG.size, hG.block⟩
           have hEE : encEd ((⟨yk, yS, ys⟩ : Sy), j) = [.int .i64 yk, .int .u64 y0, .int .u64 y1, .int .u64 y2, .int .u64 y3, .int .i64 ys, .int .i64 (j : Int)] := by unfold encEd encSy; rw [HYI.out.2.1, HYI.out.2.2.1, HYI.out.2.2.2.1, HYI.out.2.2.2.2]; rfl
           have hE := HM.out.1.edge rfl (y := ⟨yk, yS, ys⟩) (tn := j) HM.out.2.1 HP.out.1 hg5 (xv := .slice xa (e.length + 1) xc) (by rw [hEE]; exact hr14)
           have hY5 := (HM.out.2.2.2.1.kept hg5 (own_ne HM.out.2.2.2.1 HP.out.1 (by decide)))
           have hR5 := HM.out.1.row.kept hg5 (own_ne HM.out.1.row HP.out.1 (by decide))
           have hgr5 : W5.grownBy (W5.setCell ⟨gb, n * 2 + 1, none⟩ (.slice xa (e.length + 1) xc)) (Value.slice (some ⟨gb, 0, none⟩) (si.length) gcap).ownBlock := grown_set (grown_refl W5 (some gb)) (p := ⟨gb, n * 2 + 1, none⟩) rfl _
           have hY6 := hY5.kept hgr5 (own_ne hY5 hR5 (by decide))
           have hb6 : Below w1.heap.size w1 (W5.setCell ⟨gb, n * 2 + 1, none⟩ (.slice xa (e.length + 1) xc)) := (HM.out.2.2.2.2.2.2.1.trans ⟨hg5.os, hg5.tape, hg5.output, hg5.size, fun k hk => hg5.block k (Nat.lt_of_lt_of_le hk HM.out.2.2.2.2.2.2.1.size) (fun e1 => by have h1 := (HVE.out.2 k e1.symm).1; have h2 := HM.out.2.2.2.2.2.2.2.1; omega)⟩).setCell (show w1.heap.size <= gb from HM.out.2.2.2.2.2.2.2.2) _
           have c0 : W5.cell? ⟨gb, n * 2 + 1, none⟩ = some ve := (HC.out W5 hG).1
           have cf : W5.frozen? ⟨gb, n * 2 + 1, none⟩ = false := own_frozenV hR5 rfl _
           rw [HVE.out.1] at c0
           have hs6 : w5.heap.size <= (W5.setCell ⟨gb, n * 2 + 1, none⟩ (.slice xa (e.length + 1) xc)).heap.size := Nat.le_trans (Nat.le_trans HM.out.2.2.2.2.1 hg5.size) hgr5.size
           have HF := Hd (show RefI g C w1 w5.heap.size n (.slice ia l.length ic) l sm (i + 1) ((si).set n ⟨.slice ia l.length ic, .slice xa (e.length + 1) xc, l, e ++ [((⟨yk, yS, ys⟩ : Sy), j)]⟩) (e ++ [((⟨yk, yS, ys⟩ : Sy), j)]) (.slice xa (e.length + 1) xc) (.slice (some ⟨gb, 0, none⟩) (si.length) gcap) (W5.setCell ⟨gb, n * 2 + 1, none⟩ (.slice xa (e.length + 1) xc)) /\ (W5.setCell ⟨gb, n * 2 + 1, none⟩ (.slice xa (e.length + 1) xc)).ownsRow wo.heap.size 28 6 (.slice (some ⟨yb, 0, none⟩) BL yc) BL (flatK encSy (symsR g l)) from
            ⟨RefI.next HNX.out.1 hE.1 hE.2 HM.out.2.1 HNX.out.2.1 HNX.out.2.2.1 HNX.out.2.2.2 hb6 hs6, hY6⟩)
           clear hr14 hg5 hEE hE hY5 hR5 hgr5 hY6 hb6 hs6 hJe hG
           go_wp2_with fail
           go_roundg (BL - (i + 1))
           case measure => have h1 := HI.out.1; omega
           case rel => exact ⟨i + 1, _, _, _, by omega, rfl, rfl, HF.out.1, HF.out.2⟩
      ·obtain rfl : i = BL := by omega
       have hE9 : numbersC C (sm.map (·.items)) (leadsF g l) = some (e, si.map (·.items)) := by
        have h1 := hI.num
        rw [List.take_of_length_le (by unfold ledR; rw [ledR_len]; have := Q.out.2.2.2.2.1; omega)] at h1
        rw [leads_led HK.out.2.1]
        exact h1
       have hlQ := Q.out.2.1.le
       have hcQ := Q.out.2.1.cap
       have hat : (sm.map (·.items))[n]? = some l := by rw [List.getElem?_map, Q.out.2.2.1]; rfl
       have HO2 := Hd (show RefO g C w1 (n + 1) si (sts ++ [⟨l, e, doneF g l⟩]) (.slice (some ⟨gb, 0, none⟩) si.length gcap) wr from
        ⟨hnS, hI.cap, by omega, hI.mem.lift (fun i s hi' hs' => by
         rcases Nat.lt_or_ge i n with h | h
         ·exact (hI.mem.old i s h hs').imp fun b hb hl => ⟨hb.1, hl⟩
         ·obtain rfl : i = n := by omega
          rw [hI.at_] at hs'
          injection hs' with hs'
          subst hs'
          exact (own_sliceT encEd_len hI.eds).imp fun b hb hl => ⟨hb.low H15.out, hl⟩) (Nat.le_refl _), hI.nodup, statesAt_step (by omega) Q.out.2.1.at_ hat hE9, by
         rw [List.take_add_one, hI.at_, List.map_append, List.map_append, hI.pre, Q.out.2.1.items]; rfl, by
         rw [List.take_add_one, hI.at_, List.map_append, List.map_append, hI.pre, Q.out.2.1.edges]; rfl, hI.below⟩)
       have HQ := Hd (An Q.out.1 (show n < C from by omega))
       clear hI hY hE9 hat hm hlQ hcQ
       go_wp2_with fail
       go_roundg (C - (n + 1))
       case measure => have h1 := HQ.out.1; have h2 := HQ.out.2; omega
       case rel => exact ⟨n + 1, si, _, rfl, rfl, HO2.out⟩
    ·obtain rfl : n = sm.length := by have := hO.le; omega
     have HE := Hd (show MadeR C g w (.returned (.tuple #[.slice (some ⟨gb, 0, none⟩) sm.length gcap, .int .i64 0])) wr from
      .inl ⟨_, sm, sts, statesAt_end (by omega) hO.at_ (by rw [List.length_map]; exact Nat.le_refl _), rfl, hO.mem.low H1.out.2.size, by rw [hO.items, List.take_length], by rw [hO.edges, List.take_length], hO.cap, hO.one, H1.out.2.trans (hO.below.mono H1.out.2.size)⟩)
     clear hO hm
     go_wp2_with fail
     go_ret2
     exact HE.out
end Go.Proofs.YtknpkndiflodbaaGreatDoor.Tb
