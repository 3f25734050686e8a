/- Walks and plain laws that the last text stands on: TbLead4. -/
import Derived.Test.YtknpkndiflodbaaGreatDoorTs12
import Derived.Deep.RegionHeld3
import Derived.BigQuiet
set_option linter.unusedVariables false
set_option linter.unusedSimpArgs false
set_option maxRecDepth 100000
set_option maxHeartbeats 16000000
namespace Go.Proofs.YtknpkndiflodbaaGreatDoor.Tb
open Go Go.RowKit Go.Proofs Go.Maps Mx Go.Shelf
theorem infoInt4 : (Tryz.prog.info? 3).map (fun i => (i.zero, i.size, i.bytes)) = some (some (.int .i64 0), 1, 8) := by kernel_rfl
theorem nat_one (w : World) (x : Nat) : ∀ j u, (encN x)[j]? = some u -> (w.alloc (.cells #[.int .i64 (x : Int)] 3)).cell? ((⟨w.heap.size, 0, none⟩ : Addr).add j) = some u := by
 intro j u hj
 have hb : Blk (w.alloc (.cells #[.int .i64 (x : Int)] 3)) w.heap.size 3 #[.int .i64 (x : Int)] := Blk.new w _ _
 rw [addr_add_, Nat.zero_add, hb.cell j]
 simpa [encN] using hj
theorem lead_four (g : Gr) (hg : Good g) (B mb bm : Nat) (sm : List SM) (n : Nat) (s : SM) (hn : sm[n]? = some s) (hs : Bare s) (w : World) (hm : MkW g B mb bm sm w)
  (ia : Option Addr) (ic : Nat) (hvi : s.vi = .slice ia s.items.length ic) (es : List (Sy × Nat)) (sm3 : List SM) (hnum : numbersF (sm.map (·.items)) (leadsF g s.items) = some (es, sm3.map (·.items))) (W : World) (hM : MkW g B mb bm sm3 W) (hK : KeepM mb bm w W)
  (hsn : sm3[n]? = some (nx s (nextF es))) (hold : ∀ k, k ≠ n -> k < sm.length -> sm3[k]? = sm[k]?) (hnew : ∀ k x, sm.length <= k -> sm3[k]? = some x -> Bare x) (c2 : Nat) (hc2 : w.heap.size <= c2) (ve : Value) (hrow : W.ownsRow c2 125 7 ve es.length (flatK encEd es))
  (dl : List Nat) (hmk : MarksAt dl W) (hhi : ∀ d ∈ dl, w.heap.size <= d) {u5 u6 u7 u12 u14 u15 u20 u21 u22 u23 u24 u25 u26 u27 u28 u29 u30 u31 u63 u64 u65 u66 u67 u68 u69 u70 u71 u72 u73 u74 u75 u76 u77 u78 u79 u80 u81 u82 u83 u84 u85 u86 u87 u88 u89 u90 u91 u92 u108 u109 u110 u111 u112 u113 u114 u115 u116 u117 u118 u119 u120 u121 u122 u123 u124 u125 u126 u127 u128 u129 u130 u131 u132 u133 u134 u135 u136 u137 u138 : Value}
  (c : Code) (hc : (Tryz.f36.body.map (dropSeq 9)) = some c) :
  c.wp Tryz.prog (PostL Tryz.prog Tryz.f36 (Led g B mb bm sm n s w)) { tmps := #[.pointer (some ⟨mb, 0, none⟩), .int .i64 (n : Int), undef, undef, .slice ia s.items.length ic, u5, u6, u7, undef, undef, ve, undef, u12, undef, u14, u15, undef, undef, undef, undef, u20, u21, u22, u23, u24, u25, u26, u27, u28, u29, u30, u31, undef, undef, undef, undef, undef, undef, undef, undef, undef, undef, undef, undef, undef, undef, undef, undef, undef, undef, undef, undef, undef, undef, undef, undef, undef, undef, undef, undef, undef, undef, undef, u63, u64, u65, u66, u67, u68, u69, u70, u71, u72, u73, u74, u75, u76, u77, u78, u79, u80, u81, u82, u83, u84, u85, u86, u87, u88, u89, u90, u91, u92, undef, undef, undef, undef, undef, undef, undef, undef, undef, undef, undef, undef, undef, undef, undef, u108, u109, u110, u111, u112, u113, u114, u115, u116, u117, u118, u119, u120, u121, u122, u123, u124, u125, u126, u127, u128, u129, u130, u131, u132, u133, u134, u135, u136, u137, u138, undef, undef, undef, undef, undef, undef, undef, undef, undef, undef, undef, undef, undef, undef, undef, undef, undef, undef, undef, undef, undef, undef, undef, undef, undef, undef, undef, undef, undef, undef, undef, undef, undef, undef, undef, undef, undef, undef, undef, undef, undef, undef, undef, undef, undef, undef, undef, undef], defers := marksD dl } W := by
 have ec : (Tryz.f36.body.map (dropSeq 9)) = some _ := rfl
 rw [ec] at hc
 injection hc with hc
 subst hc
 clear ec
 have hmw : mb < w.heap.size := Nat.lt_of_lt_of_le hm.mlt hm.size
 have hbw : bm < w.heap.size := Nat.lt_of_lt_of_le hm.blt hm.size
 have hnl := (List.getElem?_eq_some_iff.1 hsn).1
 obtain ⟨ea, ec, rfl⟩ := own_shape hrow
 have hn0 : (0 : Int) <= (n : Int) := by omega
 have hn1 : (n : Int) < (sm3.length : Int) := by omega
 obtain ⟨va, a1, a2⟩ := hM.all
 obtain ⟨ag, ac, rfl, hagB, _, _⟩ := own_some a2 (by omega)
 have hfz := a2.frozenAt
 have x1 : W.cell? ⟨ag, n * 7 + 1, none⟩ = some s.ve := by
  rw [a2.cellAt (n * 7 + 1) (by omega)]
  exact flatK_get encSM_len sm3 n (nx s (nextF es)) 1 s.ve hsn rfl
 obtain ⟨tE, htE⟩ : ∃ tE : SM, tE = { nx s (nextF es) with edges := es, ve := .slice ea es.length ec } := ⟨_, rfl⟩
 have hse := hM.each _ (List.mem_of_getElem? hsn)
 have hBw : B <= w.heap.size := hm.size
 have hput := hM.putOne a1 hsn (j := 1) (by omega) (u := .slice ea es.length ec) (t := tE) (by rw [htE]; rfl) (by rw [htE]) (by
  rw [htE]
  exact ⟨hse.items, own_sliceT encEd_len (own_low hrow (by omega)), hse.done, hse.ok, hse.len⟩)
 have hmk1 := (marks_keepM hmk hput.2 hhi hmw hbw)
 have HM := Hd (An hm (An hg (An hs (An hvi (An hn (An hse (An hold hnew)))))))
 have HP := Hd (An hnum (An hK (An hsn (An hput.1 (An hput.2 (An hmk1 (An hhi (An a2 htE))))))))
 have hilen := hse.len
 clear hm hg hs hvi hn hse hold hnew hnum hM hK hsn hput hmk hmk1 hhi a2 htE hrow
 simp only [dropSeq]
 go_wp2_with fail
 obtain ⟨W1, hW1⟩ : ∃ W1, W.setCell ⟨ag, n * 7 + 1, none⟩ (.slice ea es.length ec) = W1 := ⟨_, rfl⟩
 rw [hW1] at HP ⊢
 have hl1 : (sm3.set n tE).length = sm3.length := List.length_set
 have htE := HP.out.2.2.2.2.2.2.2.2
 have hvd : tE.vd = .slice none 0 0 /\ tE.done = [] := by rw [htE]; exact ⟨HM.out.2.2.1.2.2.2.2, HM.out.2.2.1.2.2.1⟩
 have hb1 := HP.out.2.2.2.1
 have hsnE : (sm3.set n tE)[n]? = some tE := by simp [hnl]
 obtain ⟨va1, b1, b2⟩ := hb1.all
 have a11 : W1.cell? ⟨mb, 7, none⟩ = some (.slice (some ⟨ag, 0, none⟩) (sm3.set n tE).length ac) := by
  rw [<- hW1, hl1]
  exact (World.cell?_of_block (Below.heap_setCell W ⟨ag, n * 7 + 1, none⟩ _ mb (by show mb ≠ ag; have := hb1.mlt; omega))).trans a1
 rw [a11] at b1
 injection b1 with b1
 subst b1
 have hv1 : W1.cell? ⟨ag, n * 7 + 6, none⟩ = some (.slice none 0 0) := by
  rw [b2.cellAt (n * 7 + 6) (by omega)]
  rw [<- hvd.1]
  exact flatK_get encSM_len (sm3.set n tE) n tE 6 tE.vd hsnE rfl
 have hD0 : LeadD g B mb bm (sm3.set n tE) n W1 W1.heap.size ag ac [] (.slice none 0 0) W1 :=
  ⟨by rw [set_same _ _ _ _ hv1]; exact hb1, a11, hv1, World.ownsRow_nil _ _ _ _, KeepM.refl _ _ _, hagB, ⟨_, b2⟩⟩
 have HD := Hd (An hD0 (An hb1 (An hsnE hvd)))
 clear hD0 hb1 hsnE hvd b2 a11 hv1 htE hW1 a1 x1 hfz
 rename_i K9 hK9
 have HK9 := Hd hK9
 clear hK9
 go_loopg [149] s.items.length (fun m v149 wr => ∃ (i : Nat) (vd : Value), i <= s.items.length /\ m = s.items.length - i /\ v149 = .int .i64 i /\ LeadD g B mb bm (sm3.set n tE) n W1 W1.heap.size ag ac (doneF g (s.items.take i)) vd wr)
 case atStart => exact ⟨0, _, by omega, rfl, rfl, HD.out.1⟩
 case round =>
  obtain ⟨i, vd, hi, hm, rfl, hE⟩ := hrel
  have A := Hd (An hm hE)
  clear hm hE
  by_cases hlt : i < s.items.length
  ·obtain ⟨⟨nn, d⟩, hx⟩ : ∃ x, s.items[i]? = some x := ⟨_, List.getElem?_eq_getElem hlt⟩
   have hE := A.out.2
   have hml := HM.out.1.mlt
   have hbl := HM.out.1.blt
   have hse2 := HM.out.2.2.2.2.2.1.keep (HP.out.2.2.2.2.1.trans hE.keep) hml hbl
   obtain ⟨ia', ic', hvi', hic1, hic2, hik⟩ := hse2.items
   rw [show (nx s (nextF es)).vi = s.vi from rfl, HM.out.2.2.2.1] at hvi'
   injection hvi' with e1 e2 e3
   subst e1
   subst e3
   obtain ⟨kg, ko, rfl, hkD, hkr⟩ := hik (by rintro h; rw [nx_items] at h; rw [h] at hlt; simp at hlt)
   have k0 := hkr.cells i _ hx 0 _ rfl
   have k1 := hkr.cells i _ hx 1 _ rfl
   simp only [Nat.add_zero] at k0
   have hok := (itemOk_iff g (nn, d)).1 (hse2.ok _ (List.mem_of_getElem? hx))
   obtain ⟨p, hp⟩ : ∃ p, g.prods[nn]? = some p := ⟨_, List.getElem?_eq_getElem hok.1⟩
   have hrt : rightOf g nn = p.right := by unfold rightOf; rw [hp]; rfl
   obtain ⟨hnP, hdl⟩ := hok
   have hp30 := HM.out.2.1.right p (List.mem_of_getElem? hp)
   simp only [hrt] at hdl
   have hmag : mb ≠ ag := by omega
   have hMr : MkR (fun b => b < B /\ b ≠ mb /\ b ≠ bm) wr mb g := hE.mkw.gr.keep (fun b hb hl => ⟨hb, by rw [Below.heap_setCell wr ⟨ag, n * 7 + 6, none⟩ _ b (by show b ≠ ag; have := hb.1; omega)]⟩) (by simp) ((World.cell?_of_block (Below.heap_setCell wr ⟨ag, n * 7 + 6, none⟩ _ mb hmag)).symm) ((World.cell?_of_block (Below.heap_setCell wr ⟨ag, n * 7 + 6, none⟩ _ mb hmag)).symm)
   obtain ⟨_, cp, b, o, vr, m1, rfl, hvr, hpc⟩ := hMr.prod hp
   obtain ⟨ra, rc, rfl, hrc1, hrc2, hrk⟩ := hvr
   have f1 := hpc 1 _ rfl
   have hi0 : (0 : Int) <= (i : Int) := by omega
   have hi1 : (i : Int) < (s.items.length : Int) := by omega
   have hnn0 : (0 : Int) <= (nn : Int) := by omega
   have hnP1 : (nn : Int) < (g.prods.length : Int) := by omega
   have htk : doneF g (s.items.take (i + 1)) = doneF g (s.items.take i) ++ (if d = p.right.length then [nn] else []) := by
    unfold doneF
    rw [List.take_add_one, hx, List.filter_append, List.map_append]
    congr 1
    by_cases e : d = p.right.length <;> simp [hrt, e]
   have HX := Hd (An htk (An hp hrt))
   clear hx hp hrt hpc hkr hMr hik hse2 hE htk hrk
   go_wp2_with fail
   have hIB : Blk (wr.alloc (.cells #[.int .i64 (nn : Int), .int .i64 (d : Int)] 53)) wr.heap.size 53 #[.int .i64 (nn : Int), .int .i64 (d : Int)] := Blk.new _ _ _
   have m1 := cell_alloc_ m1 (.cells #[.int .i64 (nn : Int), .int .i64 (d : Int)] 53)
   have f1 := cell_alloc_ f1 (.cells #[.int .i64 (nn : Int), .int .i64 (d : Int)] 53)
   have hbW : Below wr.heap.size wr (wr.alloc (.cells #[.int .i64 (nn : Int), .int .i64 (d : Int)] 53)) := (Below.refl _ wr).alloc (Nat.le_refl _) _
   have hib : wr.heap.size < (wr.alloc (.cells #[.int .i64 (nn : Int), .int .i64 (d : Int)] 53)).heap.size := by simp
   have hE0 := A.out.2.up hbW
   clear k0 k1
   generalize (wr.alloc (.cells #[.int .i64 (nn : Int), .int .i64 (d : Int)] 53)) = w0 at hIB m1 f1 hbW hib hE0 ⊢
   obtain ⟨x0, x1, _⟩ := hIB.facts2
   have HE := Hd (An hE0 (An hIB (An hbW hib)))
   clear hE0 hIB hbW hib
   go_quiet (fail)
   have hbq : Below w0.heap.size w0 (w0.drewN nq) := below_drewN (Below.refl _ w0) nq
   have hEq := HE.out.1.up hbq
   have hIq := HE.out.2.1.below hbq HE.out.2.1.lt
   have hxq : (w0.drewN nq).cell? ⟨wr.heap.size, 0, none⟩ = some (.int .i64 (nn : Int)) := x0
   have HF := Hd (An hEq (An hIq hxq))
   clear hbq hEq hIq hxq x0 x1 m1 f1
   generalize w0.drewN nq = wq at HF ⊢
   by_cases hdd : d = p.right.length
   ·have heq : ((d : Int) == ((p.right.length : Nat) : Int)) = true := by rw [hdd]; simp
    have hls : ((sm3.set n tE).length : Int) = sm3.length := by rw [hl1]
    have hEw := HF.out.1
    have y7 := hEw.cell
    rw [hl1] at y7
    obtain ⟨xs, hraw⟩ := hEw.raw
    have hfz := hraw.frozenAt
    have y6 := hEw.vcell
    have x0 := HF.out.2.2
    have hrw := hEw.row
    have hdl2 : (doneF g (s.items.take i)).length <= 10000 := by
     unfold doneF
     have h1 := List.length_filter_le (fun x : It => x.2 == (rightOf g x.1).length) (s.items.take i)
     rw [List.length_map]
     rw [List.length_take] at h1
     omega
    clear hEw hraw
    go_wp2_with fail
    have hS : (fun W' : World => W'.cell? ⟨mb, 7, none⟩ = some (.slice (some ⟨ag, 0, none⟩) sm3.length ac) /\ W'.cell? ⟨wr.heap.size, 0, none⟩ = some (.int .i64 (nn : Int))) wq.drew := ⟨y7, x0⟩
    obtain ⟨wz, hwz⟩ : ∃ wz, wq.drew.alloc (.cells #[.int .i64 (nn : Int)] 3) = wz := ⟨_, rfl⟩
    have hSa : (fun W' : World => W'.cell? ⟨mb, 7, none⟩ = some (.slice (some ⟨ag, 0, none⟩) sm3.length ac) /\ W'.cell? ⟨wr.heap.size, 0, none⟩ = some (.int .i64 (nn : Int))) wz := by rw [<- hwz]; exact ⟨cell_alloc_ hS.1 _, cell_alloc_ hS.2 _⟩
    have y6a : wz.cell? ⟨ag, n * 7 + 6, none⟩ = some vd := by rw [<- hwz]; exact cell_alloc_ y6 _
    refine wp_region_held (S := (fun W' : World => W'.cell? ⟨mb, 7, none⟩ = some (.slice (some ⟨ag, 0, none⟩) sm3.length ac) /\ W'.cell? ⟨wr.heap.size, 0, none⟩ = some (.int .i64 (nn : Int)))) (by kernel_rfl) ?_
    show wpAnyH _ _ _ _ _ 20 #[false, false, false, false, false, false, false, false, false, false, false, false, false, false, false, false, false, false, false, false] _ wq.drew
    refine held_take (i := 0) (v := .pointer (some ⟨mb, 0, none⟩)) rfl (by kernel_rfl) rfl (fun _ _ _ h => h) (fun W' hW' => by obtain ⟨q1, q2⟩ := hW'; go_simp) hS ?_
    simp only [Act.put, List.setIfInBounds_toArray, List.set_cons_zero, List.set_cons_succ]
    refine held_take (i := 1) (v := .pointer (some ⟨mb, 0, none⟩)) rfl (by kernel_rfl) rfl (fun _ _ _ h => h) (fun W' hW' => by obtain ⟨q1, q2⟩ := hW'; go_simp) hS ?_
    simp only [Act.put, List.setIfInBounds_toArray, List.set_cons_zero, List.set_cons_succ]
    refine held_take (i := 2) (v := .pointer (some ⟨mb, 7, none⟩)) rfl (by kernel_rfl) rfl (fun _ _ _ h => h) (fun W' hW' => by obtain ⟨q1, q2⟩ := hW'; go_simp) hS ?_
    simp only [Act.put, List.setIfInBounds_toArray, List.set_cons_zero, List.set_cons_succ]
    refine held_take (i := 3) (v := .slice (some ⟨ag, 0, none⟩) sm3.length ac) rfl (by kernel_rfl) rfl (fun _ _ _ h => h) (fun W' hW' => by obtain ⟨q1, q2⟩ := hW'; go_simp) hS ?_
    simp only [Act.put, List.setIfInBounds_toArray, List.set_cons_zero, List.set_cons_succ]
    refine held_take (i := 4) (v := .int .i64 (n : Int)) rfl (by kernel_rfl) rfl (fun _ _ _ h => h) (fun W' hW' => by obtain ⟨q1, q2⟩ := hW'; go_simp) hS ?_
    simp only [Act.put, List.setIfInBounds_toArray, List.set_cons_zero, List.set_cons_succ]
    refine held_take (i := 5) (v := .pointer (some ⟨mb, 0, none⟩)) rfl (by kernel_rfl) rfl (fun _ _ _ h => h) (fun W' hW' => by obtain ⟨q1, q2⟩ := hW'; go_simp) hS ?_
    simp only [Act.put, List.setIfInBounds_toArray, List.set_cons_zero, List.set_cons_succ]
    refine held_take (i := 6) (v := .pointer (some ⟨mb, 0, none⟩)) rfl (by kernel_rfl) rfl (fun _ _ _ h => h) (fun W' hW' => by obtain ⟨q1, q2⟩ := hW'; go_simp) hS ?_
    simp only [Act.put, List.setIfInBounds_toArray, List.set_cons_zero, List.set_cons_succ]
    refine held_take (i := 7) (v := .pointer (some ⟨mb, 7, none⟩)) rfl (by kernel_rfl) rfl (fun _ _ _ h => h) (fun W' hW' => by obtain ⟨q1, q2⟩ := hW'; go_simp) hS ?_
    simp only [Act.put, List.setIfInBounds_toArray, List.set_cons_zero, List.set_cons_succ]
    refine held_take (i := 8) (v := .slice (some ⟨ag, 0, none⟩) sm3.length ac) rfl (by kernel_rfl) rfl (fun _ _ _ h => h) (fun W' hW' => by obtain ⟨q1, q2⟩ := hW'; go_simp) hS ?_
    simp only [Act.put, List.setIfInBounds_toArray, List.set_cons_zero, List.set_cons_succ]
    refine held_take (i := 9) (v := .int .i64 (n : Int)) rfl (by kernel_rfl) rfl (fun _ _ _ h => h) (fun W' hW' => by obtain ⟨q1, q2⟩ := hW'; go_simp) hS ?_
    simp only [Act.put, List.setIfInBounds_toArray, List.set_cons_zero, List.set_cons_succ]
    refine held_take (i := 10) (v := .pointer (some ⟨ag, n * 7, none⟩)) rfl (by kernel_rfl) rfl (fun _ _ _ h => h) (fun W' hW' => by obtain ⟨q1, q2⟩ := hW'; go_simp) hS ?_
    simp only [Act.put, List.setIfInBounds_toArray, List.set_cons_zero, List.set_cons_succ]
    refine held_take (i := 11) (v := .pointer (some ⟨ag, n * 7 + 6, none⟩)) rfl (by kernel_rfl) rfl (fun _ _ _ h => h) (fun W' hW' => by obtain ⟨q1, q2⟩ := hW'; go_simp) hS ?_
    simp only [Act.put, List.setIfInBounds_toArray, List.set_cons_zero, List.set_cons_succ]
    refine held_take (i := 13) (v := .pointer (some ⟨wr.heap.size, 0, none⟩)) rfl (by kernel_rfl) rfl (fun _ _ _ h => h) (fun W' hW' => by obtain ⟨q1, q2⟩ := hW'; go_simp) hS ?_
    simp only [Act.put, List.setIfInBounds_toArray, List.set_cons_zero, List.set_cons_succ]
    refine held_take (i := 14) (v := .int .i64 (nn : Int)) rfl (by kernel_rfl) rfl (fun _ _ _ h => h) (fun W' hW' => by obtain ⟨q1, q2⟩ := hW'; go_simp) hS ?_
    simp only [Act.put, List.setIfInBounds_toArray, List.set_cons_zero, List.set_cons_succ]
    apply via
    ·intro KV
     refine held_two (i := 12) (j := 15) (by kernel_rfl) rfl rfl rfl rfl ?_ ?_
     ·intro K hK
      go_simp
      refine hK _ _ hS ?_
      clear hK K
      simp only [Act.put, List.setIfInBounds_toArray, List.set_cons_zero, List.set_cons_succ]
      refine held_one (i := 15) (by kernel_rfl) rfl rfl ?_
      intro K hK
      go_simp
      refine hK _ _ hSa ?_
      clear hK K
      simp only [Act.put, List.setIfInBounds_toArray, List.set_cons_zero, List.set_cons_succ]
      exact KV.out
     ·intro K hK
      go_simp
      refine hK _ _ hSa ?_
      clear hK K
      simp only [Act.put, List.setIfInBounds_toArray, List.set_cons_zero, List.set_cons_succ]
      refine held_one (i := 12) (by kernel_rfl) rfl rfl ?_
      intro K hK
      go_simp
      refine hK _ _ hSa ?_
      clear hK K
      simp only [Act.put, List.setIfInBounds_toArray, List.set_cons_zero, List.set_cons_succ]
      exact KV.out
    refine held_one (i := 16) (by kernel_rfl) rfl rfl ?_
    obtain ⟨i0, hi', hz0, hz1, hz2⟩ := info_parts infoInt4
    have hrz : wz.ownsRow W1.heap.size 3 1 vd (doneF g (s.items.take i)).length (flatK encN (doneF g (s.items.take i))) := by rw [<- hwz]; exact hrw.drew.alloc _
    intro K16 hK16
    refine wp_append_ownF _ _ _ 68 rfl W1.heap.size 3 i0 (.int .i64 0) 1 8 Tryz.underlying68 hi' hz0 hz1 hz2 rfl (by decide) _ (doneF g (s.items.take i)).length (flatK encN (doneF g (s.items.take i))) rfl hrz ⟨wq.heap.size, 0, none⟩ 1 1 (encN nn) rfl rfl ?c1 ?c2 ?c3 ?c4 ?c5 ?_
    case c1 => rw [<- hwz]; exact nat_one wq.drew nn
    case c2 => intro u hu; simp [encN] at hu; subst hu; rfl
    case c3 => unfold maxLen; omega
    case c4 => omega
    case c5 => have h1 := HF.out.1.keep.size; rw [<- hwz, World.size_alloc]; have h2 : wq.drew.heap.size = wq.heap.size := rfl; omega
    intro v' w5 hown5 hg5 _
    have hgw : wq.grownBy w5 vd.ownBlock := World.grownBy.trans (show wq.grownBy wz _ by rw [<- hwz]; exact World.grownBy.trans (grown_drewN (grown_refl wq _) 1) (World.grownBy_alloc _ _ _)) hg5
    obtain ⟨va', vc', rfl⟩ := own_shape hown5
    obtain ⟨xs', hraw⟩ := HF.out.1.raw
    have hag : some ag ≠ vd.ownBlock := fun e => by
     rcases row_ne_row hraw hrw (by decide) with h | h
     ·cases h
     ·exact h e
    have hfz5 := (hraw.kept hgw (.inr hag)).frozenAt
    have y65 := hgw.cell y6 hag
    have y75 := hgw.cell y7 (fun e => by have := (hrw.lt mb e.symm).1; have := HD.out.2.1.size; omega)
    have x05 := hgw.cell x0 (blk_ne_row HF.out.2.1 hrw (by decide))
    have hwag : wr.heap.size ≠ ag := fun e => by
     obtain ⟨_, c', fz, e3⟩ := own_ty hraw ag rfl
     have hB := HF.out.2.1
     unfold Blk at hB
     rw [e, e3] at hB
     injection hB with hB
     injection hB with _ hB _
     exact absurd hB (by decide)
    have hpush := HF.out.1.push (by rw [hl1]; exact hnl) HD.out.2.1.each (Nat.le_refl _) HD.out.2.1.size hgw hown5
    have HG := Hd hpush
    clear hpush hraw hown5 hg5 hgw hrz hrw hfz
    refine hK16 _ _ ⟨y75, x05⟩ ?_
    clear hK16 K16
    simp only [Act.put, List.setIfInBounds_toArray, List.set_cons_zero, List.set_cons_succ]
    refine held_one (i := 17) (by kernel_rfl) rfl rfl ?_
    intro K hK
    go_simp
    refine hK _ _ ⟨y75, x05⟩ ?_
    clear hK K
    simp only [Act.put, List.setIfInBounds_toArray, List.set_cons_zero, List.set_cons_succ]
    refine held_one (i := 18) (by kernel_rfl) rfl rfl ?_
    intro K hK
    go_simp
    refine hK _ _ ⟨y75, x05⟩ ?_
    clear hK K
    simp only [Act.put, List.setIfInBounds_toArray, List.set_cons_zero, List.set_cons_succ]
    refine held_one (i := 19) (by kernel_rfl) rfl rfl ?_
    intro K hK
    go_simp
    refine hK _ _ ⟨(World.cell?_of_block (Below.heap_setCell w5 ⟨ag, n * 7 + 6, none⟩ _ mb hmag)).trans y75, (World.cell?_of_block (Below.heap_setCell w5 ⟨ag, n * 7 + 6, none⟩ _ wr.heap.size hwag)).trans x05⟩ ?_
    clear hK K
    refine wpAnyH_done (by kernel_rfl) ?_ _
    go_step
    go_step
    go_wp2_with fail
    go_roundg (s.items.length - (i + 1))
    case measure => have := A.out.1; omega
    case rel => exact ⟨i + 1, _, by omega, rfl, rfl, by rw [HX.out.1, if_pos hdd]; exact HG.out⟩
   ·have heq : ((d : Int) == ((p.right.length : Nat) : Int)) = false := by rw [beq_eq_false_iff_ne]; omega
    go_wp2_with fail
    go_roundg (s.items.length - (i + 1))
    case measure => have := A.out.1; omega
    case rel => exact ⟨i + 1, _, by omega, rfl, rfl, by rw [HX.out.1, if_neg hdd, List.append_nil]; exact HF.out.1⟩
  ·obtain rfl : i = s.items.length := by omega
   go_wp2_with fail
   have hE := A.out.2
   have hmkr := marks_keepM HP.out.2.2.2.2.2.1 hE.keep HP.out.2.2.2.2.2.2.1 hmw hbw
   refine ⟨dl, rfl, hmkr, fun w' hs => ⟨.tuple #[], results_none rfl _ _ _, .inl ?_⟩⟩
   obtain ⟨t1, ht1⟩ : ∃ t1 : SM, t1 = { tE with done := doneF g (s.items.take s.items.length), vd := vd } := ⟨_, rfl⟩
   have hW1 : B <= W1.heap.size := HD.out.2.1.size
   have hov := hE.over (t1 := t1) HD.out.2.2.1 (by rw [ht1]; exact ⟨rfl, rfl, rfl, rfl, rfl, rfl, rfl⟩) hW1
   rw [List.set_set] at hov
   have htE := HP.out.2.2.2.2.2.2.2.2
   have hit : t1.items = (nx s (nextF es)).items := by rw [ht1, htE]
   have hhB : ∀ d ∈ dl, B <= d := fun d hd => by have := HP.out.2.2.2.2.2.2.1 d hd; omega
   have hkw : KeepM mb bm w wr := (HP.out.2.1.trans HP.out.2.2.2.2.1).trans hE.keep
   refine ⟨es, _, sm3.set n t1, t1, HP.out.1, rfl, hov.shut hmkr hs hhB, hkw.shut hs HP.out.2.2.2.2.2.2.1, set_items sm3 n _ t1 HP.out.2.2.1 hit, by simp [hnl], by rw [ht1, htE], by rw [ht1, List.take_length], by rw [ht1, htE]; rfl, fun k hk hkl => ?_, fun k x hk hx => ?_⟩
   ·rw [List.getElem?_set_ne (Ne.symm hk)]
    exact HM.out.2.2.2.2.2.2.1 k hk hkl
   ·rw [List.getElem?_set_ne (by have := (List.getElem?_eq_some_iff.1 HM.out.2.2.2.2.1).1; omega)] at hx
    exact HM.out.2.2.2.2.2.2.2 k x hk hx
end Go.Proofs.YtknpkndiflodbaaGreatDoor.Tb
