/- Walks and plain laws that the last text stands on: TbClosed, TbBuild, ShelfT, TbNumber. -/
import Derived.Test.YtknpkndiflodbaaGreatDoorTs2
import Derived.Test.YtknpkndiflodbaaGreatDoorTs5
import Derived.Test.YtknpkndiflodbaaGreatDoorTs9
import Derived.Test.YtknpkndiflodbaaGreatDoorTs4
import Derived.Deep.RegionLaw
import Derived.Carry
import Derived.WalkMore
import Derived.Test.YtknpkndiflodbaaGreatDoorProg
import Derived.Lib.Strings
import Derived.Lib.Slices
import Derived.Lib.Walk
import Derived.Lib.Builder
import Derived.Lib.AppendStr
import Derived.Lib.UnsafeStr
import Derived.Laws.Externs
import Derived.Laws.IdiomCopy
import Derived.Laws.BitsLemmas
import Derived.Shelf.Small.Bits
import Derived.Shelf.Strings.BuilderF
import Derived.Shelf.Strconv.Itoa3
import Derived.Shelf.LaysM
import Derived.Deep.RegionWith
import Derived.StillTailTactics
set_option linter.unusedVariables false
set_option linter.unusedSimpArgs false
set_option maxRecDepth 100000
set_option maxHeartbeats 16000000
namespace Go.Proofs.YtknpkndiflodbaaGreatDoor.Tb
open Go Go.RowKit Go.Proofs Go.Maps Mx
structure SeenV (f : Lit -> Option Value) (seen : List Int) (i : Nat) : Prop where
 yes : ∀ s, s ∈ seen -> ∃ c : Int, 1 <= c /\ c <= i /\ f (.int .i64 s) = some (.int .i64 c)
 no : ∀ s, s ∉ seen -> f (.int .i64 s) = none
theorem SeenV.mono {f : Lit -> Option Value} {seen : List Int} {i j : Nat} (h : SeenV f seen i) (hij : i <= j) : SeenV f seen j :=
 ⟨fun s hs => by obtain ⟨c, h1, h2, h3⟩ := h.yes s hs; exact ⟨c, h1, by omega, h3⟩, h.no⟩
theorem SeenV.again {f : Lit -> Option Value} {seen : List Int} {i : Nat} (h : SeenV f seen i) {s c : Int} (hs : s ∈ seen) (hc : f (.int .i64 s) = some (.int .i64 c)) (h1 : 1 <= c) (h2 : c <= i) :
    SeenV (putV f (.int .i64 s) (.int .i64 (c + 1))) seen (i + 1) :=
  ⟨fun t ht => by
    rw [putV_int]
    by_cases e : t = s
    · rw [if_pos e]; exact ⟨c + 1, by omega, by omega, rfl⟩
    · rw [if_neg e]; obtain ⟨d, k1, k2, k3⟩ := h.yes t ht; exact ⟨d, k1, by omega, k3⟩,
   fun t ht => by
    rw [putV_int, if_neg (by rintro rfl; exact ht hs)]
    exact h.no t ht⟩
theorem SeenV.new {f : Lit -> Option Value} {seen : List Int} {i : Nat} (h : SeenV f seen i) {s : Int} (hs : s ∉ seen) : SeenV (putV f (.int .i64 s) (.int .i64 1)) (s :: seen) (i + 1) :=
  ⟨fun t ht => by
    rw [putV_int]
    by_cases e : t = s
    · rw [if_pos e]; exact ⟨1, by omega, by omega, rfl⟩
    · rw [if_neg e]
      rcases List.mem_cons.1 ht with h1 | h1
      · exact absurd h1 e
      · obtain ⟨d, k1, k2, k3⟩ := h.yes t h1; exact ⟨d, k1, by omega, k3⟩,
   fun t ht => by
    rw [putV_int, if_neg (fun e => ht (by rw [e]; simp))]
    exact h.no t (fun h1 => ht (List.mem_cons_of_mem _ h1))⟩
structure CloseW (g : Gr) (l : List It) (w : World) (i : Nat) (seen : List Int) (out : List It) (v6 : Value) (nm : Nat) (f : Lit -> Option Value) (wr : World) : Prop where
 at_ : CloseAt g l i seen out
 own : wr.ownsRow (w.heap.size + 1) 53 2 v6 out.length (flatK encIt out)
 map : MapV Tryz.prog 3 wr w.heap.size nm f
 le : nm <= i
 seen : SeenV f seen i
 below : Below w.heap.size w wr
 size : w.heap.size + 1 <= wr.heap.size
theorem CloseW.next {g : Gr} {l : List It} {w : World} {i : Nat} {seen : List Int} {out : List It} {v6 : Value} {nm : Nat} {f : Lit -> Option Value} {wr w3 : World} (h : CloseW g l w i seen out v6 nm f wr) {x : It} (hx : out[i]? = some x)
  (h1 : closeSeen g seen x = seen) (h2 : closeOut g seen out x = out) (hb : Below wr.heap.size wr w3) : CloseW g l w (i + 1) seen out v6 nm f w3 := by
 have := h.at_.step hx
 rw [h1, h2] at this
 exact ⟨this, row_below h.own hb, h.map.below hb h.map.lt, by have := h.le; omega, h.seen.mono (Nat.le_succ _), h.below.trans (hb.mono h.below.size), Nat.le_trans h.size hb.size⟩
theorem CloseW.again {g : Gr} {l : List It} {w : World} {i : Nat} {seen : List Int} {out : List It} {v6 : Value} {nm : Nat} {f : Lit -> Option Value} {wr w3 w4 : World} (h : CloseW g l w i seen out v6 nm f wr) {x : It} (hx : out[i]? = some x)
  (h1 : closeSeen g seen x = seen) (h2 : closeOut g seen out x = out) (hb : Below wr.heap.size wr w3) {f' : Lit -> Option Value} (hg : w3.grownBy w4 (some w.heap.size)) (hm : MapV Tryz.prog 3 w4 w.heap.size (nm + 1) f') (hs : SeenV f' seen (i + 1)) : CloseW g l w (i + 1) seen out v6 (nm + 1) f' w4 := by
 have h3 := h.next hx h1 h2 hb
 refine ⟨h3.at_, h3.own.kept hg ?_, hm, by have := h.le; omega, hs, h3.below.trans (below_of_grown hg h3.below.size (Nat.le_refl _)), Nat.le_trans h3.size hg.size⟩
 cases e : v6.ownBlock with
 | none => exact .inl rfl
 | some b => exact .inr (by have := (h.own.lt b e).1; intro e2; injection e2 with e2; omega)
theorem CloseW.mid {g : Gr} {l : List It} {w : World} {i : Nat} {seen : List Int} {out : List It} {v6 : Value} {nm : Nat} {f : Lit -> Option Value} {wr w3 w4 : World} (h : CloseW g l w i seen out v6 nm f wr)
  (hb : Below wr.heap.size wr w3) (hg : w3.grownBy w4 (some w.heap.size)) : w4.ownsRow (w.heap.size + 1) 53 2 v6 out.length (flatK encIt out) /\ Below w.heap.size w w4 /\ w.heap.size + 1 <= w4.heap.size := by
 refine ⟨(row_below h.own hb).kept hg ?_, (h.below.trans (hb.mono h.below.size)).trans (below_of_grown hg (Nat.le_trans h.below.size hb.size) (Nat.le_refl _)), Nat.le_trans (Nat.le_trans h.size hb.size) hg.size⟩
 cases e : v6.ownBlock with
 | none => exact .inl rfl
 | some b => exact .inr (by have := (h.own.lt b e).1; intro e2; injection e2 with e2; omega)
theorem it_pair (w : World) (n : Nat) (t : TypeId) : ∀ j u, (encIt (n, 0))[j]? = some u -> (w.alloc (.cells #[.int .i64 (n : Int), .int .i64 0] t)).cell? ((⟨w.heap.size, 0, none⟩ : Addr).add j) = some u := by
 intro j u hj
 have hb : Blk (w.alloc (.cells #[.int .i64 (n : Int), .int .i64 0] t)) w.heap.size t #[.int .i64 (n : Int), .int .i64 0] := Blk.new w _ _
 rw [addr_add, Nat.zero_add, hb.cell j]
 match j, hj with
 | 0, hj => exact hj
 | 1, hj => exact hj
theorem closed_any (D D2 : Nat -> Prop) (g : Gr) (hg : Good g) (mb : Nat) (l : List It) (hl : ∀ x ∈ l, itemOk g x = true) (hln : l.length <= 1000000) (v : Value) (w : World) (hm : MkR D w mb g) (hv : SliceK D2 encIt 2 w v l) :
  Calls Tryz.prog 63 #[.pointer (some ⟨mb, 0, none⟩), v] w fun e w' => ∃ v', e = .returned v' /\ SliceK (TyD w.heap.size 53 w') encIt 2 w' v' (closedF g l) /\ Below w.heap.size w w' := by
 have hclone := fun W hV => clone_any D2 l v W hV (by omega)
 have hM0 := MapV.made w Tryz.prog 3
 have hmw : MkR D (w.alloc (.map #[] 0)) mb g := hm.below ((Below.refl _ w).alloc (Nat.le_refl _) _)
 have hvw : SliceK D2 encIt 2 (w.alloc (.map #[] 0)) v l := hv.all ((Below.refl _ w).alloc (Nat.le_refl _) _)
 have H0 := Hd (An hM0 (An hmw hvw))
 have HG := Hd hg
 have HL := Hd hl
 have HM := Hd hm
 clear hM0 hmw hvw hg hl hm hv
 have hmm := @run_makeMap Tryz.prog
 go_enter Tryz.func63, Tryz.ntmps63
 go_wp2_with fail
 go_step3
 go_wp2_with fail
 refine (hclone _ H0.out.2.2).mono ?_
 rintro e w1 ⟨vo, rfl, hown, hb⟩
 have hown0 : w1.ownsRow (w.heap.size + 1) 53 2 vo l.length (flatK encIt l) := by simpa using hown
 have H1 := Hd (An (H0.out.1.below hb (by simp)) (An (H0.out.2.1.below hb) (An hown0 (((Below.refl w.heap.size w).alloc (Nat.le_refl _) (.map #[] 0)).trans (hb.mono (by simp))))))
 have hs1 : w.heap.size + 1 <= w1.heap.size := by have := hb.size; simpa using this
 clear hown hown0 hb hclone H0
 go_wp2_with fail
 go_step3
 go_wp2_with fail
 go_loopg [6, 7] (l.length + g.prods.length) (fun m v6 v7 wr => ∃ (i : Nat) (seen : List Int) (out : List It) (nm : Nat) (f : Lit -> Option Value), v7 = .int .i64 i /\ m = l.length + g.prods.length - i /\ CloseW g l w i seen out v6 nm f wr)
 case atStart =>
  exact ⟨0, [], l, 0, _, rfl, by omega, CloseAt.start HL.out, H1.out.2.2.1, H1.out.1, Nat.le_refl _, ⟨fun s hs => by simp at hs, fun _ _ => rfl⟩, H1.out.2.2.2, hs1⟩
 case round =>
  obtain ⟨i, seen, out, nm, f, rfl, hm, hC⟩ := hrel
  obtain ⟨sa, sc, rfl⟩ := own_shape hC.own
  have hfit := hC.at_.fits
  have hile := hC.at_.le
  have hPn := HG.out.prods
  have A := Hd (An hm hC)
  clear hm hC
  by_cases hlt : i < out.length
  ·obtain ⟨⟨n, d⟩, hx⟩ : ∃ x, out[i]? = some x := ⟨_, List.getElem?_eq_getElem hlt⟩
   obtain ⟨go, rfl, hgo⟩ : ∃ go, sa = some ⟨go, 0, none⟩ /\ w.heap.size + 1 <= go := by
    obtain ⟨go, cap, e, h1, _⟩ := own_some A.out.2.own (by omega)
    injection e with e1 e2 e3
    exact ⟨go, e1, h1⟩
   obtain ⟨cx1, cx2⟩ := it_cells A.out.2.own rfl i _ hx
   have hok := (itemOk_iff g (n, d)).1 (A.out.2.at_.ok _ (List.mem_of_getElem? hx))
   obtain ⟨p, hp⟩ : ∃ p, g.prods[n]? = some p := ⟨_, List.getElem?_eq_getElem hok.1⟩
   have hrt : rightOf g n = p.right := by unfold rightOf; rw [hp]; rfl
   obtain ⟨hnP, hdl⟩ := hok
   have hpm := List.mem_of_getElem? hp
   simp only [hrt] at hdl
   have hMr : MkR D wr mb g := HM.out.below A.out.2.below
   obtain ⟨_, cp, b, o, vr, m1, rfl, hvr, hpc⟩ := hMr.prod hp
   obtain ⟨ra, rc, rfl, hrc1, hrc2, hrk⟩ := hvr
   have f0 := hpc 0 _ rfl
   have f1 := hpc 1 _ rfl
   have f2 := hpc 2 _ rfl
   have f3 := hpc 3 _ rfl
   have f4 := hpc 4 _ rfl
   have f5 := hpc 5 _ rfl
   have f6 := hpc 6 _ rfl
   simp only [Nat.add_zero] at f0
   have hrl := HG.out.right p hpm
   have hlt1 : (i : Int) < (out.length : Int) := by omega
   have hie : ((i : Int) == (out.length : Int)) = false := by simp; omega
   have hi0 : (0 : Int) <= (i : Int) := by omega
   have hn0 : (0 : Int) <= (n : Int) := by omega
   have hnP1 : (n : Int) < (g.prods.length : Int) := by omega
   have HX := Hd (An hx (An hp (An hrt (An hpc hMr))))
   clear hx hp hpm hrt hpc hMr
   have m1a := fun o => cell_alloc_ m1 o
   have cx1a := fun o => cell_alloc_ cx1 o
   have f0a := fun o => cell_alloc_ f0 o
   have f1a := fun o => cell_alloc_ f1 o
   have f2a := fun o => cell_alloc_ f2 o
   have f3a := fun o => cell_alloc_ f3 o
   have f4a := fun o => cell_alloc_ f4 o
   have f5a := fun o => cell_alloc_ f5 o
   have f6a := fun o => cell_alloc_ f6 o
   go_wp2_with fail
   go_region
   generalize hw2 : (wr.alloc (Obj.cells #[Value.int IntKind.i64 p.left, Value.slice ra p.right.length rc, Value.string { data := p.cons.toArray }, Value.int IntKind.i64 p.role, Value.bool p.prefer, Value.bool p.avoid, Value.int IntKind.i64 p.made] 34)).drew = w2
   have hb2 : Below wr.heap.size wr w2 := by rw [<- hw2]; exact ((Below.refl _ wr).alloc (Nat.le_refl _) _).drew
   have hB2 : Blk w2 wr.heap.size 34 #[Value.int IntKind.i64 p.left, Value.slice ra p.right.length rc, Value.string { data := p.cons.toArray }, Value.int IntKind.i64 p.role, Value.bool p.prefer, Value.bool p.avoid, Value.int IntKind.i64 p.made] := by rw [<- hw2]; exact (Blk.new wr _ _).drew
   have p1 : w2.cell? ⟨wr.heap.size, 1, none⟩ = some (.slice ra p.right.length rc) := hB2.cell 1
   have c2 := (hb2.cell (p := ⟨go, i * 2 + 1, none⟩) (World.block_lt_of_cell? _ _ cx2)).trans cx2
   have H2 := Hd (An hb2 hB2)
   clear hw2 hb2 hB2 f0 f1 f2 f3 f4 f5 f6 m1a cx1a f0a f1a f2a f3a f4a f5a f6a cx1 cx2 m1
   by_cases hd : d = p.right.length
   ·subst hd
    have hde : (((p.right.length : Nat) : Int) == ((p.right.length : Nat) : Int)) = true := by simp
    go_wp2_with fail
    go_quiet (fail)
    go_wp2_with fail
    go_roundg (l.length + g.prods.length - (i + 1))
    case measure => have := A.out.1; omega
    case rel =>
     have hah : aheadF g (n, p.right.length) = none := by unfold aheadF; rw [HX.out.2.2.1]; simp
     exact ⟨i + 1, seen, out, nm, f, rfl, rfl, A.out.2.next HX.out.1 (by unfold closeSeen; rw [hah]) (by unfold closeOut; rw [hah]) (below_drewN H2.out.1 _)⟩
   ·have hdlt : d < p.right.length := by omega
    obtain ⟨s, hs⟩ : ∃ s, p.right[d]? = some s := ⟨_, List.getElem?_eq_getElem hdlt⟩
    obtain ⟨rg, ro, rfl, _, hrr⟩ := hrk (by rintro e; rw [e] at hdlt; simp at hdlt)
    have hde : ((d : Int) == ((p.right.length : Nat) : Int)) = false := by simp; omega
    have hd0 : (0 : Int) <= (d : Int) := by omega
    have hd1 : (d : Int) < ((p.right.length : Nat) : Int) := by omega
    have k0 := hrr.cells d s hs 0 _ rfl
    have k5 := hrr.cells d s hs 5 _ rfl
    simp only [Nat.add_zero] at k0
    have k0 := (H2.out.1.cell (p := ⟨rg, ro + d * 6, none⟩) (World.block_lt_of_cell? _ _ k0)).trans k0
    have k5 := (H2.out.1.cell (p := ⟨rg, ro + d * 6 + 5, none⟩) (World.block_lt_of_cell? _ _ k5)).trans k5
    have hsy := HG.out.sym p (List.mem_of_getElem? HX.out.2.1) s (List.mem_of_getElem? hs)
    have HS := Hd (An hs (An hrr hsy))
    clear hs hrr hsy hd hdl
    by_cases hk : s.kind = 1
    ·have hkn : (s.kind != 1) = false := by simp [hk]
     have hsy := HS.out.2.2
     rw [hk] at hsy
     obtain ⟨_, hs0, hs1'⟩ : s.set = 0 /\ 0 <= s.sort /\ s.sort < g.sorts.length := by
      rcases hsy with h | h
      ·exact absurd h.1 (by decide)
      ·exact h.2
     obtain ⟨S, hS⟩ : ∃ S : Nat, s.sort = (S : Int) := ⟨s.sort.toNat, by omega⟩
     rw [hS] at k5 hs1'
     have hSn : S < g.sorts.length := by omega
     have hMv : MapV Tryz.prog 3 w2 w.heap.size nm f := A.out.2.map.below H2.out.1 A.out.2.map.lt
     have hKey : keyOf Tryz.prog 3 (.int .i64 (S : Int)) = some (.int .i64 (S : Int)) := keyOf_int_mk Tryz.underlying3 (by have := HG.out.sorts; simp [Lit.wf, IntKind.min, IntKind.max, IntKind.bits, IntKind.signed]; omega)
     have HMv := Hd hMv
     have hah : aheadF g (n, d) = some s := by unfold aheadF; rw [HX.out.2.2.1]; exact HS.out.1
     have HK := Hd (An hk (An hah hS))
     clear hk hah hS hMv hsy hs0 hs1'
     go_wp2_with fail
     go_quiet (fail)
     go_wp2_with fail
     go_quiet (fail)
     have hnm := A.out.2.le
     by_cases hin : (S : Int) ∈ seen
     ·obtain ⟨c, hc1, hc2, hfc⟩ := A.out.2.seen.yes _ hin
      have hput := putV_same f (kl := .int .i64 (S : Int)) (.int .i64 (c + 1)) (int_keyed (P := Tryz.prog) Tryz.underlying3 |>.key hKey)
      have hgt : (1 : Int) < c + 1 := by omega
      have hmx : nm < maxLen := by unfold maxLen; omega
      go_wp2_with (first
       | (at_lookup; refine wpList_lookupV _ rfl _ _ 148 rfl 3 3 (int_keyed Tryz.underlying3) Tryz.underlying148 (.int .i64 0) (Tryz.zeroValue3 _) w.heap.size nm f rfl ?_ _ _ rfl hKey ?_; exact HMv.out)
       | (at_mapUpdate; refine wpList_mapUpdateV _ rfl _ _ _ 148 rfl 3 3 (int_keyed Tryz.underlying3) Tryz.underlying148 w.heap.size nm f rfl ?_ hmx _ _ _ rfl rfl hKey ?_; exact HMv.out))
      intro w4 hm4 hg4
      go_wp2_with (at_lookup; refine wpList_lookupV _ rfl _ _ 148 rfl 3 3 (int_keyed Tryz.underlying3) Tryz.underlying148 (.int .i64 0) (Tryz.zeroValue3 _) w.heap.size _ _ rfl hm4 _ _ rfl hKey ?_)
      go_roundg (l.length + g.prods.length - (i + 1))
      case measure => have := A.out.1; omega
      case rel =>
       refine ⟨i + 1, seen, out, nm + 1, _, rfl, rfl, A.out.2.again HX.out.1 ?_ ?_ (below_drewN H2.out.1 _) hg4 hm4 (A.out.2.seen.again hin hfc hc1 hc2)⟩
       ·unfold closeSeen; rw [HK.out.2.1]; simp [HK.out.1, HK.out.2.2, hin]
       ·unfold closeOut; rw [HK.out.2.1]; simp [HK.out.1, HK.out.2.2, hin]
     ·have hfn := A.out.2.seen.no _ hin
      have hmx : nm < maxLen := by unfold maxLen; omega
      have hput := putV_same f (kl := .int .i64 (S : Int)) (.int .i64 1) (int_keyed (P := Tryz.prog) Tryz.underlying3 |>.key hKey)
      obtain ⟨vo', o1, lo, hlo, hlen, heach⟩ := HM.out.of
      obtain ⟨⟨vs, ns⟩, hvs⟩ : ∃ x, lo[S]? = some x := ⟨_, List.getElem?_eq_getElem (by omega)⟩
      have hns : ns = ofS g S := heach S _ hvs
      obtain ⟨oa, oc, rfl, oc1, oc2, hoK⟩ := hlo.row
      obtain ⟨ob, oo, rfl, _, hor⟩ := hoK (by rintro rfl; simp at hvs)
      have k1 := hor.cells S _ hvs 0 vs rfl
      simp only [Nat.add_zero, Nat.mul_one] at k1
      have hvS : SliceK D encN 1 w vs ns := hlo.each _ (List.mem_of_getElem? hvs)
      obtain ⟨va, vc, rfl, v1, v2, hvK⟩ := hvS
      rw [hlen] at o1
      have hnsl : ns.length <= 1000 := by
       have h1 := fresh_step g (S : Int) [] (by simp)
       have h2 := fresh_le g []
       rw [hns]; omega
      have HN := Hd (An hns hvK)
      clear hns hvK hor hoK heach hlo hvs hlen
      obtain ⟨N, hN⟩ : ∃ N, ns.length = N := ⟨_, rfl⟩
      rw [hN] at k1 hnsl v1
      have HNN := Hd hN
      clear hN
      go_wp2_with (first
       | (at_lookup; refine wpList_lookupV _ rfl _ _ 148 rfl 3 3 (int_keyed Tryz.underlying3) Tryz.underlying148 (.int .i64 0) (Tryz.zeroValue3 _) w.heap.size nm f rfl ?_ _ _ rfl hKey ?_; exact HMv.out)
       | (at_mapUpdate; refine wpList_mapUpdateV _ rfl _ _ _ 148 rfl 3 3 (int_keyed Tryz.underlying3) Tryz.underlying148 w.heap.size nm f rfl ?_ hmx _ _ _ rfl rfl hKey ?_; exact HMv.out))
      intro w4 hm4 hg4
      obtain ⟨hown4, hb4, hs4⟩ := A.out.2.mid (below_drewN H2.out.1 _) hg4
      have o1' := (hb4.cell (p := ⟨mb, 5, none⟩) (World.block_lt_of_cell? _ _ o1)).trans o1
      have k1' := (hb4.cell (p := ⟨ob, oo + S, none⟩) (World.block_lt_of_cell? _ _ k1)).trans k1
      have H4 := Hd (An hm4 (An hown4 (An hb4 hs4)))
      clear hown4 hb4 hs4 hg4 o1 k1
      go_wp2_with (at_lookup; refine wpList_lookupV _ rfl _ _ 148 rfl 3 3 (int_keyed Tryz.underlying3) Tryz.underlying148 (.int .i64 0) (Tryz.zeroValue3 _) w.heap.size _ _ rfl hm4 _ _ rfl hKey ?_)
      clear hput hfn hm4
      go_loopg [6, 81] N (fun m v6 v81 wq => ∃ (j : Nat), j <= N /\ m = N - j /\ v81 = .int .i64 j /\ wq.ownsRow (w.heap.size + 1) 53 2 v6 (out ++ (ns.take j).map (·, 0)).length (flatK encIt (out ++ (ns.take j).map (·, 0))) /\
       MapV Tryz.prog 3 wq w.heap.size (nm + 1) (putV f (.int .i64 (S : Int)) (.int .i64 1)) /\ Below w.heap.size w wq /\ w.heap.size + 1 <= wq.heap.size)
      case atStart => exact ⟨0, by omega, rfl, rfl, by simpa using H4.out.2.1, H4.out.1, H4.out.2.2.1, H4.out.2.2.2⟩
      case round =>
       obtain ⟨j, hj, hm, rfl, hown, hM, hb, hsz⟩ := hrel
       obtain ⟨sb, sd, ev⟩ := own_shape hown
       have hol : (out ++ (ns.take j).map (·, 0)).length = out.length + j := by
        rw [List.length_append, List.length_map, List.length_take, HNN.out]; omega
       rw [hol] at hown ev
       obtain ⟨L, hL⟩ : ∃ L, out.length + j = L := ⟨_, rfl⟩
       rw [hL] at hown ev
       subst ev
       by_cases hjN : j < N
       ·obtain ⟨q, hq⟩ : ∃ q, ns[j]? = some q := ⟨_, List.getElem?_eq_getElem (by have := HNN.out; omega)⟩
        obtain ⟨vb, vo2, rfl, _, hvr⟩ := HN.out.2 (by rintro e; rw [e] at hq; simp at hq)
        have c := hvr.cells j q hq 0 _ rfl
        simp only [Nat.add_zero, Nat.mul_one] at c
        have c := (hb.cell (p := ⟨vb, vo2 + j, none⟩) (World.block_lt_of_cell? _ _ c)).trans c
        have hj0 : (0 : Int) <= (j : Int) := by omega
        have hjN1 : (j : Int) < (N : Int) := by omega
        have hnext : out ++ (ns.take (j + 1)).map (·, 0) = (out ++ (ns.take j).map (·, 0)) ++ [(q, 0)] := by
         rw [List.take_add_one, hq]; simp
        have hol2 : (out ++ (ns.take (j + 1)).map (·, 0)).length = out.length + j + 1 := by rw [hnext, List.length_append, hol]; rfl
        have R := Hd (An hm (An hown (An hM (An hb (An hsz (An hnext (An hol (An hol2 hL))))))))
        have hLb : L <= 1002000 := by omega
        have hq1 : q < 1000 := by
         have h1 : q ∈ ofS g (S : Int) := by rw [<- HN.out.1]; exact List.mem_of_getElem? hq
         obtain ⟨pq, h2, _⟩ := ofS_mem h1
         have := (List.getElem?_eq_some_iff.1 h2).1
         omega
        have hsz' := hsz
        clear hm hown hM hb hsz hq hvr hnext hol hol2 hL
        obtain ⟨i0, hi, hz0, hz1, hz2⟩ := info_parts infoItem
        go_wp2_with (at_builtin; go_loud (refine wpList_append_own _ rfl _ _ 50 rfl (w.heap.size + 1) 53 i0 (.agg #[.int .i64 0, .int .i64 0]) 2 16 Tryz.underlying50 hi hz0 hz1 hz2 rfl (by decide) _ L _ rfl (R.out.2.1.alloc _) ⟨wr.heap.size, 0, none⟩ 1 1 (encIt (q, 0)) rfl rfl ?c1 ?c2 ?c3 ?c4 ?c5 ?_))
        case c1 => first | exact it_pair wr q _ | exact fun j u h => h
        case c2 => exact encIt_one (q, 0)
        case c3 => unfold maxLen; omega
        case c4 => omega
        case c5 => first | omega | (simp; omega)
        intro v' w5 hown5 hg5 _
        have hne : ∀ b, (Value.slice sb L sd).ownBlock = some b -> w.heap.size + 1 <= b := fun b hb => (R.out.2.1.lt b hb).1
        have hb5 := (R.out.2.2.2.1.alloc (by have := R.out.2.2.2.2.1; omega) _).grown hg5 (by have := R.out.2.2.2.2.1; simp; omega) (fun b hb => by have := hne b hb; omega)
        have hm5 := (R.out.2.2.1.alloc (.cells #[.int .i64 (q : Int), .int .i64 0] 53)).grown hg5 (by intro e; have := hne _ e.symm; omega)
        have hs5 : w.heap.size + 1 <= w5.heap.size := by have := hg5.size; have := R.out.2.2.2.2.1; simp at *; omega
        have R5 := Hd (An hown5 (An hm5 (An hb5 hs5)))
        clear hown5 hg5 hne hb5 hm5 hs5
        go_wp2_with fail
        go_roundg (N - (j + 1))
        case measure => have := R.out.1; omega
        case rel =>
         refine ⟨j + 1, by omega, rfl, rfl, ?_, R5.out.2.1, R5.out.2.2.1, R5.out.2.2.2⟩
         have h1 := R5.out.1
         rw [<- List.map_take] at h1
         rw [R.out.2.2.2.2.2.2.2.1, R.out.2.2.2.2.2.1, <- flatK_snoc, R.out.2.2.2.2.2.2.2.2]
         exact h1
       ·obtain rfl : j = N := by omega
        have R := Hd (An hown (An hM (An hb (An hsz hL))))
        clear hm hown hM hb hsz hol hL
        go_wp2_with fail
        go_roundg (l.length + g.prods.length - (i + 1))
        case measure => have := A.out.1; omega
        case rel =>
         have hst := A.out.2.at_.step HX.out.1
         have hse : closeSeen g seen (n, d) = (S : Int) :: seen := by unfold closeSeen; rw [HK.out.2.1]; simp [HK.out.1, HK.out.2.2, hin]
         have hoe : closeOut g seen out (n, d) = out ++ (ofS g (S : Int)).map (·, 0) := by unfold closeOut; rw [HK.out.2.1]; simp [HK.out.1, HK.out.2.2, hin]
         rw [hse, hoe] at hst
         have hlen : (out ++ (ofS g (S : Int)).map (·, 0)).length = L := by
          rw [<- HN.out.1, List.length_append, List.length_map, HNN.out]; exact R.out.2.2.2.2
         refine ⟨i + 1, (S : Int) :: seen, out ++ (ofS g (S : Int)).map (·, 0), nm + 1, _, rfl, rfl, hst, ?_, R.out.2.1, by omega, A.out.2.seen.new hin, R.out.2.2.1, R.out.2.2.2.1⟩
         have h1 := R.out.1
         rw [<- HNN.out, List.take_length, HN.out.1] at h1
         rw [hlen]
         exact h1
    ·have hkn : (s.kind != 1) = true := by simp [hk]
     clear hk
     go_wp2_with fail
     go_quiet (fail)
     go_wp2_with fail
     go_roundg (l.length + g.prods.length - (i + 1))
     case measure => have := A.out.1; omega
     case rel =>
      have hk : s.kind ≠ 1 := by simpa using hkn
      have hah : aheadF g (n, d) = some s := by unfold aheadF; rw [HX.out.2.2.1]; exact HS.out.1
      exact ⟨i + 1, seen, out, nm, f, rfl, rfl, A.out.2.next HX.out.1 (by unfold closeSeen; rw [hah]; simp [hk]) (by unfold closeOut; rw [hah]; simp [hk]) (below_drewN H2.out.1 _)⟩
  ·obtain rfl : i = out.length := by omega
   have hie : ((out.length : Int) == (out.length : Int)) = true := by simp
   have hsort := fun W h => sort_any out (w.heap.size + 1) (.slice sa out.length sc) W h (by omega)
   have hcl := A.out.2.at_.done rfl
   have hlen : (sortIt out).length = out.length := (sortIt_perm out).length_eq
   have hcomp := fun W h => compact_any (sortIt out) (w.heap.size + 1) (.slice sa out.length sc) W h (by omega)
   have HE := Hd (An hcl hlen)
   clear hcl hlen
   go_wp2_with fail
   refine (hsort _ A.out.2.own).mono ?_
   rintro e w2 ⟨rfl, ho2, hg2⟩
   have HS := Hd (An ho2 hg2)
   clear ho2 hg2 hsort
   go_wp2_with fail
   refine (hcomp _ HS.out.1).mono ?_
   rintro e w3 ⟨v3, rfl, ho3, hg3⟩
   have HT := Hd (An ho3 hg3)
   clear ho3 hg3 hcomp
   go_wp2_with fail
   rw [Exit.noGoto_ret]
   go_ret
   have hne : ∀ b, (Value.slice sa out.length sc).ownBlock = some b -> w.heap.size <= b := fun b hb => by have := (A.out.2.own.lt b hb).1; omega
   refine ⟨_, rfl, ?_, ?_⟩
   ·rw [HE.out.1]
    exact HT.out.1.tyLow (Nat.le_succ _)
   ·have h1 := A.out.2.below.grown HS.out.2 A.out.2.below.size hne
    exact h1.grown HT.out.2 h1.size hne
end Go.Proofs.YtknpkndiflodbaaGreatDoor.Tb
namespace Go.Proofs.YtknpkndiflodbaaGreatDoor.Bx
open Go.RowKit Go.Proofs Mx

theorem sizeBuilder : (Tryz.prog.info? 129).map (·.size) = some 2 := by kernel_rfl
theorem liesBuilder : liesAt Tryz.prog Tryz.prog.depth 129 (2 / Tryz.prog.cellsOf 129) 0 129 1 = true := by kernel_rfl
theorem infoByte : (Tryz.prog.info? 5).map (fun i => (i.zero, i.size, i.bytes)) = some (some (.int .u8 0), 1, 1) := by kernel_rfl

theorem copyCheck_used (b : Nat) (w : World) (h0 : w.cell? ⟨b, 0, none⟩ = some (.pointer (some ⟨b, 0, none⟩))) :
  Calls Tryz.prog 84 #[.pointer (some ⟨b, 0, none⟩)] w fun e w' => e = .returned (.tuple #[]) /\ w' = w := by
 obtain ⟨j, hj, _⟩ := Option.map_eq_some_iff.1 sizeBuilder
 go_enter Tryz.func84, Tryz.ntmps84
 go_wp2
 rw [Lib.run_neq_ptr_same w _ Tryz.underlying127 hj]
 go_wp2
 go_end0
 exact ⟨rfl, rfl⟩

theorem copyCheck_fresh (b : Nat) (w : World) (h0 : w.cell? ⟨b, 0, none⟩ = some (.pointer none)) (hsh : w.shape? b = some (129, 2)) (hfz : w.frozen? ⟨b, 0, none⟩ = false) :
  Calls Tryz.prog 84 #[.pointer (some ⟨b, 0, none⟩)] w fun e w' => e = .returned (.tuple #[]) /\ w' = w.setCell ⟨b, 0, none⟩ (.pointer (some ⟨b, 0, none⟩)) := by
 obtain ⟨j, hj, hjs⟩ := Option.map_eq_some_iff.1 sizeBuilder
 go_enter Tryz.func84, Tryz.ntmps84
 go_wp2
 rw [Lib.run_to_unsafe w ⟨b, 0, none⟩ Tryz.underlying127 Tryz.underlying178 hj (by rw [hjs]; decide) hsh (Nat.zero_lt_succ 1)]
 simp only [Result.andThen]
 rw [Oper.upon_value]
 go_wp2
 rw [run_callFunc_extern Tryz.func98 (by kernel_rfl) (by kernel_rfl) (by kernel_rfl) (e := Extern.AbiNoEscape.same) (by kernel_rfl)]
 rw [Lib.run_noEscape]
 simp only [Result.andThen]
 rw [Oper.upon_value]
 go_wp2
 rw [Lib.run_from_unsafe w ⟨b, 0, none⟩ Tryz.underlying178 Tryz.underlying127 hj hsh liesBuilder]
 simp only [Result.andThen]
 rw [Oper.upon_value]
 go_wp2
 go_end0
 exact ⟨rfl, rfl⟩

theorem copyCheck (B b : Nat) (bs : List Value) (w : World) (h : Lib.IsBuilder 129 5 B b bs w) :
  Calls Tryz.prog 84 #[.pointer (some ⟨b, 0, none⟩)] w fun e w' => e = .returned (.tuple #[]) /\ (Lib.BuilderAt 129 5 B b (.pointer (some ⟨b, 0, none⟩)) bs w' /\ Below B w w') := by
 rcases h with h | h
 ·refine (copyCheck_fresh b w h.cell0 h.shape h.frozen0).mono ?_
  rintro e w' ⟨rfl, rfl⟩
  exact ⟨rfl, h.used _, (Below.refl B w).setCell (p := ⟨b, 0, none⟩) h.1 _⟩
 ·refine (copyCheck_used b w h.cell0).mono ?_
  rintro e w' ⟨rfl, rfl⟩
  exact ⟨rfl, h, Below.refl B _⟩

theorem writeString (B b : Nat) (bs : List Value) (s : ByteArray) (w : World) (h : Lib.IsBuilder 129 5 B b bs w) (hlen : bs.length + s.size <= 140737488355328) (hBw : B <= w.heap.size) :
  Calls Tryz.prog 64 #[.pointer (some ⟨b, 0, none⟩), .string s] w fun e w' => e = .returned (.tuple #[.int .i64 s.size, .nilIface]) /\ (Lib.BuilderAt 129 5 B b (.pointer (some ⟨b, 0, none⟩)) (bs ++ Lib.strCells s) w' /\ Below B w w') := by
 obtain ⟨i0, hi, hz0, hz1, hz2⟩ := info_parts infoByte
 go_enter Tryz.func64, Tryz.ntmps64
 go_wp2_with (go_at_call 84; refine (copyCheck B b bs _ h).mono ?_)
 rintro e w1 ⟨rfl, h1, hb1⟩
 obtain ⟨hB, v, hbk, hown, hne⟩ := h1
 have c0 : w1.cell? ⟨b, 0, none⟩ = some (.pointer (some ⟨b, 0, none⟩)) := by rw [Lib.cell_of_heap hbk]; rfl
 have c1 : w1.cell? ⟨b, 1, none⟩ = some v := by rw [Lib.cell_of_heap hbk]; rfl
 go_wp2_with (at_builtin; refine Lib.wpList_append_own_string _ rfl _ _ 87 9 rfl B 5 i0 Tryz.underlying87 Tryz.underlying9 hi hz0 hz1 hz2 _ _ _ rfl hown s rfl ?c3 ?c4 ?c5 ?_)
 case c3 => unfold maxLen; omega
 case c4 => omega
 case c5 => have := hb1.size; omega
 intro v' w2 hown' hgrow _
 have hlt : b < w1.heap.size := Blk.lt (t := 129) hbk
 have hb2 : w2.heap[b]? = some (.cells #[.pointer (some ⟨b, 0, none⟩), v] 129 (0, 0)) := by
  rw [hgrow.block b hlt (fun e => hne e.symm)]
  exact hbk
 have d0 : w2.cell? ⟨b, 0, none⟩ = some (.pointer (some ⟨b, 0, none⟩)) := by rw [Lib.cell_of_heap hb2]; rfl
 have d1 : w2.cell? ⟨b, 1, none⟩ = some v := by rw [Lib.cell_of_heap hb2]; rfl
 have f1 : w2.frozen? ⟨b, 1, none⟩ = false := Lib.frozen_of_heap hb2 1
 obtain ⟨ao, n', cap, rfl⟩ : ∃ ao n' cap, v' = .slice ao n' cap := by
  rcases hown'.2 with ⟨hv, _⟩ | ⟨g, cap, cur, hv, _⟩
  ·exact ⟨_, _, _, hv⟩
  ·exact ⟨_, _, _, hv⟩
 go_wp2
 go_ret2
 refine ⟨rfl, ?_, ?_⟩
 ·exact Lib.BuilderAt.put (T := 129) (e := 5) hB hb2 (bs' := bs ++ Lib.strCells s) (by simpa [Lib.strCells_length] using hown') (by decide)
 ·exact (hb1.grown hgrow (by have := hb1.size; omega) (fun k hk => (hown.lt k hk).1)).setCell (p := ⟨b, 1, none⟩) hB _
theorem row_below {w w' : World} {B : Nat} {e : TypeId} {z : Nat} {v : Value} {n : Nat} {xs : List Value} (h : w.ownsRow B e z v n xs) (hb : Below w.heap.size w w') : w'.ownsRow B e z v n xs :=
 h.kept (row := none) ⟨hb.os, hb.tape, hb.output, hb.size, fun k hk _ => hb.block k hk⟩ (by cases hv : v.ownBlock <;> simp)
theorem at_below {T e : TypeId} {B b : Nat} {p : Value} {bs : List Value} {w w' : World} (h : Lib.BuilderAt T e B b p bs w) (hb : Below w.heap.size w w') : Lib.BuilderAt T e B b p bs w' := by
 have hlt := h.lt
 obtain ⟨hB, v, hh, hown, hne⟩ := h
 exact ⟨hB, v, (hb.block b hlt).trans hh, row_below hown hb, hne⟩
theorem isb_below {T e : TypeId} {B b : Nat} {bs : List Value} {w w' : World} (h : Lib.IsBuilder T e B b bs w) (hb : Below w.heap.size w w') : Lib.IsBuilder T e B b bs w' :=
 h.elim (fun h => .inl (at_below h hb)) (fun h => .inr (at_below h hb))
end Go.Proofs.YtknpkndiflodbaaGreatDoor.Bx
namespace Go.Proofs
open Go.Shelf
def Tryz.lays169_ren : Go.Shelf.Ren := ⟨fun | 169 => 66 | n => n, fun | 70 => 127 | 9 => 9 | 0 => 0 | 72 => 129 | 37 => 87 | 127 => 164 | 3 => 3 | 5 => 5 | n => n, fun | n => n⟩
theorem Tryz.lays169 : Go.Proofs.Lays.n169 Tryz.prog Tryz.lays169_ren := {
 mixed := by kernel_rfl
 f169 := Tryz.func66.trans (congrArg some (by kernel_rfl))
 t0 := Tryz.underlying0
 a0 := Tryz.isAgg0
 z0 := Tryz.sizeOf0
 v0 := Tryz.zeroValue0
 t3 := Tryz.underlying3
 a3 := Tryz.isAgg3
 z3 := Tryz.sizeOf3
 v3 := Tryz.zeroValue3
 t9 := Tryz.underlying9
 a9 := Tryz.isAgg9
 z9 := Tryz.sizeOf9
 v9 := Tryz.zeroValue9
 t37 := Tryz.underlying87
 a37 := Tryz.isAgg87
 z37 := Tryz.sizeOf87
 v37 := Tryz.zeroValue87
 t70 := Tryz.underlying127
 a70 := Tryz.isAgg127
 z70 := Tryz.sizeOf127
 v70 := Tryz.zeroValue127
 t72 := Tryz.underlying129
 a72 := Tryz.isAgg129
 z72 := Tryz.sizeOf129
 v72 := Tryz.zeroValue129
 t127 := Tryz.underlying164
 a127 := Tryz.isAgg164
 z127 := Tryz.sizeOf164
 v127 := Tryz.zeroValue164 }
theorem Tryz.Builder_Extra_169 : Builder.Extra Tryz.prog Tryz.lays169_ren := {
 sizeBuilder := by kernel_rfl
 liesBuilder := by kernel_rfl
 t5 := Tryz.underlying5
 a5 := Tryz.isAgg5
 z5 := Tryz.sizeOf5
 v5 := Tryz.zeroValue5
 infoByte := by kernel_rfl
 cellsByte := by kernel_rfl
 sizeByte := by kernel_rfl
 neB5 := by decide }
def Tryz.lays125_ren : Go.Shelf.Ren := ⟨fun | 125 => 88 | 128 => 109 | 129 => 110 | n => n, fun | 46 => 158 | 3 => 3 | 51 => 190 | 53 => 24 | 4 => 4 | 5 => 5 | 9 => 9 | n => n, fun | n => n⟩
theorem Tryz.lays125 : Go.Proofs.Lays.n125 Tryz.prog Tryz.lays125_ren := {
 mixed := by kernel_rfl
 f125 := Tryz.func88.trans (congrArg some (by kernel_rfl))
 f128 := Tryz.func109.trans (congrArg some (by kernel_rfl))
 f129 := Tryz.func110.trans (congrArg some (by kernel_rfl))
 t3 := Tryz.underlying3
 a3 := Tryz.isAgg3
 z3 := Tryz.sizeOf3
 v3 := Tryz.zeroValue3
 t4 := Tryz.underlying4
 a4 := Tryz.isAgg4
 z4 := Tryz.sizeOf4
 v4 := Tryz.zeroValue4
 t5 := Tryz.underlying5
 a5 := Tryz.isAgg5
 z5 := Tryz.sizeOf5
 v5 := Tryz.zeroValue5
 t9 := Tryz.underlying9
 a9 := Tryz.isAgg9
 z9 := Tryz.sizeOf9
 v9 := Tryz.zeroValue9
 t46 := Tryz.underlying158
 a46 := Tryz.isAgg158
 z46 := Tryz.sizeOf158
 v46 := Tryz.zeroValue158
 t51 := Tryz.underlying190
 a51 := Tryz.isAgg190
 z51 := Tryz.sizeOf190
 v51 := Tryz.zeroValue190
 t53 := Tryz.underlying24
 a53 := Tryz.isAgg24
 z53 := Tryz.sizeOf24
 v53 := Tryz.zeroValue24 }
theorem Tryz.bits_Len (x : Int) (w : World) (h0 : 0 <= x) (h1 : x <= 18446744073709551615) :
  Calls Tryz.prog 88 #[.int .u64 x] w fun e w' => e = .returned (.int .i64 (Lib.bitLen x.toNat)) /\ w' = w := Any.bits_Len Tryz.lays125 x w h0 h1
open Go.RowKit in
/-- (*strings.Builder).String: "String returns the accumulated string.": WHATEVER THE BUILDER HOLDS; THE FORM '_f': OF A BUILDER THAT MAY HAVE BEEN READ BEFORE; AND IT IS A BUILDER STILL, holding the same bytes: it can be written on. (LAID: no walk: one application.) -/
theorem Tryz.Builder_String_any_f (B b : Nat) (l : List UInt8) (w : World) (h : Lib.IsBuilderF 129 5 B b (Lib.byteCells l) w) (hBw : B <= w.heap.size) :
    Calls Tryz.prog 66 #[.pointer (some ⟨b, 0, none⟩)] w fun e w' => e = .returned (.string ⟨l.toArray⟩) /\ (Lib.IsBuilderF 129 5 B b (Lib.byteCells l) w' /\ Below B w w') := Any.Builder_String_any_f Tryz.lays169 Tryz.Builder_Extra_169 B b l w h hBw
def Tryz.lays171_ren : Go.Shelf.Ren := ⟨fun | 171 => 65 | 243 => 85 | 246 => 99 | 283 => 123 | 284 => 124 | 285 => 125 | 286 => 126 | 129 => 110 | 317 => 145 | 318 => 146 | 319 => 147 | 320 => 148 | 337 => 154 | 338 => 141 | n => n, fun | 3 => 3 | 9 => 9 | 2 => 2 | 4 => 4 | 171 => 202 | 0 => 0 | 53 => 24 | 37 => 87 | 5 => 5 | 173 => 204 | 212 => 221 | 51 => 190 | 20 => 20 | 213 => 222 | 46 => 158 | 232 => 231 | 233 => 228 | n => n, fun | 17 => 0 | 18 => 2 | 19 => 1 | n => n⟩
theorem Tryz.lays171 : Go.Proofs.Lays.n171 Tryz.prog Tryz.lays171_ren := {
 mixed := by kernel_rfl
 f129 := Tryz.func110.trans (congrArg some (by kernel_rfl))
 f171 := Tryz.func65.trans (congrArg some (by kernel_rfl))
 f243 := Tryz.func85.trans (congrArg some (by kernel_rfl))
 f246 := Tryz.func99.trans (congrArg some (by kernel_rfl))
 f283 := Tryz.func123.trans (congrArg some (by kernel_rfl))
 f284 := Tryz.func124.trans (congrArg some (by kernel_rfl))
 f285 := Tryz.func125.trans (congrArg some (by kernel_rfl))
 f286 := Tryz.func126.trans (congrArg some (by kernel_rfl))
 f317 := Tryz.func145.trans (congrArg some (by kernel_rfl))
 f318 := Tryz.func146.trans (congrArg some (by kernel_rfl))
 f319 := Tryz.func147.trans (congrArg some (by kernel_rfl))
 f320 := Tryz.func148.trans (congrArg some (by kernel_rfl))
 f337 := Tryz.func154.trans (congrArg some (by kernel_rfl))
 f338 := Tryz.func141.trans (congrArg some (by kernel_rfl))
 t0 := Tryz.underlying0
 a0 := Tryz.isAgg0
 z0 := Tryz.sizeOf0
 v0 := Tryz.zeroValue0
 t2 := Tryz.underlying2
 a2 := Tryz.isAgg2
 z2 := Tryz.sizeOf2
 v2 := Tryz.zeroValue2
 t3 := Tryz.underlying3
 a3 := Tryz.isAgg3
 z3 := Tryz.sizeOf3
 v3 := Tryz.zeroValue3
 t4 := Tryz.underlying4
 a4 := Tryz.isAgg4
 z4 := Tryz.sizeOf4
 v4 := Tryz.zeroValue4
 t5 := Tryz.underlying5
 a5 := Tryz.isAgg5
 z5 := Tryz.sizeOf5
 v5 := Tryz.zeroValue5
 t9 := Tryz.underlying9
 a9 := Tryz.isAgg9
 z9 := Tryz.sizeOf9
 v9 := Tryz.zeroValue9
 t20 := Tryz.underlying20
 a20 := Tryz.isAgg20
 z20 := Tryz.sizeOf20
 v20 := Tryz.zeroValue20
 t37 := Tryz.underlying87
 a37 := Tryz.isAgg87
 z37 := Tryz.sizeOf87
 v37 := Tryz.zeroValue87
 t46 := Tryz.underlying158
 a46 := Tryz.isAgg158
 z46 := Tryz.sizeOf158
 v46 := Tryz.zeroValue158
 t51 := Tryz.underlying190
 a51 := Tryz.isAgg190
 z51 := Tryz.sizeOf190
 v51 := Tryz.zeroValue190
 t53 := Tryz.underlying24
 a53 := Tryz.isAgg24
 z53 := Tryz.sizeOf24
 v53 := Tryz.zeroValue24
 t171 := Tryz.underlying202
 a171 := Tryz.isAgg202
 z171 := Tryz.sizeOf202
 v171 := Tryz.zeroValue202
 t173 := Tryz.underlying204
 a173 := Tryz.isAgg204
 z173 := Tryz.sizeOf204
 v173 := Tryz.zeroValue204
 t212 := Tryz.underlying221
 a212 := Tryz.isAgg221
 z212 := Tryz.sizeOf221
 v212 := Tryz.zeroValue221
 t213 := Tryz.underlying222
 a213 := Tryz.isAgg222
 z213 := Tryz.sizeOf222
 t232 := Tryz.underlying231
 a232 := Tryz.isAgg231
 z232 := Tryz.sizeOf231
 v232 := Tryz.zeroValue231
 t233 := Tryz.underlying228
 a233 := Tryz.isAgg228
 z233 := Tryz.sizeOf228
 v233 := Tryz.zeroValue228
 g17 := by kernel_rfl
 g18 := by kernel_rfl
 g19 := by kernel_rfl }
open Go.RowKit Go.Sort Go.Lib in
/-- THE ROAD WITHOUT THE TABLE: 0 <= i < 100: NO PREMISE ON THE WORLD, AND THE WORLD IS AS IT WAS: a row that keeps its argument in that range need list no table ('laid = []'). (LAID: no walk: one application.) -/
theorem Tryz.strconv_Itoa_small (i : Nat) (hi : i < 100) (w : World) :
    Calls Tryz.prog 65 #[.int .i64 i] w fun e w' => e = .returned (.string ⟨(Lib.decDigits i).toArray⟩) /\ w' = w := Any.strconv_Itoa_small Tryz.lays171 i hi w
end Go.Proofs
namespace Go.Proofs.YtknpkndiflodbaaGreatDoor.Tb
open Go Go.RowKit Go.Proofs Go.Maps Mx Bx
theorem keyF_take (l : List It) (i : Nat) (x : It) (h : l[i]? = some x) : keyF (l.take (i + 1)) = keyF (l.take i) ++ keyIt x := by
 unfold keyF
 rw [List.take_add_one, h]
 simp
theorem dec_short (n : Nat) (h : n < 100) : (Lib.decDigits n).length <= 2 := by
 have h1 : (List.range 100).all (fun n => decide ((Lib.decDigits n).length <= 2)) = true := by decide +kernel
 have h2 := List.all_eq_true.1 h1 n (by simp; omega)
 simpa using h2
theorem key_short : ∀ (l : List It), (∀ x ∈ l, x.1 < 100 /\ x.2 < 100) -> (keyF l).length <= 6 * l.length
 | [], _ => by simp [keyF]
 | x :: l, h => by
  have h1 := key_short l (fun y hy => h y (List.mem_cons_of_mem _ hy))
  have h2 := h x (by simp)
  have h3 := dec_short x.1 h2.1
  have h4 := dec_short x.2 h2.2
  have : keyF (x :: l) = keyIt x ++ keyF l := rfl
  rw [this, List.length_append, List.length_cons]
  unfold keyIt
  simp only [List.length_append, List.length_cons, List.length_nil]
  omega
theorem key_cells (s1 s2 : List UInt8) : Lib.strCells ((⟨s1.toArray⟩ : ByteArray) ++ ⟨#[46]⟩ ++ ⟨s2.toArray⟩ ++ ⟨#[32]⟩) = Lib.byteCells (s1 ++ 46 :: (s2 ++ [32])) := by
 simp [Lib.strCells, Lib.byteCells]
theorem number_any (g : Gr) (hg : Good g) (B mb bm : Nat) (sm : List SM) (D2 : Nat -> Prop) (l : List It) (hl : ∀ x ∈ l, itemOk g x = true) (hln : l.length <= 10000) (v : Value) (w : World) (hm : MkW g B mb bm sm w) (hv : SliceK D2 encIt 2 w v l) :
  Calls Tryz.prog 35 #[.pointer (some ⟨mb, 0, none⟩), v] w fun e w' =>
   (∃ n, (sm.map (·.items)).findIdx? (· == closedF g l) = some n /\ e = .returned (.int .i64 (n : Int)) /\ MkW g B mb bm sm w' /\ Below w.heap.size w w') ∨
   ((sm.map (·.items)).findIdx? (· == closedF g l) = none /\ sm.length < 16384 /\ e = .returned (.int .i64 (sm.length : Int)) /\ ∃ v', MkW g B mb bm (sm ++ [freshSM v' (closedF g l)]) w' /\ KeepM mb bm w w') ∨
   ((sm.map (·.items)).findIdx? (· == closedF g l) = none /\ 16384 <= sm.length /\ e = .panicked fullP /\ KeepM mb bm w w') := by
 have hclosed := closed_any _ D2 g hg mb l hl (by omega) v w hm.gr hv
 obtain ⟨hK, hKok⟩ := closedF_fits hl
 have hKs := closedF_small hg hl
 have hP := hg.prods
 generalize closedF g l = K at *
 have hsmall : ∀ x ∈ K, x.1 < 100 /\ x.2 < 100 := by
  intro x hx
  have hok := (itemOk_iff g x).1 (hKok x hx)
  have h2 : (rightOf g x.1).length <= 30 := by
   unfold rightOf
   rw [List.getElem?_eq_getElem hok.1]
   exact hg.right _ (List.getElem_mem _)
  omega
 have HM := Hd (An hm (An hg hKok))
 clear hm hv hl hg hKok
 go_enter Tryz.func35, Tryz.ntmps35
 go_wp2_with fail
 refine hclosed.mono ?_
 rintro e w1 ⟨v1, rfl, hv1, hb1⟩
 obtain ⟨a1, c1, rfl, hc1, hc2, hk1⟩ := hv1
 have H1 := Hd (An hk1 hb1)
 clear hk1 hb1 hclosed
 go_wp2_with fail
 have hbld : Lib.IsBuilder 129 5 w1.heap.size w1.heap.size (Lib.byteCells (keyF (K.take 0))) (w1.alloc (.cells #[.pointer none, .slice none 0 0] 129)) :=
  .inl ⟨Nat.le_refl _, .slice none 0 0, heap_alloc_new w1 _, World.ownsRow_nil _ _ _ _, by simp [Value.ownBlock]⟩
 go_loopg [15] K.length (fun m v15 wr => ∃ i : Nat, i <= K.length /\ m = K.length - i /\ v15 = .int .i64 i /\ Lib.IsBuilder 129 5 w1.heap.size w1.heap.size (Lib.byteCells (keyF (K.take i))) wr /\ Below w1.heap.size w1 wr /\ w1.heap.size + 1 <= wr.heap.size)
 case atStart => exact ⟨0, by omega, rfl, rfl, hbld, (Below.refl _ w1).alloc (Nat.le_refl _) _, by simp⟩
 case round =>
  clear hbld
  obtain ⟨i, hi, hm, rfl, hB, hb, hsz⟩ := hrel
  by_cases hlt : i < K.length
  ·obtain ⟨⟨n, d⟩, hx⟩ : ∃ x, K[i]? = some x := ⟨_, List.getElem?_eq_getElem hlt⟩
   obtain ⟨kg, ko, rfl, _, hkr⟩ := H1.out.1 (by rintro rfl; simp at hlt)
   have k0 := hkr.cells i _ hx 0 _ rfl
   have k1 := hkr.cells i _ hx 1 _ rfl
   simp only [Nat.add_zero] at k0
   have k0 := (hb.cell (p := ⟨kg, ko + i * 2, none⟩) (World.block_lt_of_cell? _ _ k0)).trans k0
   have k1 := (hb.cell (p := ⟨kg, ko + i * 2 + 1, none⟩) (World.block_lt_of_cell? _ _ k1)).trans k1
   obtain ⟨hn100, hd100⟩ := hsmall _ (List.mem_of_getElem? hx)
   simp only at hn100 hd100
   have hlt1 : (i : Int) < (K.length : Int) := by omega
   have hi0 : (0 : Int) <= (i : Int) := by omega
   have hi1 := fun W => Tryz.strconv_Itoa_small n hn100 W
   have hi2 := fun W => Tryz.strconv_Itoa_small d hd100 W
   have hs1 := dec_short n hn100
   have hs2 := dec_short d hd100
   obtain ⟨s1, he1⟩ : ∃ s, Lib.decDigits n = s := ⟨_, rfl⟩
   obtain ⟨s2, he2⟩ : ∃ s, Lib.decDigits d = s := ⟨_, rfl⟩
   rw [he1] at hi1 hs1
   rw [he2] at hi2 hs2
   have HD := Hd (An he1 he2)
   clear he1 he2
   have hq1 : ¬ 9223372036854775807 < s1.length + 1 := by omega
   have hq2 : ¬ 9223372036854775807 < s1.length + 1 + s2.length := by omega
   have hq3 : ¬ 9223372036854775807 < s1.length + 1 + s2.length + 1 := by omega
   have A := Hd (An hm (An hB (An hb (An hsz hx))))
   clear hm hB hb hsz hx hkr
   go_wp2_with fail
   generalize hw2 : wr.alloc (.cells #[.int .i64 (n : Int), .int .i64 (d : Int)] 53) = w2
   have hN : Blk w2 wr.heap.size 53 #[.int .i64 (n : Int), .int .i64 (d : Int)] := by rw [<- hw2]; exact Blk.new wr _ _
   obtain ⟨n0, n1, nf⟩ := hN.facts2
   have hb2 : Below wr.heap.size wr w2 := by rw [<- hw2]; exact (Below.refl _ wr).alloc (Nat.le_refl _) _
   have H2 := Hd hb2
   clear hw2 hN hb2
   go_still_tail 9, (by kernel_rfl)
   still_call (hi1 _)
   repeat still_step
   still_call (hi2 _)
   repeat still_step
   try refine wpStill_nil ?_
   change wpList _ _ _ _ _ w2.drew
   go_wp2_with fail
   have hkl : (keyF (K.take i)).length <= 6 * K.length := by
    have h1 := key_short (K.take i) (fun x hx => hsmall x (List.mem_of_mem_take hx))
    rw [List.length_take] at h1
    omega
   have hdr : Below wr.heap.size wr w2.drew := H2.out.drew
   have hsz2 : w1.heap.size <= w2.drew.heap.size := by have := H2.out.size; have := A.out.2.2.2.1; show w1.heap.size <= w2.heap.size; omega
   refine (writeString w1.heap.size w1.heap.size _ _ _ (isb_below A.out.2.1 hdr) ?_ hsz2).mono ?_
   ·rw [<- Lib.strCells_length, key_cells]
    simp only [Lib.byteCells, List.length_map, List.length_append, List.length_cons, List.length_nil]
    omega
   rintro e w3 ⟨rfl, hB3, hb3⟩
   have H3 := Hd (An hB3 hb3)
   clear hB3 hb3 hkl hsz2
   go_wp2_with fail
   go_roundg (K.length - (i + 1))
   case measure => have := A.out.1; omega
   case rel =>
    refine ⟨i + 1, by omega, rfl, rfl, .inr ?_, (A.out.2.2.1.trans (hdr.mono (by have := A.out.2.2.2.1; omega))).trans H3.out.2, by have := A.out.2.2.2.1; have := hdr.size; have := H3.out.2.size; omega⟩
    have h1 := H3.out.1
    rw [key_cells] at h1
    rw [keyF_take K i _ A.out.2.2.2.2]
    unfold keyIt
    rw [HD.out.1, HD.out.2]
    rw [show Lib.byteCells (keyF (K.take i) ++ (s1 ++ 46 :: (s2 ++ [32]))) = Lib.byteCells (keyF (K.take i)) ++ Lib.byteCells (s1 ++ 46 :: (s2 ++ [32])) by simp [Lib.byteCells]]
    exact h1
  ·obtain rfl : i = K.length := by omega
   rw [List.take_length] at hB
   have hbw : Below w.heap.size w wr := H1.out.2.trans (hb.mono H1.out.2.size)
   have hMW := HM.out.1.below hbw
   have hmlt : mb < w1.heap.size := by have := HM.out.1.mlt; have := HM.out.1.size; have := H1.out.2.size; omega
   have hblt : bm < w1.heap.size := by have := HM.out.1.blt; have := HM.out.1.size; have := H1.out.2.size; omega
   have hF : Lib.IsBuilderF 129 5 w1.heap.size w1.heap.size (Lib.byteCells (keyF K)) wr.drew := Lib.IsBuilderF.of hB
   have hFs : w1.heap.size <= wr.drew.heap.size := by show w1.heap.size <= wr.heap.size; omega
   have hm6 : ∀ W, Below w1.heap.size wr.drew W -> W.cell? ⟨mb, 6, none⟩ = some (.map (some bm)) := fun W h => (h.cell (p := ⟨mb, 6, none⟩) hmlt).trans hMW.met
   obtain ⟨f, hf1, hf2⟩ := hMW.map
   have hkl : (keyF K).length <= 6 * K.length := key_short K hsmall
   have hkey : keyOf Tryz.prog 9 (.string ⟨(keyF K).toArray⟩) = some (.string (keyF K)) := by
    have h1 := WideMaps.keyOf_string_mk (P := Tryz.prog) (k := 9) Tryz.underlying9 (s := ⟨(keyF K).toArray⟩) (by unfold maxLen; show (keyF K).toArray.size <= _; simp; omega)
    simpa using h1
   have hlook : ∀ W, Below w1.heap.size wr.drew W -> (Instr.lookup 92 (.map (some bm)) (.string ⟨(keyF K).toArray⟩) true).run Tryz.prog W = .ok (.tuple #[(((sm.map (·.items)).findIdx? (· == K)).map fun (n : Nat) => Value.int .i64 (n : Int)).getD (.int .i64 0), .bool (((sm.map (·.items)).findIdx? (· == K)).map fun (n : Nat) => Value.int .i64 (n : Int)).isSome]) W := by
    intro W h
    have hfW : MapV Tryz.prog 9 W bm sm.length f := (show MapV Tryz.prog 9 wr.drew bm sm.length f from hf1).below h hblt
    have h1 := hfW.look_ok (string_keyed Tryz.underlying9) Tryz.underlying92 (Tryz.zeroValue3 W) hkey
    rw [hf2 K] at h1
    exact h1
   have HW1 := Hd hb
   have HW := Hd (An hMW (An hbw (An hf1 hf2)))
   have hU0 : Below w1.heap.size wr.drew wr.drew := Below.refl _ _
   have hsz' := hsz
   clear hMW hbw hf1 hf2 hB hm hkl hb hsz
   cases hfi : (sm.map (·.items)).findIdx? (· == K) with
   | some n =>
    rw [hfi] at hlook
    have HFI := Hd hfi
    clear hfi
    have hlook : ∀ W, Below w1.heap.size wr.drew W -> (Instr.lookup 92 (.map (some bm)) (.string ⟨(keyF K).toArray⟩) true).run Tryz.prog W = .ok (.tuple #[.int .i64 (n : Int), .bool true]) W := hlook
    go_wp2_with fail
    go_region_with (go_at_call 66; refine (Tryz.Builder_String_any_f _ _ (keyF K) _ hF hFs).mono ?_; rintro e w3 ⟨rfl, hF3, hb3⟩)
    all_goals
     have H3 := Hd (An hF3 hb3)
     clear hF3 hb3 hlook hm6 hU0 hF
     go_wp2_with fail
     go_ret
     have hbb : Below w.heap.size w _ := HW.out.2.1.trans ((show Below w.heap.size wr wr.drew from (Below.refl _ wr).drew).trans (H3.out.2.mono H1.out.2.size))
     exact .inl ⟨n, HFI.out, rfl, HM.out.1.below hbb, hbb⟩
   | none =>
    rw [hfi] at hlook
    have HFI := Hd hfi
    clear hfi
    have hlook : ∀ W, Below w1.heap.size wr.drew W -> (Instr.lookup 92 (.map (some bm)) (.string ⟨(keyF K).toArray⟩) true).run Tryz.prog W = .ok (.tuple #[.int .i64 0, .bool false]) W := hlook
    obtain ⟨va, hva1, hva2⟩ := HM.out.1.all
    obtain ⟨aa, ac, rfl⟩ := own_shape hva2
    have hva1 := (HW.out.2.1.cell (p := ⟨mb, 7, none⟩) (World.block_lt_of_cell? _ _ hva1)).trans hva1
    have hm7 : ∀ W, Below w1.heap.size wr.drew W -> W.cell? ⟨mb, 7, none⟩ = some (.slice aa sm.length ac) := fun W h => (h.cell (p := ⟨mb, 7, none⟩) hmlt).trans hva1
    have hmany := HM.out.1.many
    have HV := Hd hva2
    clear hva1 hva2
    go_wp2_with fail
    apply via
    ·intro KV
     go_region_with (go_at_call 66; refine (Tryz.Builder_String_any_f _ _ (keyF K) _ hF hFs).mono ?_; rintro e w3 ⟨rfl, hF3, hb3⟩)
     all_goals (try go_simp)
     all_goals revert w3
     all_goals exact KV.out
    ·intro w3 hF3 hb3
     have H3 := Hd (An hF3 hb3)
     have h36 := hm6 _ hb3
     have h37 := hm7 _ hb3
     clear hF3 hb3 hlook hm6 hm7 hU0 hF
     by_cases hfull : sm.length ≥ 16384
     ·have hf1 : (16384 : Int) <= (sm.length : Int) := by omega
      go_wp2_with fail
      have hbb : Below w.heap.size w _ := HW.out.2.1.trans ((show Below w.heap.size wr wr.drew from (Below.refl _ wr).drew).trans (H3.out.2.mono H1.out.2.size))
      exact An rfl (Or.inr (Or.inr (An HFI.out (An hfull (An rfl (KeepM.of hbb))))))
     ·have hf1 : ¬ (16384 : Int) <= (sm.length : Int) := by omega
      have h3s : w1.heap.size <= w3.heap.size := by have := H3.out.2.size; have : wr.drew.heap.size = wr.heap.size := rfl; omega
      have hF3 : Lib.IsBuilderF 129 5 w1.heap.size w1.heap.size (Lib.byteCells (keyF K)) w3.drew := H3.out.1
      have hF3s : w1.heap.size <= w3.drew.heap.size := h3s
      have hm6 : ∀ W, Below w1.heap.size w3.drew W -> W.cell? ⟨mb, 6, none⟩ = some (.map (some bm)) := fun W h => (h.cell (p := ⟨mb, 6, none⟩) hmlt).trans h36
      have hmap3 : ∀ W, Below w1.heap.size w3.drew W -> MapV Tryz.prog 9 W bm sm.length f := fun W h =>
       (show MapV Tryz.prog 9 w3.drew bm sm.length f from (show MapV Tryz.prog 9 wr.drew bm sm.length f from HW.out.2.2.1).below H3.out.2.drew hblt).below h hblt
      have hupd : ∀ W : World, ∃ W', MapV Tryz.prog 9 W bm sm.length f -> (Instr.mapUpdate 92 (.map (some bm)) (.string ⟨(keyF K).toArray⟩) (.int .i64 (sm.length : Int))).run Tryz.prog W = .ok () W' /\
        MapV Tryz.prog 9 W' bm (sm.length + 1) (putV f (.string (keyF K)) (.int .i64 (sm.length : Int))) /\ W.grownBy W' (some bm) := by
       intro W
       by_cases hW : MapV Tryz.prog 9 W bm sm.length f
       ·obtain ⟨W', h1, h2, h3⟩ := hW.update (string_keyed Tryz.underlying9) Tryz.underlying92 (by unfold maxLen; omega) hkey (val := .int .i64 (sm.length : Int))
        exact ⟨W', fun _ => ⟨h1, h2, h3⟩⟩
       ·exact ⟨W, fun h => absurd h hW⟩
      obtain ⟨F, hFm⟩ := Classical.skolem.1 hupd
      have hrun : ∀ W, Below w1.heap.size w3.drew W -> (Instr.mapUpdate 92 (.map (some bm)) (.string ⟨(keyF K).toArray⟩) (.int .i64 (sm.length : Int))).run Tryz.prog W = .ok () (F W) := fun W h => (hFm W (hmap3 W h)).1
      have HFm := Hd (An hFm hmap3)
      have hU3 : Below w1.heap.size w3.drew w3.drew := Below.refl _ _
      clear hFm hupd hmap3
      go_wp2_with fail
      apply via
      ·intro KV
       go_region_with (go_at_call 66; refine (Tryz.Builder_String_any_f _ _ (keyF K) _ hF3 hF3s).mono ?_; rintro e w4 ⟨rfl, hF4, hb4⟩)
       all_goals (try go_simp)
       all_goals revert w4
       all_goals exact KV.out
      ·intro w4 hF4 hb4
       obtain ⟨_, hm5, hg5⟩ := HFm.out.1 w4 (HFm.out.2 w4 hb4)
       have h47 : w4.cell? ⟨mb, 7, none⟩ = some (.slice aa sm.length ac) := (hb4.cell (p := ⟨mb, 7, none⟩) hmlt).trans h37
       clear hF4 hrun hm6 hU3 hF3 HFm
       generalize F w4 = w5 at *
       have hmne := HM.out.1.ne
       have hBs := HM.out.1.size
       have hBb := HM.out.1.blt
       have hBm := HM.out.1.mlt
       have hw1s := H1.out.2.size
       have hb14 : Below w1.heap.size w1 w4 := HW1.out.trans (((show Below w1.heap.size wr wr.drew from (Below.refl _ wr).drew).trans H3.out.2).trans ((show Below w1.heap.size w3 w3.drew from (Below.refl _ w3).drew).trans hb4))
       have hbw4 : Below w.heap.size w w4 := H1.out.2.trans (hb14.mono hw1s)
       have h57 : w5.cell? ⟨mb, 7, none⟩ = some (.slice aa sm.length ac) := hg5.cell h47 (by intro e; injection e with e; exact hmne e)
       have hrow5 : w5.ownsRow B 104 7 (.slice aa sm.length ac) sm.length (flatK encSM sm) := (Mx.row_below HV.out hbw4).kept hg5 (by
        cases e : (Value.slice aa sm.length ac).ownBlock with
        | none => exact .inl rfl
        | some b => exact .inr (by have := (own_ty HV.out b e).1; intro e2; injection e2 with e2; omega))
       have k45 : KeepM mb bm w4 w5 := KeepM.grown hg5 (fun r hr => by injection hr with hr; exact .inr (.inl hr.symm))
       have k5 : KeepM mb bm w w5 := (KeepM.of hbw4).trans k45
       have h5 : ∀ b, b < B -> b ≠ bm -> w5.heap[b]? = w.heap[b]? := fun b hb hne => (hg5.block b (by have := hbw4.size; omega) (by intro e; injection e with e; exact hne e)).trans (hbw4.block b (by omega))
       have hv1w : SliceK (TyD w.heap.size 53 w1) encIt 2 w1 (.slice a1 K.length c1) K := ⟨a1, c1, rfl, hc1, hc2, H1.out.1⟩
       have hv1 : SliceK (TyD B 53 w5) encIt 2 w5 (.slice a1 K.length c1) K := (hv1w.tyLow hBs).ty (((KeepM.of hb14).trans k45).ty (by decide) hBm hBb)
       have h5s : B <= w5.heap.size := by have := k5.size; omega
       have H5 := Hd (An hm5 (An hrow5 (An k5 (An h5 hv1))))
       have hmfz := (hg5.block mb (by have := hbw4.size; omega) (by intro e; injection e with e; exact hmne e)).trans (hbw4.block mb (by omega))
       have hfz5 : ∀ i, w5.frozen? ⟨mb, i, none⟩ = false := fun i => (World.frozen?_of_block (w := w) (a := ⟨mb, i, none⟩) hmfz).trans (HM.out.1.fz i)
       clear hm5 hg5 h47 hrow5 k45 k5 h5 hv1w hv1 hb14 hbw4 hmfz
       obtain ⟨i0, hi, hz0, hz1, hz2⟩ := info_parts infoState
       have hnb : ∀ r, (Value.slice aa sm.length ac).ownBlock = some r -> B <= r := fun r hr => (own_ty HV.out r hr).1
       go_wp2_with (at_builtin; refine wpList_append_own _ rfl _ _ 93 rfl B 104 i0 (.agg #[.slice none 0 0, .slice none 0 0, .int .u64 0, .int .u64 0, .int .u64 0, .int .u64 0, .slice none 0 0]) 7 104 Tryz.underlying93 hi hz0 hz1 hz2 rfl (by decide) _ sm.length _ rfl (H5.out.2.1.alloc _) ⟨w5.heap.size, 0, none⟩ 1 1 (encSM (freshSM (.slice a1 K.length c1) K)) rfl rfl ?c1 ?c2 ?c3 ?c4 ?c5 ?_)
       case c1 =>
        intro j u hj
        rw [encFresh] at hj
        exact alloc_cells w5 _ _ j u hj
       case c2 => exact encSM_one _ rfl rfl rfl
       case c3 => unfold maxLen; omega
       case c4 => omega
       case c5 => first | omega | (simp; omega)
       intro v' w7 hown7 hg7 _
       have hg57 : w5.grownBy w7 (Value.slice aa sm.length ac).ownBlock := grown_trans_opt (grown_alloc (grown_refl w5 _) _) hg7
       have hmw5 : mb < w5.heap.size := by have := H5.out.2.2.1.size; omega
       have hmne7 : some mb ≠ (Value.slice aa sm.length ac).ownBlock := by intro e; have := hnb mb e.symm; omega
       have e7 := hg57.block mb hmw5 hmne7
       have h77 : w7.cell? ⟨mb, 7, none⟩ = some (.slice aa sm.length ac) := (World.cell?_of_block (w := w5) (a := ⟨mb, 7, none⟩) e7).trans h57
       have hfz7 : w7.frozen? ⟨mb, 7, none⟩ = false := (World.frozen?_of_block (w := w5) (a := ⟨mb, 7, none⟩) e7).trans (hfz5 7)
       have HP := Hd (HM.out.1.push HM.out.2.2 (by omega) (by omega) HW.out.2.2.2 HFI.out H5.out.2.2.1 H5.out.2.2.2.1 H5.out.2.2.2.2 H5.out.1 H5.out.2.1 hg57 hown7)
       have hownN := hown7
       clear hown7 hg7 hg57 e7 h57 hfz5 hnb
       obtain ⟨va', na', ca', rfl⟩ : ∃ a n c, v' = .slice a n c := by
        obtain ⟨a, c, e⟩ := own_shape hownN
        exact ⟨a, _, c, e⟩
       go_wp2_with fail
       go_ret
       exact Or.inr (Or.inl (An HFI.out (An (by omega) (An rfl ⟨_, HP.out.1, HP.out.2⟩))))
end Go.Proofs.YtknpkndiflodbaaGreatDoor.Tb
