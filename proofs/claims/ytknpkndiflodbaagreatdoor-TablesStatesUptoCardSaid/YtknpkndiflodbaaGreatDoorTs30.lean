/- Walks and plain laws that the last text stands on: TbState, TbMakeNo. -/
import Derived.Test.YtknpkndiflodbaaGreatDoorTs29
import Derived.Test.YtknpkndiflodbaaGreatDoorTs23
set_option linter.unusedVariables false
set_option linter.unusedSimpArgs false
set_option maxRecDepth 100000
set_option maxHeartbeats 16000000
namespace Go.Proofs.YtknpkndiflodbaaGreatDoor.Tb
open Go Go.RowKit Go.Proofs Mx
attribute [local go_sem] eqSet
def stA (sb n : Nat) (tv : Value) (la : Option Addr) (lc : Nat) (da : Option Addr) (dc : Nat) (ra : Option Addr) (rc : Nat) (ia : Option Addr) (ic : Nat) (ea : Option Addr) (ec IN DN EN : Nat) (j : Nat) (v : Value) (W : World) : Prop :=
 match j with
 | 0 => v = .slice la IN lc
 | 1 => v = .int .i64 (IN : Int)
 | 2 => v = .pointer (some ⟨sb, 0, none⟩)
 | 3 => v = .slice ia IN ic
 | 4 => v = .int .i64 (IN : Int)
 | 5 => v = .bool false
 | 6 => v = .bool false
 | 7 => v = .slice da DN dc
 | 8 => v = .int .i64 (DN : Int)
 | 9 => v = .slice ra DN rc
 | 10 => v = .int .i64 (DN : Int)
 | 11 => v = .bool false
 | 12 => v = .bool false
 | 13 => v = .bool false
 | 14 => v = tv
 | 15 => v = .int .i64 (n : Int)
 | 16 => v = .int .i64 (EN : Int)
 | 17 => v = .pointer (some ⟨sb, 1, none⟩)
 | 18 => v = .slice ea EN ec
 | 19 => v = .int .i64 (EN : Int)
 | 20 => v = .bool false
 | 21 => v = .bool false
 | _ => True
def stB (sb n : Nat) (tv fn : Value) (mw : Int × Int × Int × Int) (ea : Option Addr) (ec EN : Nat) (j : Nat) (v : Value) (W : World) : Prop :=
 match j with
 | 0 => v = tv
 | 1 => v = .int .i64 (n : Int)
 | 2 => v = .agg #[.int .u64 mw.1, .int .u64 mw.2.1, .int .u64 mw.2.2.1, .int .u64 mw.2.2.2]
 | 3 => v = .agg #[.int .u64 mw.1, .int .u64 mw.2.1, .int .u64 mw.2.2.1, .int .u64 mw.2.2.2]
 | 4 => v = .bool true
 | 5 => v = .bool true
 | 6 => v = fn
 | 7 => v = .pointer (some ⟨sb, 1, none⟩)
 | 8 => v = .slice ea EN ec
 | 9 => v = .int .i64 (n : Int)
 | 10 => ∃ r : Int, v = .int .i64 r
 | 11 => v = .bool true
 | 12 => v = .bool true
 | 13 => v = .bool true
 | 14 => v = fn
 | 15 => v = .pointer (some ⟨sb, 1, none⟩)
 | 16 => v = .slice ea EN ec
 | 17 => v = .bool true
 | 18 => v = .bool true
 | _ => True
theorem state_any (D E F : Nat -> Prop) (g : Gr) (hN : g.prods.length <= 1000) (B : Nat) (tv : Value) (sm : List SM) (n : Nat) (w : World) (sv pv fv lv vi ve : Value) (hP : ProdsAt D w pv g.prods) (hT : TabP g B tv sm w) (IT : List It) (ED : List (Sy × Nat)) (DN : List Nat)
  (hIT : (stAt sm n).items = IT) (hED : (stAt sm n).edges = ED) (hDN : (stAt sm n).done = DN) (hE : EdgesOk ED) (hEl : ED.length <= 2000) (hIl : IT.length <= 3100) (hDl : DN.length <= 3100) (hdo : doneF g IT = DN) (hok : ∀ x ∈ IT, itemOk g x = true) (hnx : (stAt sm n).next = nextF ED)
  (hvi : SliceK E encIt 2 w vi IT) (hve : SliceK F encEd 7 w ve ED) :
  Calls Tryz.prog 20 #[tv, .agg #[sv, pv, .int .i64 g.start, fv, lv], .int .i64 (n : Int), .agg #[vi, ve]] w fun e w' => e = .returned (.bool true) /\ Below w.heap.size w w' := by
 have hit : ∀ W, Below w.heap.size w W -> Calls Tryz.prog 15 #[tv, .int .i64 (n : Int)] W fun e w' => ∃ v', e = .returned v' /\ w'.ownsRow W.heap.size 53 2 v' IT.length (flatK encIt IT) /\ Below W.heap.size W w' := fun W hb => by
  have h := items_any g B tv sm n W (hT.below hb)
  rw [hIT] at h
  exact h
 have hre : ∀ W, Below w.heap.size w W -> Calls Tryz.prog 22 #[tv, .int .i64 (n : Int)] W fun e w' => ∃ v', e = .returned v' /\ w'.ownsRow W.heap.size 3 1 v' DN.length (flatK encN DN) /\ Below W.heap.size W w' := fun W hb => by
  have h := reduces_any g B tv sm n W (hT.below hb) (by rw [hDN]; omega)
  rw [hDN] at h
  exact h
 have hle : ∀ W, Below w.heap.size w W -> Calls Tryz.prog 31 #[tv, .int .i64 (n : Int)] W fun e w' => e = .returned (.int .i64 (ED.length : Int)) /\ Below W.heap.size W w' := fun W hb => by
  have h := leads_any g B tv sm n W (hT.below hb)
  rw [hED] at h
  exact h
 have hgo : ∀ (s : Int) W, Below w.heap.size w W -> Calls Tryz.prog 21 #[tv, .int .i64 (n : Int), .int .i64 s] W fun e w' => e = .returned (.tuple #[.int .i64 (toF (isSort s) ED).1, .bool (toF (isSort s) ED).2]) /\ Below W.heap.size W w' := fun s W hb => by
  have h := goto_any g B tv sm n s W (hT.below hb) (by rw [hED]; omega)
  rw [hED] at h
  exact h
 have hsh : ∀ (c : Nat), c < 256 -> ∀ W, Below w.heap.size w W -> Calls Tryz.prog 24 #[tv, .int .i64 (n : Int), .int .u8 (c : Int)] W fun e w' => e = .returned (.tuple #[.int .i64 (toF (hasByte c) ED).1, .bool (toF (hasByte c) ED).2]) /\ Below W.heap.size W w' := fun c hc W hb => by
  have h := shift_any g B tv sm n c hc W (hT.below hb) (by rw [hED]; omega)
  rw [hED] at h
  exact h
 have hne : ∀ W, Below w.heap.size w W -> Calls Tryz.prog 25 #[tv, .int .i64 (n : Int)] W fun e w' => e = .returned (setV (nextF ED)) /\ Below W.heap.size W w' := fun W hb => by
  have h := next_any g B tv sm n W (hT.below hb)
  rw [hnx] at h
  exact h
 have hal : ∀ W, Below w.heap.size w W -> Calls Tryz.prog 32 #[tv, .int .i64 (n : Int)] W fun e w' => ∃ b, e = .returned (.func (.func 61) #[] #[.pointer (some ⟨b, 0, none⟩)]) /\ Blk w' b 102 #[(stAt sm n).ve] /\ W.heap.size <= b /\ Below W.heap.size W w' := fun W hb => tall_any g B tv sm n W (hT.below hb)
 have hse : ∀ W, Below w.heap.size w W -> SliceK (fun _ => True) encEd 7 W (stAt sm n).ve ED := fun W hb => by
  have h := ((hT.below hb).at_ n).edges.imp (D' := fun _ => True) fun _ _ _ => trivial
  rw [hED] at h
  exact h
 have HC0 := Hd (An hit (An hre (An hle (An hgo (An hsh (An hne (An hal hse)))))))
 obtain ⟨ia, ic, rfl, _, _, hik⟩ := id hvi
 obtain ⟨ea, ec, rfl, _, _, hek⟩ := id hve
 have HK := Hd (An hP (An hvi (An hve (An hE (An hdo (An hok (An hik hek)))))))
 clear hit hre hle hgo hsh hne hal hse hT hP hvi hve hE hdo hok hnx hik hek hIT hED hDN
 go_enter Tryz.func20, Tryz.ntmps20
 go_wp2_with fail
 have hB0 : Blk ((w.alloc (.cells #[sv, pv, .int .i64 g.start, fv, lv] 39)).alloc (.cells #[.slice ia IT.length ic, .slice ea ED.length ec] 62)) w.heap.size 39 #[sv, pv, .int .i64 g.start, fv, lv] := (Blk.new _ _ _).alloc _
 have hB1 : Blk ((w.alloc (.cells #[sv, pv, .int .i64 g.start, fv, lv] 39)).alloc (.cells #[.slice ia IT.length ic, .slice ea ED.length ec] 62)) (w.heap.size + 1) 62 #[.slice ia IT.length ic, .slice ea ED.length ec] := Blk.new_ (by simp) _ _
 have hb0 : Below w.heap.size w ((w.alloc (.cells #[sv, pv, .int .i64 g.start, fv, lv] 39)).alloc (.cells #[.slice ia IT.length ic, .slice ea ED.length ec] 62)) := ((Below.refl _ w).alloc (Nat.le_refl _) _).alloc (by simp) _
 generalize ((w.alloc (.cells #[sv, pv, .int .i64 g.start, fv, lv] 39)).alloc (.cells #[.slice ia IT.length ic, .slice ea ED.length ec] 62)) = w1 at hB0 hB1 hb0 ⊢
 have H1 := Hd (An hB0 (An hB1 hb0))
 clear hB0 hB1 hb0
 refine (HC0.out.1 w1 H1.out.2.2).mono ?_
 rintro e w2 ⟨v', rfl, h1, h2⟩
 obtain ⟨la, lc, rfl⟩ := own_shape h1
 have K2 := Hd (An h1 (An h2 (H1.out.2.2.trans (h2.mono H1.out.2.2.size))))
 clear h1 h2
 go_wp2_with fail
 refine (HC0.out.2.1 w2 K2.out.2.2).mono ?_
 rintro e w3 ⟨v', rfl, h1, h2⟩
 obtain ⟨da, dc, rfl⟩ := own_shape h1
 have K3 := Hd (An h1 (An h2 (K2.out.2.1.trans (h2.mono K2.out.2.1.size))))
 have K3w := Hd (H1.out.2.2.trans (K3.out.2.2.mono H1.out.2.2.size))
 clear h1 h2
 have hg3 := H1.out.1.below K3.out.2.2 H1.out.1.lt
 have hs3 := H1.out.2.1.below K3.out.2.2 H1.out.2.1.lt
 obtain ⟨g0, g1, g2, g3, g4⟩ : w3.cell? ⟨w.heap.size, 0, none⟩ = some sv /\ w3.cell? ⟨w.heap.size, 1, none⟩ = some pv /\ w3.cell? ⟨w.heap.size, 2, none⟩ = some (.int .i64 g.start) /\ w3.cell? ⟨w.heap.size, 3, none⟩ = some fv /\ w3.cell? ⟨w.heap.size, 4, none⟩ = some lv := ⟨hg3.cell 0, hg3.cell 1, hg3.cell 2, hg3.cell 3, hg3.cell 4⟩
 obtain ⟨s0, s1⟩ : w3.cell? ⟨w.heap.size + 1, 0, none⟩ = some (.slice ia IT.length ic) /\ w3.cell? ⟨w.heap.size + 1, 1, none⟩ = some (.slice ea ED.length ec) := ⟨hs3.cell 0, hs3.cell 1⟩
 have hrd := r9reduces_any D (fun _ => True) g hN IT HK.out.2.2.2.2.2.1 (by omega) w3 sv pv fv lv (.slice ia IT.length ic) (.slice ea ED.length ec) (HK.out.1.keep fun q hq hl => ⟨hq, K3w.out.block q hl⟩) (HK.out.2.1.keep fun q hq hl => ⟨trivial, K3w.out.block q hl⟩)
 rw [HK.out.2.2.2.2.1] at hrd
 clear hg3 hs3
 go_wp2_with fail
 refine hrd.mono ?_
 rintro e w4 ⟨v', rfl, h1, h2⟩
 obtain ⟨ra, rc, rfl⟩ := own_shape h1
 have hb14 := K3.out.2.2.trans (h2.mono K3.out.2.2.size)
 have hb04 := H1.out.2.2.trans (hb14.mono H1.out.2.2.size)
 have hs4 := H1.out.2.1.below hb14 H1.out.2.1.lt
 have HCC := Hd (show ∀ W, Below w4.drew.heap.size w4.drew W -> W.cell? ⟨w.heap.size + 1, 0, none⟩ = some (.slice ia IT.length ic) /\ W.cell? ⟨w.heap.size + 1, 1, none⟩ = some (.slice ea ED.length ec) from fun W h => by
  have h9 := hs4.drew.below h hs4.lt
  exact ⟨h9.cell 0, h9.cell 1⟩)
 have HLE := Hd (show ∀ W, Below w4.drew.heap.size w4.drew W -> Calls Tryz.prog 31 #[tv, .int .i64 (n : Int)] W fun e w' => e = .returned (.int .i64 (ED.length : Int)) /\ Below W.heap.size W w' from fun W h => HC0.out.2.2.1 W (hb04.trans (((show Below w4.heap.size w4 w4.drew from (Below.refl _ _).drew).trans h).mono hb04.size)))
 have K4 := Hd (An (row_below K2.out.1 (K3.out.2.1.trans (h2.mono K3.out.2.1.size))) (An (row_below K3.out.1 h2) (An h1 (An hb14 hb04))))
 clear h1 h2 hrd g0 g1 g2 g3 g4 s0 s1 hb14 hb04 hs4
 go_wp2_with fail
 refine wp_region_concG 22 (stA (w.heap.size + 1) n tv la lc da dc ra rc ia ic ea ec IT.length DN.length ED.length) (fun A W => Below A.heap.size A W) (fun _ _ => True) [6, 13] (fun j => match j with | _ => false) (by kernel_rfl) (by kernel_rfl) (by kernel_rfl) (by kernel_rfl) (Below.refl _ _) trivial (fun h k => h.trans (k.mono h.size)) ⟨fun v w h => h, fun v w h => h, trivial⟩ ?_ ?_
 ·simp only [List.take_succ_cons, List.take_zero]
  refine ⟨?_, ?_, ?_, ?_, ?_, ?_, ?_, ?_, ?_, ?_, ?_, ?_, ?_, ?_, ?_, ?_, ?_, ?_, ?_, ?_, ?_, ?_, trivial⟩
  ·refine ⟨fun _ => ?_, fun h => absurd h (by decide)⟩
   intro L T W hG hJ hLs hLi dq fq vq K hK
   have h1 := fq 9 (by decide)
   simp at h1
   go_simp
   exact hK _ _ (Below.refl _ W) (fun j u _ _ _ h => h) trivial rfl
  ·refine ⟨fun _ => ?_, fun h => absurd h (by decide)⟩
   intro L T W hG hJ hLs hLi dq fq vq K hK
   have h1 := vq ⟨0, .data⟩ (by simp) rfl 37 rfl
   simp only [stA] at h1
   simp at h1
   go_simp
   exact hK _ _ (Below.refl _ W) (fun j u _ _ _ h => h) trivial rfl
  ·refine ⟨fun _ => ?_, fun h => absurd h (by decide)⟩
   intro L T W hG hJ hLs hLi dq fq vq K hK
   have h1 := fq 7 (by decide)
   simp at h1
   go_simp
   exact hK _ _ (Below.refl _ W) (fun j u _ _ _ h => h) trivial rfl
  ·refine ⟨fun _ => ?_, fun h => absurd h (by decide)⟩
   intro L T W hG hJ hLs hLi dq fq vq K hK
   have h1 := vq ⟨2, .data⟩ (by simp) rfl 39 rfl
   simp only [stA] at h1
   simp at h1
   obtain ⟨c0, c1⟩ := HCC.out W hG
   go_simp
   exact hK _ _ (Below.refl _ W) (fun j u _ _ _ h => h) trivial rfl
  ·refine ⟨fun _ => ?_, fun h => absurd h (by decide)⟩
   intro L T W hG hJ hLs hLi dq fq vq K hK
   have h1 := vq ⟨3, .data⟩ (by simp) rfl 40 rfl
   simp only [stA] at h1
   simp at h1
   go_simp
   exact hK _ _ (Below.refl _ W) (fun j u _ _ _ h => h) trivial rfl
  ·refine ⟨fun _ => ?_, fun h => absurd h (by decide)⟩
   intro L T W hG hJ hLs hLi dq fq vq K hK
   have h1 := vq ⟨1, .data⟩ (by simp) rfl 38 rfl
   simp only [stA] at h1
   have h2 := vq ⟨4, .data⟩ (by simp) rfl 41 rfl
   simp only [stA] at h2
   simp at h1 h2
   go_simp
   exact hK _ _ (Below.refl _ W) (fun j u _ _ _ h => h) trivial rfl
  ·refine ⟨fun _ => ?_, fun h => absurd h (by decide)⟩
   intro L T W hG hJ hLs hLi dq fq vq K hK
   have h1 := vq ⟨5, .data⟩ (by simp) rfl 42 rfl
   simp only [stA] at h1
   simp at h1
   go_simp
   exact hK _ _ (Below.refl _ W) (fun j u _ _ _ h => h) trivial rfl
  ·refine ⟨fun _ => ?_, fun h => absurd h (by decide)⟩
   intro L T W hG hJ hLs hLi dq fq vq K hK
   have h1 := fq 10 (by decide)
   simp at h1
   go_simp
   exact hK _ _ (Below.refl _ W) (fun j u _ _ _ h => h) trivial rfl
  ·refine ⟨fun _ => ?_, fun h => absurd h (by decide)⟩
   intro L T W hG hJ hLs hLi dq fq vq K hK
   have h1 := vq ⟨7, .data⟩ (by simp) rfl 44 rfl
   simp only [stA] at h1
   simp at h1
   go_simp
   exact hK _ _ (Below.refl _ W) (fun j u _ _ _ h => h) trivial rfl
  ·refine ⟨fun _ => ?_, fun h => absurd h (by decide)⟩
   intro L T W hG hJ hLs hLi dq fq vq K hK
   have h1 := fq 11 (by decide)
   simp at h1
   go_simp
   exact hK _ _ (Below.refl _ W) (fun j u _ _ _ h => h) trivial rfl
  ·refine ⟨fun _ => ?_, fun h => absurd h (by decide)⟩
   intro L T W hG hJ hLs hLi dq fq vq K hK
   have h1 := vq ⟨9, .data⟩ (by simp) rfl 46 rfl
   simp only [stA] at h1
   simp at h1
   go_simp
   exact hK _ _ (Below.refl _ W) (fun j u _ _ _ h => h) trivial rfl
  ·refine ⟨fun _ => ?_, fun h => absurd h (by decide)⟩
   intro L T W hG hJ hLs hLi dq fq vq K hK
   have h1 := vq ⟨8, .data⟩ (by simp) rfl 45 rfl
   simp only [stA] at h1
   have h2 := vq ⟨10, .data⟩ (by simp) rfl 47 rfl
   simp only [stA] at h2
   simp at h1 h2
   go_simp
   exact hK _ _ (Below.refl _ W) (fun j u _ _ _ h => h) trivial rfl
  ·refine ⟨fun _ => ?_, fun h => absurd h (by decide)⟩
   intro L T W hG hJ hLs hLi dq fq vq K hK
   have h1 := vq ⟨6, .data⟩ (by simp) rfl 43 rfl
   simp only [stA] at h1
   have h2 := vq ⟨11, .data⟩ (by simp) rfl 48 rfl
   simp only [stA] at h2
   simp at h1 h2
   go_simp
   exact hK _ _ (Below.refl _ W) (fun j u _ _ _ h => h) trivial rfl
  ·refine ⟨fun _ => ?_, fun h => absurd h (by decide)⟩
   intro L T W hG hJ hLs hLi dq fq vq K hK
   have h1 := vq ⟨12, .data⟩ (by simp) rfl 49 rfl
   simp only [stA] at h1
   simp at h1
   go_simp
   exact hK _ _ (Below.refl _ W) (fun j u _ _ _ h => h) trivial rfl
  ·refine ⟨fun _ => ?_, fun h => absurd h (by decide)⟩
   intro L T W hG hJ hLs hLi dq fq vq K hK
   have h1 := fq 0 (by decide)
   simp at h1
   go_simp
   exact hK _ _ (Below.refl _ W) (fun j u _ _ _ h => h) trivial rfl
  ·refine ⟨fun _ => ?_, fun h => absurd h (by decide)⟩
   intro L T W hG hJ hLs hLi dq fq vq K hK
   have h1 := fq 2 (by decide)
   simp at h1
   go_simp
   exact hK _ _ (Below.refl _ W) (fun j u _ _ _ h => h) trivial rfl
  ·refine ⟨fun _ => ?_, fun h => absurd h (by decide)⟩
   intro L T W hG hJ hLs hLi dq fq vq K hK
   have h1 := vq ⟨14, .data⟩ (by simp) rfl 51 rfl
   simp only [stA] at h1
   have h2 := vq ⟨15, .data⟩ (by simp) rfl 52 rfl
   simp only [stA] at h2
   simp at h1 h2
   go_simp
   refine (HLE.out W hG).mono ?_
   rintro e W2 ⟨rfl, hb2⟩
   exact hK _ _ hb2 (fun j u _ _ _ h => h) trivial rfl
  ·refine ⟨fun _ => ?_, fun h => absurd h (by decide)⟩
   intro L T W hG hJ hLs hLi dq fq vq K hK
   have h1 := fq 7 (by decide)
   simp at h1
   go_simp
   exact hK _ _ (Below.refl _ W) (fun j u _ _ _ h => h) trivial rfl
  ·refine ⟨fun _ => ?_, fun h => absurd h (by decide)⟩
   intro L T W hG hJ hLs hLi dq fq vq K hK
   have h1 := vq ⟨17, .data⟩ (by simp) rfl 54 rfl
   simp only [stA] at h1
   simp at h1
   obtain ⟨c0, c1⟩ := HCC.out W hG
   go_simp
   exact hK _ _ (Below.refl _ W) (fun j u _ _ _ h => h) trivial rfl
  ·refine ⟨fun _ => ?_, fun h => absurd h (by decide)⟩
   intro L T W hG hJ hLs hLi dq fq vq K hK
   have h1 := vq ⟨18, .data⟩ (by simp) rfl 55 rfl
   simp only [stA] at h1
   simp at h1
   go_simp
   exact hK _ _ (Below.refl _ W) (fun j u _ _ _ h => h) trivial rfl
  ·refine ⟨fun _ => ?_, fun h => absurd h (by decide)⟩
   intro L T W hG hJ hLs hLi dq fq vq K hK
   have h1 := vq ⟨16, .data⟩ (by simp) rfl 53 rfl
   simp only [stA] at h1
   have h2 := vq ⟨19, .data⟩ (by simp) rfl 56 rfl
   simp only [stA] at h2
   simp at h1 h2
   go_simp
   exact hK _ _ (Below.refl _ W) (fun j u _ _ _ h => h) trivial rfl
  ·refine ⟨fun _ => ?_, fun h => absurd h (by decide)⟩
   intro L T W hG hJ hLs hLi dq fq vq K hK
   have h1 := vq ⟨13, .data⟩ (by simp) rfl 50 rfl
   simp only [stA] at h1
   have h2 := vq ⟨20, .data⟩ (by simp) rfl 57 rfl
   simp only [stA] at h2
   simp at h1 h2
   go_simp
   exact hK _ _ (Below.refl _ W) (fun j u _ _ _ h => h) trivial rfl
 ·intro f9 w5 hG hJe hR
  have e21 := hR 21 58 (by decide) rfl
  simp only [concDsts, List.take_succ_cons, List.take_zero, List.drop_succ_cons, List.drop_zero, List.filterMap_cons, List.filterMap_nil, List.foldl_cons, List.foldl_nil, List.setIfInBounds_toArray, List.set_cons_zero, List.set_cons_succ]
  simp only [stA] at e21
  rw [e21]
  clear e21 hR
  generalize f9 37 = v37
  generalize f9 38 = v38
  generalize f9 39 = v39
  generalize f9 40 = v40
  generalize f9 41 = v41
  generalize f9 42 = v42
  generalize f9 43 = v43
  generalize f9 44 = v44
  generalize f9 45 = v45
  generalize f9 46 = v46
  generalize f9 47 = v47
  generalize f9 48 = v48
  generalize f9 49 = v49
  generalize f9 50 = v50
  generalize f9 51 = v51
  generalize f9 52 = v52
  generalize f9 53 = v53
  generalize f9 54 = v54
  generalize f9 55 = v55
  generalize f9 56 = v56
  generalize f9 57 = v57
  clear f9
  have HB5 := Hd (show Below w4.heap.size w4 w5 from (show Below w4.heap.size w4 w4.drew from (Below.refl _ _).drew).trans hG)
  have K5 := Hd (An (row_below K4.out.1 HB5.out) (An (row_below K4.out.2.1 HB5.out) (An (row_below K4.out.2.2.1 HB5.out) (K4.out.2.2.2.1.trans (HB5.out.mono K4.out.2.2.2.1.size)))))
  clear hG hJe HCC HLE
  go_wp2_with fail
  go_loopg [12] IT.length (fun m v12 wx => ∃ (i : Nat) (xs : List Value), i <= IT.length /\ m = IT.length - i /\ v12 = .int .i64 (i : Int) /\ wx.ownsRow w1.heap.size 53 2 (.slice la IT.length lc) IT.length xs /\ (∀ j x, i <= j -> IT[j]? = some x -> xs[j * 2]? = some (.int .i64 (x.1 : Int)) /\ xs[j * 2 + 1]? = some (.int .i64 (x.2 : Int))) /\ Below w1.heap.size w1 wx /\ wx.ownsRow w2.heap.size 3 1 (.slice da DN.length dc) DN.length (flatK encN DN) /\ wx.ownsRow w3.heap.size 3 1 (.slice ra DN.length rc) DN.length (flatK encN DN))
  case atStart => exact ⟨0, flatK encIt IT, Nat.zero_le _, rfl, rfl, K5.out.1, fun j x _ hx => ⟨flatK_get encIt_len IT j x 0 _ hx rfl, flatK_get encIt_len IT j x 1 _ hx rfl⟩, K5.out.2.2.2, K5.out.2.1, K5.out.2.2.1⟩
  case round =>
   obtain ⟨i, xs, hi, hm, rfl, hlr, hxs, hbx, hdr, hrr⟩ := hrel
   by_cases hil : i < IT.length
   ·obtain ⟨⟨pn, d⟩, hx⟩ : ∃ x, IT[i]? = some x := ⟨_, List.getElem?_eq_getElem hil⟩
    obtain ⟨lb, lcap, hlv, hlB, _, _⟩ := own_some hlr (by omega)
    injection hlv with e1 e2 e3
    subst e1
    obtain ⟨ib, io, rfl, _, hir⟩ := HK.out.2.2.2.2.2.2.1 (by rintro h; rw [h] at hil; simp at hil)
    have hsB := H1.out.2.1.below hbx H1.out.2.1.lt
    have hbw := H1.out.2.2.trans (hbx.mono H1.out.2.2.size)
    have up := hbw.block ib hir.lt
    have z0 : wr.cell? ⟨ib, io + i * 2, none⟩ = some (.int .i64 (pn : Int)) := (World.cell?_of_block up).trans (hir.cells i _ hx 0 _ rfl)
    have z1 : wr.cell? ⟨ib, io + i * 2 + 1, none⟩ = some (.int .i64 (d : Int)) := (World.cell?_of_block up).trans (hir.cells i _ hx 1 _ rfl)
    have hq := hxs i _ (Nat.le_refl _) hx
    have l0 : wr.cell? ⟨lb, i * 2, none⟩ = some (.int .i64 (pn : Int)) := by have h := hlr.cells (g := lb) rfl (i * 2) _ hq.1; rw [addr_add_, Nat.zero_add] at h; exact h
    have l1 : wr.cell? ⟨lb, i * 2 + 1, none⟩ = some (.int .i64 (d : Int)) := by have h := hlr.cells (g := lb) rfl (i * 2 + 1) _ hq.2; rw [addr_add_, Nat.zero_add] at h; exact h
    have s0 : wr.cell? ⟨w.heap.size + 1, 0, none⟩ = some (.slice (some ⟨ib, io, none⟩) IT.length ic) := hsB.cell 0
    have hnq := fun W => neq_item (pn : Int) (d : Int) (pn : Int) (d : Int) W
    simp at hnq
    have hi0 : (0 : Int) <= (i : Int) := by omega
    have hi1 : (i : Int) < (IT.length : Int) := by omega
    have Q := Hd (An hm (An hlr (An hxs (An hbx (An hdr (An hrr hlB))))))
    clear hm hlr hxs hbx hdr hrr hsB hbw hir up hq e2 e3 hx
    obtain ⟨wt, rfl⟩ : ∃ wt : World, wt = wr := ⟨_, rfl⟩
    go_wp2_with fail
    go_quiet (fail)
    go_upto_region 10 with fail
    generalize hwd : World.drewN wt _ = wdd
    obtain ⟨nq, hwd⟩ : ∃ nq, World.drewN wt nq = wdd := ⟨_, hwd⟩
    have hbd := below_drewN (Below.refl wt.heap.size wt) nq
    rw [hwd] at hbd
    have hlr := row_below Q.out.2.1 hbd
    have hpt := own_put hlr (i * 2 + 1) (by omega) (.int .i64 (-1))
    have hgr : wdd.grownBy (wdd.setCell ⟨lb, i * 2 + 1, none⟩ (.int .i64 (-1))) (Value.slice (some ⟨lb, 0, none⟩) IT.length lc).ownBlock := grown_set (grown_refl wdd (some lb)) (p := ⟨lb, i * 2 + 1, none⟩) rfl _
    have hdr := row_below Q.out.2.2.2.2.1 hbd
    have hrr := row_below Q.out.2.2.2.2.2.1 hbd
    have HS := Hd (An hpt (An (hdr.kept hgr (own_ne hdr hlr (by decide))) (An (hrr.kept hgr (own_ne hrr hlr (by decide))) ((Q.out.2.2.2.1.trans (hbd.mono Q.out.2.2.2.1.size)).setCell (p := ⟨lb, i * 2 + 1, none⟩) Q.out.2.2.2.2.2.2 (.int .i64 (-1))))))
    have l1 : wdd.cell? ⟨lb, i * 2 + 1, none⟩ = some (.int .i64 (d : Int)) := by rw [<- hwd]; exact l1
    have cf : wdd.frozen? ⟨lb, i * 2 + 1, none⟩ = false := own_frozenV hlr rfl _
    clear hwd hbd hlr hpt hgr hdr hrr z0 z1 l0 s0 hnq
    go_wp2_with fail
    go_roundg (IT.length - (i + 1))
    case measure => have h1 := Q.out.1; omega
    case rel =>
     refine ⟨i + 1, _, by omega, rfl, rfl, HS.out.1, fun j x hj hx => ?_, HS.out.2.2.2, HS.out.2.1, HS.out.2.2.1⟩
     obtain ⟨h1, h2⟩ := Q.out.2.2.1 j x (by omega) hx
     rw [List.getElem?_set_ne (by omega), List.getElem?_set_ne (by omega)]
     exact ⟨h1, h2⟩
   ·obtain rfl : i = IT.length := by omega
    have K6 := Hd (An hbx (An hdr hrr))
    clear hlr hxs hbx hdr hrr hm
    obtain ⟨w6, rfl⟩ : ∃ w6 : World, w6 = wr := ⟨_, rfl⟩
    go_wp2_with fail
    go_loopg [13] DN.length (fun m v13 wx => ∃ (i : Nat) (xs : List Value), i <= DN.length /\ m = DN.length - i /\ v13 = .int .i64 (i : Int) /\ wx.ownsRow w2.heap.size 3 1 (.slice da DN.length dc) DN.length xs /\ (∀ j x, i <= j -> DN[j]? = some x -> xs[j]? = some (.int .i64 (x : Int))) /\ Below w1.heap.size w1 wx /\ wx.ownsRow w3.heap.size 3 1 (.slice ra DN.length rc) DN.length (flatK encN DN) /\ ∀ b, (Value.slice da DN.length dc).ownBlock = some b -> b < w3.heap.size)
    case atStart => exact ⟨0, flatK encN DN, Nat.zero_le _, rfl, rfl, K6.out.2.1, fun j x _ hx => by have h := flatK_get encN_len DN j x 0 _ hx rfl; simpa using h, K6.out.1, K6.out.2.2, fun b hb => (K3.out.1.lt b hb).2⟩
    case round =>
     obtain ⟨i, xs, hi, hm, rfl, hdr, hxs, hbx, hrr, hlt⟩ := hrel
     by_cases hil : i < DN.length
     ·obtain ⟨x, hx⟩ : ∃ x, DN[i]? = some x := ⟨_, List.getElem?_eq_getElem hil⟩
      obtain ⟨db, dcap, hdv, hdB, _, _⟩ := own_some hdr (by omega)
      injection hdv with e1 e2 e3
      subst e1
      obtain ⟨rb, rcap, hrv, hrB, _, _⟩ := own_some hrr (by omega)
      injection hrv with e4 e5 e6
      subst e4
      have d0 : wr.cell? ⟨db, i, none⟩ = some (.int .i64 (x : Int)) := by have h := hdr.cells (g := db) rfl i _ (hxs i x (Nat.le_refl _) hx); rw [addr_add_, Nat.zero_add] at h; exact h
      have r0 : wr.cell? ⟨rb, i, none⟩ = some (.int .i64 (x : Int)) := by have h := own_cellK encN_len hrr hx 0 rfl; simpa using h
      have hi0 : (0 : Int) <= (i : Int) := by omega
      have hi1 : (i : Int) < (DN.length : Int) := by omega
      have hdlt := hlt db rfl
      have Q := Hd (An hm (An hdr (An hxs (An hbx (An hrr (An hlt (An hdB (An hrB hdlt))))))))
      clear hm hdr hxs hbx hrr hlt hx e2 e3 e5 e6 hdB hrB hdlt
      obtain ⟨wt, rfl⟩ : ∃ wt : World, wt = wr := ⟨_, rfl⟩
      go_wp2_with fail
      go_quiet (fail)
      go_upto_region 16 with fail
      generalize hwd : World.drewN wt _ = wdd
      obtain ⟨nq, hwd⟩ : ∃ nq, World.drewN wt nq = wdd := ⟨_, hwd⟩
      have hbd := below_drewN (Below.refl wt.heap.size wt) nq
      rw [hwd] at hbd
      have hdr := row_below Q.out.2.1 hbd
      have hpt := own_put hdr i (by omega) (.int .i64 (-1))
      have hgr : wdd.grownBy (wdd.setCell ⟨db, i, none⟩ (.int .i64 (-1))) (some db) := grown_set (grown_refl wdd (some db)) (p := ⟨db, i, none⟩) rfl _
      have hrr := row_below Q.out.2.2.2.2.1 hbd
      have hlw : w1.heap.size <= db := Nat.le_trans K2.out.2.1.size Q.out.2.2.2.2.2.2.1
      have HS := Hd (An hpt (An (hrr.kept hgr (.inr (by intro e; have e9 : rb = db := Option.some.inj e; have h8 := Q.out.2.2.2.2.2.2.2.1; have h9 := Q.out.2.2.2.2.2.2.2.2; omega))) ((Q.out.2.2.2.1.trans (hbd.mono Q.out.2.2.2.1.size)).setCell (p := ⟨db, i, none⟩) hlw (.int .i64 (-1)))))
      have d0 : wdd.cell? ⟨db, i, none⟩ = some (.int .i64 (x : Int)) := by rw [<- hwd]; exact d0
      have cf : wdd.frozen? ⟨db, i, none⟩ = false := own_frozenV hdr rfl _
      clear hwd hbd hdr hpt hgr hrr r0 hlw
      go_wp2_with fail
      go_roundg (DN.length - (i + 1))
      case measure => have h1 := Q.out.1; omega
      case rel =>
       refine ⟨i + 1, _, by omega, rfl, rfl, HS.out.1, fun j y hj hy => ?_, HS.out.2.2, HS.out.2.1, Q.out.2.2.2.2.2.1⟩
       rw [List.getElem?_set_ne (by omega)]
       exact Q.out.2.2.1 j y (by omega) hy
     ·obtain rfl : i = DN.length := by omega
      have K7 := Hd (An hbx (H1.out.2.2.trans (hbx.mono H1.out.2.2.size)))
      clear hdr hxs hbx hrr hlt hm
      obtain ⟨w7, rfl⟩ : ∃ w7 : World, w7 = wr := ⟨_, rfl⟩
      go_wp2_with fail
      refine (HC0.out.1 w7 K7.out.2).mono ?_
      rintro e w8 ⟨v', rfl, h1, h2⟩
      obtain ⟨aa, ac, rfl⟩ := own_shape h1
      have hb18 := K7.out.1.trans (h2.mono K7.out.1.size)
      have hsB := H1.out.2.1.below hb18 H1.out.2.1.lt
      have s0 : w8.cell? ⟨w.heap.size + 1, 0, none⟩ = some (.slice ia IT.length ic) := hsB.cell 0
      have K8 := Hd (An h1 (An hb18 (H1.out.2.2.trans (hb18.mono H1.out.2.2.size))))
      clear h1 h2 hb18 hsB
      go_upto_region 18 with fail
      go_cut [120] from 100 to 120 (fun s120 wx => s120 = .bool false /\ Below w8.heap.size w8 wx)
      case first =>
       by_cases hz : IT.length = 0
       ·have hz1 : ¬ (0 : Int) < (IT.length : Int) := by omega
        have hz2 : decide (0 < IT.length) = false := decide_eq_false (by omega)
        clear hz
        go_quiet (fail)
        go_wp2_with fail
        go_meet
        exact ⟨rfl, below_drewN (Below.refl _ _) _⟩
       ·have hz1 : (0 : Int) < (IT.length : Int) := by omega
        have hz2 : decide (0 < IT.length) = true := decide_eq_true (by omega)
        obtain ⟨⟨pn, d⟩, hx⟩ : ∃ x, IT[0]? = some x := ⟨_, List.getElem?_eq_getElem (by omega)⟩
        obtain ⟨ab, acap, hav, _⟩ := own_some K8.out.1 (by omega)
        injection hav with e1 e2 e3
        subst e1
        obtain ⟨ib, io, rfl, _, hir⟩ := HK.out.2.2.2.2.2.2.1 (by rintro h; rw [h] at hz; simp at hz)
        have up := K8.out.2.2.block ib hir.lt
        have z0 : w8.cell? ⟨ib, io, none⟩ = some (.int .i64 (pn : Int)) := (World.cell?_of_block up).trans (by have := hir.cells 0 _ hx 0 _ rfl; simpa using this)
        have z1 : w8.cell? ⟨ib, io + 1, none⟩ = some (.int .i64 (d : Int)) := (World.cell?_of_block up).trans (by have := hir.cells 0 _ hx 1 _ rfl; simpa using this)
        have a0 : w8.cell? ⟨ab, 0, none⟩ = some (.int .i64 (pn : Int)) := by have h := own_cellK encIt_len K8.out.1 hx 0 rfl; simpa using h
        have a1 : w8.cell? ⟨ab, 1, none⟩ = some (.int .i64 (d : Int)) := by have h := own_cellK encIt_len K8.out.1 hx 1 rfl; simpa using h
        have hnq := fun W => neq_item (pn : Int) (d : Int) (pn : Int) (d : Int) W
        simp at hnq
        clear hz hir up e2 e3 hx
        go_quiet (fail)
        go_wp2_with fail
        go_meet
        exact ⟨rfl, below_drewN (Below.refl _ _) _⟩
      case rest =>
       obtain ⟨rfl, hbd⟩ := hcut
       obtain ⟨wdd, rfl⟩ : ∃ wdd : World, wdd = wc := ⟨_, rfl⟩
       have hb1d := K8.out.2.1.trans (hbd.mono K8.out.2.1.size)
       have HW := Hd (An hb1d (H1.out.2.2.trans (hb1d.mono H1.out.2.2.size)))
       clear hbd hb1d s0
       go_upto_region 21 with fail
       have hNB : Blk (wdd.alloc (.cells #[.int .u64 0, .int .u64 0, .int .u64 0, .int .u64 0] 26)) wdd.heap.size 26 (setC (nextF (ED.take 0))) := by { have e : setC (nextF (ED.take 0)) = #[.int .u64 0, .int .u64 0, .int .u64 0, .int .u64 0] := (by rw [List.take_zero]; simp [nextF, setC, wd_nil]); rw [e]; exact Blk.new _ _ _ }
       have hbn : Below wdd.heap.size wdd (wdd.alloc (.cells #[.int .u64 0, .int .u64 0, .int .u64 0, .int .u64 0] 26)) := (Below.refl _ wdd).alloc (Nat.le_refl _) _
       generalize (wdd.alloc (.cells #[.int .u64 0, .int .u64 0, .int .u64 0, .int .u64 0] 26)) = wn at hNB hbn ⊢
       have HN := Hd (An hNB hbn)
       clear hNB hbn
       go_wp2_with fail
       go_loopg [16] ED.length (fun m v16 wx => ∃ i : Nat, i <= ED.length /\ m = ED.length - i /\ v16 = .int .i64 (i : Int) /\ Blk wx wdd.heap.size 26 (setC (nextF (ED.take i))) /\ Below wdd.heap.size wdd wx)
       case atStart => exact ⟨0, Nat.zero_le _, rfl, rfl, HN.out.1, HN.out.2⟩
       case round =>
        obtain ⟨i, hi, hm, rfl, hNB, hbx⟩ := hrel
        have hb1 := HW.out.1.trans (hbx.mono HW.out.1.size)
        have hb0 := HW.out.2.trans (hbx.mono HW.out.2.size)
        have hsB := H1.out.2.1.below hb1 H1.out.2.1.lt
        have q : wr.cell? ⟨w.heap.size + 1, 1, none⟩ = some (.slice ea ED.length ec) := hsB.cell 1
        by_cases hil : i < ED.length
        ·obtain ⟨⟨⟨yk, yS, ys⟩, tn⟩, hx⟩ : ∃ x, ED[i]? = some x := ⟨_, List.getElem?_eq_getElem hil⟩
         obtain ⟨eb, eo, rfl, _, her⟩ := HK.out.2.2.2.2.2.2.2 (by rintro h; rw [h] at hil; simp at hil)
         have up := hb0.block eb her.lt
         obtain ⟨y0, hy0⟩ : ∃ z, wd yS 0 = z := ⟨_, rfl⟩
         obtain ⟨y1, hy1⟩ : ∃ z, wd yS 1 = z := ⟨_, rfl⟩
         obtain ⟨y2, hy2⟩ : ∃ z, wd yS 2 = z := ⟨_, rfl⟩
         obtain ⟨y3, hy3⟩ : ∃ z, wd yS 3 = z := ⟨_, rfl⟩
         have z0 : wr.cell? ⟨eb, eo + i * 7, none⟩ = some (.int .i64 yk) := (World.cell?_of_block up).trans (her.cells i _ hx 0 _ rfl)
         have z1 : wr.cell? ⟨eb, eo + i * 7 + 1, none⟩ = some (.int .u64 y0) := (World.cell?_of_block up).trans (by rw [<- hy0]; exact her.cells i _ hx 1 _ rfl)
         have z2 : wr.cell? ⟨eb, eo + i * 7 + 2, none⟩ = some (.int .u64 y1) := (World.cell?_of_block up).trans (by rw [<- hy1]; exact her.cells i _ hx 2 _ rfl)
         have z3 : wr.cell? ⟨eb, eo + i * 7 + 3, none⟩ = some (.int .u64 y2) := (World.cell?_of_block up).trans (by rw [<- hy2]; exact her.cells i _ hx 3 _ rfl)
         have z4 : wr.cell? ⟨eb, eo + i * 7 + 4, none⟩ = some (.int .u64 y3) := (World.cell?_of_block up).trans (by rw [<- hy3]; exact her.cells i _ hx 4 _ rfl)
         have z5 : wr.cell? ⟨eb, eo + i * 7 + 5, none⟩ = some (.int .i64 ys) := (World.cell?_of_block up).trans (her.cells i _ hx 5 _ rfl)
         have z6 : wr.cell? ⟨eb, eo + i * 7 + 6, none⟩ = some (.int .i64 (tn : Int)) := (World.cell?_of_block up).trans (her.cells i _ hx 6 _ rfl)
         have hi0 : (0 : Int) <= (i : Int) := by omega
         have hi1 : (i : Int) < (ED.length : Int) := by omega
         have hsy := HK.out.2.2.2.1.sym _ (List.mem_of_getElem? hx)
         have hnu := nextF_succ ED i hx
         simp only at hsy hnu
         have Q := Hd (An hm (An hNB (An hbx (An hb0 (An hsB (An hx (An hsy hnu)))))))
         have HY := Hd (An hy0 (An hy1 (An hy2 hy3)))
         clear hm hNB hbx hb0 hb1 hsB hx hsy hnu up her hy0 hy1 hy2 hy3
         obtain ⟨wt, rfl⟩ : ∃ wt : World, wt = wr := ⟨_, rfl⟩
         go_upto_region 25 with fail
         have hXB : Blk (wt.alloc (.cells #[.int .i64 yk, .int .u64 y0, .int .u64 y1, .int .u64 y2, .int .u64 y3, .int .i64 ys, .int .i64 (tn : Int)] 64)) wt.heap.size 64 #[.int .i64 yk, .int .u64 y0, .int .u64 y1, .int .u64 y2, .int .u64 y3, .int .i64 ys, .int .i64 (tn : Int)] := Blk.new _ _ _
         have hba : Below wt.heap.size wt (wt.alloc (.cells #[.int .i64 yk, .int .u64 y0, .int .u64 y1, .int .u64 y2, .int .u64 y3, .int .i64 ys, .int .i64 (tn : Int)] 64)) := (Below.refl _ wt).alloc (Nat.le_refl _) _
         generalize (wt.alloc (.cells #[.int .i64 yk, .int .u64 y0, .int .u64 y1, .int .u64 y2, .int .u64 y3, .int .i64 ys, .int .i64 (tn : Int)] 64)) = wa at hXB hba ⊢
         have hNA := Q.out.2.1.below hba Q.out.2.1.lt
         have hbxA := Q.out.2.2.1.trans (hba.mono Q.out.2.2.1.size)
         have hb0A := Q.out.2.2.2.1.trans (hba.mono Q.out.2.2.2.1.size)
         have hnx : wdd.heap.size < wt.heap.size := Q.out.2.1.lt
         have HA := Hd (An hXB (An hNA (An hbxA (An hb0A hnx))))
         have x0 := hXB.cell 0
         have x1 := hXB.cell 1
         have x2 := hXB.cell 2
         have x3 := hXB.cell 3
         have x4 := hXB.cell 4
         have x5 := hXB.cell 5
         have x6 := hXB.cell 6
         simp at x0 x1 x2 x3 x4 x5 x6
         clear hXB hba hNA hbxA hb0A hnx z0 z1 z2 z3 z4 z5 z6 q
         by_cases hk : yk = 1
         ·have hgt := HC0.out.2.2.2.1 ys wa HA.out.2.2.2.1
          rw [HK.out.2.2.2.1.sort Q.out.2.2.2.2.2.1 hk] at hgt
          have HSU := Hd (show nextF (ED.take (i + 1)) = nextF (ED.take i) from by rw [Q.out.2.2.2.2.2.2.2]; exact if_neg (by omega))
          rw [hk] at x0
          clear hk
          go_wp2_with fail
          refine hgt.mono ?_
          rintro e w9 ⟨rfl, hb9⟩
          have HN9 := Hd (An (HA.out.2.1.below hb9 HA.out.2.1.lt) (HA.out.2.2.1.trans (hb9.mono HA.out.2.2.1.size)))
          have x6 := (HA.out.1.below hb9 HA.out.1.lt).cell 6
          simp at x6
          clear hb9 hgt x0 x1 x2 x3 x4 x5
          go_wp2_with fail
          go_roundg (ED.length - (i + 1))
          case measure => have h1 := Q.out.1; omega
          case rel => exact ⟨i + 1, by omega, rfl, rfl, by rw [HSU.out]; exact HN9.out.1, HN9.out.2⟩
         ·have hk2 : (yk == 1) = false := by simpa using hk
          have hk0 : yk = 0 := by
           rcases Q.out.2.2.2.2.2.2.1 with h | h
           ·exact absurd h.1 hk
           ·exact h.1
          have hS256 : yS < 2 ^ 256 := by
           rcases Q.out.2.2.2.2.2.2.1 with h | h
           ·exact absurd h.1 hk
           ·exact h.2.2
          have hM256 : nextF (ED.take i) < 2 ^ 256 := nextF_lt fun e he => HK.out.2.2.2.1.sym e (List.mem_of_mem_take he)
          have HSU := Hd (show nextF (ED.take (i + 1)) = nextF (ED.take i) ||| yS from by rw [Q.out.2.2.2.2.2.2.2]; exact if_pos hk0)
          obtain ⟨M, hM⟩ : ∃ M, nextF (ED.take i) = M := ⟨_, rfl⟩
          have hNA := HA.out.2.1
          rw [hM] at hNA hM256
          have n0 : wa.cell? ⟨wdd.heap.size, 0, none⟩ = some (.int .u64 (wd M 0)) := hNA.cell 0
          have n1 : wa.cell? ⟨wdd.heap.size, 1, none⟩ = some (.int .u64 (wd M 1)) := hNA.cell 1
          have n2 : wa.cell? ⟨wdd.heap.size, 2, none⟩ = some (.int .u64 (wd M 2)) := hNA.cell 2
          have n3 : wa.cell? ⟨wdd.heap.size, 3, none⟩ = some (.int .u64 (wd M 3)) := hNA.cell 3
          have hbo := both_any M yS 1 (.inl rfl) wa
          rw [bothP_or hM256 hS256] at hbo
          unfold setV at hbo
          simp only [HY.out.1, HY.out.2.1, HY.out.2.2.1, HY.out.2.2.2] at hbo
          have hs1 : (1 : Int) = ((1 : Nat) : Int) := rfl
          have HM := Hd (An hM (An hk0 hk))
          clear hM hk0 hk hNA hM256 hs1
          go_wp2_with fail
          refine hbo.mono ?_
          rintro e w9 ⟨rfl, hb9⟩
          have hN9 := HA.out.2.1.below hb9 HA.out.2.1.lt
          have hX9 := HA.out.1.below hb9 HA.out.1.lt
          have hb9x := HA.out.2.2.1.trans (hb9.mono HA.out.2.2.1.size)
          have n0 := hN9.cell 0
          have n1 := hN9.cell 1
          have n2 := hN9.cell 2
          have n3 := hN9.cell 3
          have nf := hN9.frozen
          simp [setC] at n0 n1 n2 n3
          have hN10 : Blk ((((w9.setCell ⟨wdd.heap.size, 0, none⟩ (.int .u64 (wd (M ||| yS) 0))).setCell ⟨wdd.heap.size, 1, none⟩ (.int .u64 (wd (M ||| yS) 1))).setCell ⟨wdd.heap.size, 2, none⟩ (.int .u64 (wd (M ||| yS) 2))).setCell ⟨wdd.heap.size, 3, none⟩ (.int .u64 (wd (M ||| yS) 3))) wdd.heap.size 26 (setC (M ||| yS)) := by
           have h := (((hN9.set_ 0 (.int .u64 (wd (M ||| yS) 0))).set_ 1 (.int .u64 (wd (M ||| yS) 1))).set_ 2 (.int .u64 (wd (M ||| yS) 2))).set_ 3 (.int .u64 (wd (M ||| yS) 3))
           simpa [setC] using h
          have hne9 : wt.heap.size ≠ wdd.heap.size := by have := HA.out.2.2.2.2; omega
          have hX10 : Blk ((((w9.setCell ⟨wdd.heap.size, 0, none⟩ (.int .u64 (wd (M ||| yS) 0))).setCell ⟨wdd.heap.size, 1, none⟩ (.int .u64 (wd (M ||| yS) 1))).setCell ⟨wdd.heap.size, 2, none⟩ (.int .u64 (wd (M ||| yS) 2))).setCell ⟨wdd.heap.size, 3, none⟩ (.int .u64 (wd (M ||| yS) 3))) wt.heap.size 64 #[.int .i64 yk, .int .u64 y0, .int .u64 y1, .int .u64 y2, .int .u64 y3, .int .i64 ys, .int .i64 (tn : Int)] :=
           (((hX9.far (p := ⟨wdd.heap.size, 0, none⟩) hne9 _).far (p := ⟨wdd.heap.size, 1, none⟩) hne9 _).far (p := ⟨wdd.heap.size, 2, none⟩) hne9 _).far (p := ⟨wdd.heap.size, 3, none⟩) hne9 _
          have hb10 := (((hb9x.setCell (p := ⟨wdd.heap.size, 0, none⟩) (Nat.le_refl _) (.int .u64 (wd (M ||| yS) 0))).setCell (p := ⟨wdd.heap.size, 1, none⟩) (Nat.le_refl _) (.int .u64 (wd (M ||| yS) 1))).setCell (p := ⟨wdd.heap.size, 2, none⟩) (Nat.le_refl _) (.int .u64 (wd (M ||| yS) 2))).setCell (p := ⟨wdd.heap.size, 3, none⟩) (Nat.le_refl _) (.int .u64 (wd (M ||| yS) 3))
          have HT := Hd (An hN10 (An hX10 hb10))
          clear hN9 hX9 hb9x hb9 hN10 hX10 hb10 hne9 hbo x0 x1 x2 x3 x4 x5 x6
          go_upto_region 30 with fail
          have hT1 := HT.out.1
          have hT2 := HT.out.2.1
          have hT3 := HT.out.2.2
          generalize ((((w9.setCell ⟨wdd.heap.size, 0, none⟩ (.int .u64 (wd (M ||| yS) 0))).setCell ⟨wdd.heap.size, 1, none⟩ (.int .u64 (wd (M ||| yS) 1))).setCell ⟨wdd.heap.size, 2, none⟩ (.int .u64 (wd (M ||| yS) 2))).setCell ⟨wdd.heap.size, 3, none⟩ (.int .u64 (wd (M ||| yS) 3))) = wc at hT1 hT2 hT3 ⊢
          have x1 := hT2.cell 1
          have x2 := hT2.cell 2
          have x3 := hT2.cell 3
          have x4 := hT2.cell 4
          simp at x1 x2 x3 x4
          have hby := rbytes_any yS wc
          unfold setV at hby
          simp only [HY.out.1, HY.out.2.1, HY.out.2.2.1, HY.out.2.2.2] at hby
          have HT2 := Hd (An hT1 (An hT2 hT3))
          clear hT1 hT2 hT3 n0 n1 n2 n3 nf HT
          go_wp2_with fail
          refine hby.mono ?_
          rintro e wb ⟨v', rfl, h1, h2⟩
          obtain ⟨ba, bc, rfl⟩ := own_shape h1
          have hBL := bitsL_len yS 256
          have hBM := fun b hb => bitsL_mem (M := yS) (n := 256) (b := b) hb
          obtain ⟨BT, hBT⟩ : ∃ BT, bitsL yS 256 = BT := ⟨_, rfl⟩
          rw [hBT] at h1 hBL hBM ⊢
          have HB := Hd (An h1 (An (HT2.out.1.below h2 HT2.out.1.lt) (An (HT2.out.2.1.below h2 HT2.out.2.1.lt) (An (HT2.out.2.2.trans (h2.mono HT2.out.2.2.size)) hBM))))
          clear h1 h2 hby x1 x2 x3 x4 hBT hBM
          go_wp2_with fail
          go_loopg [21] BT.length (fun m v21 wx => ∃ k : Nat, k <= BT.length /\ m = BT.length - k /\ v21 = .int .i64 (k : Int) /\ Below wb.heap.size wb wx)
          case atStart => exact ⟨0, Nat.zero_le _, rfl, rfl, Below.refl _ _⟩
          case round =>
           obtain ⟨k, hk, hmk, rfl, hbk⟩ := hrel
           by_cases hkl : k < BT.length
           ·obtain ⟨c, hc⟩ : ∃ c, BT[k]? = some c := ⟨_, List.getElem?_eq_getElem hkl⟩
            obtain ⟨bb, bcap, hbv, _⟩ := own_some HB.out.1 (by omega)
            injection hbv with e1 e2 e3
            subst e1
            obtain ⟨hc1, hc2⟩ := HB.out.2.2.2.2 c (List.mem_of_getElem? hc)
            have b0 : wr.cell? ⟨bb, k, none⟩ = some (.int .u8 (c : Int)) := by have h := own_cellK encB_len (row_below HB.out.1 hbk) hc 0 rfl; simpa using h
            have hbw := HW.out.2.trans ((HB.out.2.2.2.1.trans (hbk.mono HB.out.2.2.2.1.size)).mono HW.out.2.size)
            have hst := HC0.out.2.2.2.2.1 c hc1 wr hbw
            rw [HK.out.2.2.2.1.byte Q.out.2.2.2.2.2.1 HM.out.2.1 hc2] at hst
            have hk0 : (0 : Int) <= (k : Int) := by omega
            have hk1 : (k : Int) < (BT.length : Int) := by omega
            have N := Hd (An hmk hbk)
            clear hmk hbk hbw hc hc2 e2 e3
            go_wp2_with fail
            refine hst.mono ?_
            rintro e w10 ⟨rfl, hb10⟩
            have HB10 := Hd (N.out.2.trans (hb10.mono N.out.2.size))
            have x6 := (HB.out.2.2.1.below HB10.out HB.out.2.2.1.lt).cell 6
            simp at x6
            clear hb10 hst b0
            go_wp2_with fail
            go_roundg (BT.length - (k + 1))
            case measure => have h1 := N.out.1; omega
            case rel => exact ⟨k + 1, by omega, rfl, rfl, HB10.out⟩
           ·obtain rfl : k = BT.length := by omega
            have HZ := Hd (An (HB.out.2.1.below hbk HB.out.2.1.lt) (HB.out.2.2.2.1.trans (hbk.mono HB.out.2.2.2.1.size)))
            clear hmk hbk
            go_wp2_with fail
            go_roundg (ED.length - (i + 1))
            case measure => have h1 := Q.out.1; omega
            case rel => exact ⟨i + 1, by omega, rfl, rfl, by rw [HSU.out, HM.out.1]; exact HZ.out.1, HZ.out.2⟩
        ·obtain rfl : i = ED.length := by omega
         rw [List.take_length] at hNB
         have KN := Hd (An hNB (An hbx (An hb1 hb0)))
         clear hNB hbx hb1 hb0 hsB hm
         obtain ⟨we, rfl⟩ : ∃ we : World, we = wr := ⟨_, rfl⟩
         go_wp2_with fail
         go_loopg [24] 256 (fun m v24 wx => ∃ c : Nat, c <= 256 /\ m = 256 - c /\ v24 = .int .i64 (c : Int) /\ Below we.heap.size we wx)
         case atStart => exact ⟨0, by omega, rfl, rfl, Below.refl _ _⟩
         case round =>
          obtain ⟨c, hc, hm, rfl, hbx⟩ := hrel
          have hb0 := KN.out.2.2.2.trans (hbx.mono KN.out.2.2.2.size)
          by_cases hcl : c < 256
          ·have hst := HC0.out.2.2.2.2.1 c hcl wr hb0
           obtain ⟨hf1, hf2⟩ := toF_ok (hasByte c) ED
           obtain ⟨tz, htz⟩ : ∃ tz, (toF (hasByte c) ED).1 = tz := ⟨_, rfl⟩
           obtain ⟨ob, hob⟩ : ∃ ob, (ED.any fun e => hasByte c e.1) = ob := ⟨_, rfl⟩
           rw [hf1, htz, hob] at hst
           simp only at hst
           rw [hob, htz] at hf2
           have hbt : (nextF ED).testBit c = ob := by rw [nextF_any]; exact hob
           have hc0 : (0 : Int) <= (c : Int) := by omega
           have hc1 : (c : Int) < 256 := by omega
           have N := Hd (An hm (An hbx (An hf2 hbt)))
           clear hm hbx hb0 hf1 hf2 htz hob hbt
           obtain ⟨wt, rfl⟩ : ∃ wt : World, wt = wr := ⟨_, rfl⟩
           go_wp2_with fail
           refine hst.mono ?_
           rintro e w10 ⟨rfl, hb10⟩
           have HB10 := Hd (N.out.2.1.trans (hb10.mono N.out.2.1.size))
           have hNB := KN.out.1.below HB10.out KN.out.1.lt
           have n0 := hNB.cell 0
           have n1 := hNB.cell 1
           have n2 := hNB.cell 2
           have n3 := hNB.cell 3
           simp [setC] at n0 n1 n2 n3
           have hha := rhas_any (nextF ED) c hcl w10
           rw [N.out.2.2.2] at hha
           clear hb10 hst hNB
           go_wp2_with fail
           refine hha.mono ?_
           rintro e w11 ⟨rfl, hb11⟩
           have HB11 := Hd (HB10.out.trans (hb11.mono HB10.out.size))
           clear hb11 hha n0 n1 n2 n3
           cases ob with
           | true =>
            go_wp2_with fail
            go_roundg (256 - (c + 1))
            case measure => have h1 := N.out.1; omega
            case rel => exact ⟨c + 1, by omega, rfl, rfl, HB11.out⟩
           | false =>
            have htz := N.out.2.2.1 rfl
            subst htz
            go_wp2_with fail
            go_roundg (256 - (c + 1))
            case measure => have h1 := N.out.1; omega
            case rel => exact ⟨c + 1, by omega, rfl, rfl, HB11.out⟩
          ·obtain rfl : c = 256 := by omega
           have hNB := KN.out.1.below hbx KN.out.1.lt
           have hb1 := KN.out.2.2.1.trans (hbx.mono KN.out.2.2.1.size)
           have hsB := H1.out.2.1.below hb1 H1.out.2.1.lt
           have KF := Hd (An hNB (An hsB hb0))
           clear hNB hb1 hsB hb0 hbx hm
           obtain ⟨wf, rfl⟩ : ∃ wf : World, wf = wr := ⟨_, rfl⟩
           go_wp2_with fail
           refine (HC0.out.2.2.2.2.2.2.1 wf KF.out.2.2).mono ?_
           rintro e wg ⟨ab, rfl, hAB, hab, hbg⟩
           have hb0g := KF.out.2.2.trans (hbg.mono KF.out.2.2.size)
           have hNB := KF.out.1.below hbg KF.out.1.lt
           have hsB := KF.out.2.1.below hbg KF.out.2.1.lt
           obtain ⟨m0, hm0⟩ : ∃ z, wd (nextF ED) 0 = z := ⟨_, rfl⟩
           obtain ⟨m1, hm1⟩ : ∃ z, wd (nextF ED) 1 = z := ⟨_, rfl⟩
           obtain ⟨m2, hm2⟩ : ∃ z, wd (nextF ED) 2 = z := ⟨_, rfl⟩
           obtain ⟨m3, hm3⟩ : ∃ z, wd (nextF ED) 3 = z := ⟨_, rfl⟩
           have upW : ∀ W, Below wg.drew.heap.size wg.drew W -> Below w.heap.size w W := fun W h => hb0g.trans (((show Below wg.heap.size wg wg.drew from (Below.refl _ _).drew).trans h).mono hb0g.size)
           have HNE := Hd (show ∀ W, Below wg.drew.heap.size wg.drew W -> Calls Tryz.prog 25 #[tv, .int .i64 (n : Int)] W fun e w' => e = .returned (.agg #[.int .u64 m0, .int .u64 m1, .int .u64 m2, .int .u64 m3]) /\ Below W.heap.size W w' from fun W h => by
            have h9 := HC0.out.2.2.2.2.2.1 W (upW W h)
            unfold setV at h9
            rw [hm0, hm1, hm2, hm3] at h9
            exact h9)
           have HGS := Hd (show ∀ (leave : Int) W, Below wg.drew.heap.size wg.drew W -> Calls Tryz.prog 49 #[.func (.func 61) #[] #[.pointer (some ⟨ab, 0, none⟩)], .slice ea ED.length ec, .int .i64 leave] W fun e w' => e = .returned (.bool true) /\ Below W.heap.size W w' from fun leave W h =>
            goesR_any (fun _ => True) (fun _ => True) ED _ (.slice ea ED.length ec) leave ab W (HC0.out.2.2.2.2.2.2.2 W (upW W h)) (HK.out.2.2.1.keep fun q _ hl => ⟨trivial, (upW W h).block q hl⟩) (by omega) (hAB.drew.below h hAB.lt))
           have HCC := Hd (show ∀ W, Below wg.drew.heap.size wg.drew W -> W.cell? ⟨w.heap.size + 1, 1, none⟩ = some (.slice ea ED.length ec) /\ W.cell? ⟨wdd.heap.size, 0, none⟩ = some (.int .u64 m0) /\ W.cell? ⟨wdd.heap.size, 1, none⟩ = some (.int .u64 m1) /\ W.cell? ⟨wdd.heap.size, 2, none⟩ = some (.int .u64 m2) /\ W.cell? ⟨wdd.heap.size, 3, none⟩ = some (.int .u64 m3) from fun W h => by
            have h1 := hsB.drew.below h hsB.lt
            have h2 := hNB.drew.below h hNB.lt
            exact ⟨h1.cell 1, hm0 ▸ h2.cell 0, hm1 ▸ h2.cell 1, hm2 ▸ h2.cell 2, hm3 ▸ h2.cell 3⟩)
           have HU := Hd upW
           clear hAB hab hbg hb0g hNB hsB hm0 hm1 hm2 hm3 upW
           go_wp2_with fail
           refine wp_region_concG 19 (stB (w.heap.size + 1) n tv (.func (.func 61) #[] #[.pointer (some ⟨ab, 0, none⟩)]) (m0, m1, m2, m3) ea ec ED.length) (fun A W => Below A.heap.size A W) (fun _ _ => True) [5, 13] (fun j => match j with | _ => true) (by kernel_rfl) (by kernel_rfl) (by kernel_rfl) (by kernel_rfl) (Below.refl _ _) trivial (fun h k => h.trans (k.mono h.size)) ⟨fun v w h => h, fun v w h => h, trivial⟩ ?_ ?_
           ·simp only [List.take_succ_cons, List.take_zero]
            refine ⟨?_, ?_, ?_, ?_, ?_, ?_, ?_, ?_, ?_, ?_, ?_, ?_, ?_, ?_, ?_, ?_, ?_, ?_, ?_, trivial⟩
            ·refine ⟨fun _ => ?_, fun h => absurd h (by decide)⟩
             intro L T W hG hJ hLs hLi dq fq vq K hK
             have h1 := fq 0 (by decide)
             simp at h1
             go_simp
             exact hK _ _ (Below.refl _ W) (fun j u _ _ _ h => h) trivial rfl
            ·refine ⟨fun _ => ?_, fun h => absurd h (by decide)⟩
             intro L T W hG hJ hLs hLi dq fq vq K hK
             have h1 := fq 2 (by decide)
             simp at h1
             go_simp
             exact hK _ _ (Below.refl _ W) (fun j u _ _ _ h => h) trivial rfl
            ·refine ⟨fun _ => ?_, fun h => absurd h (by decide)⟩
             intro L T W hG hJ hLs hLi dq fq vq K hK
             have h1 := vq ⟨0, .data⟩ (by simp) rfl 216 rfl
             simp only [stB] at h1
             have h2 := vq ⟨1, .data⟩ (by simp) rfl 217 rfl
             simp only [stB] at h2
             simp at h1 h2
             go_simp
             refine (HNE.out W hG).mono ?_
             rintro e W2 ⟨rfl, hb2⟩
             exact hK _ _ hb2 (fun j u _ _ _ h => h) trivial rfl
            ·refine ⟨fun _ => ?_, fun h => absurd h (by decide)⟩
             intro L T W hG hJ hLs hLi dq fq vq K hK
             have h1 := fq 15 (by decide)
             simp at h1
             obtain ⟨c1, x0, x1, x2, x3⟩ := HCC.out W hG
             go_simp
             exact hK _ _ (Below.refl _ W) (fun j u _ _ _ h => h) trivial rfl
            ·refine ⟨fun _ => ?_, fun h => absurd h (by decide)⟩
             intro L T W hG hJ hLs hLi dq fq vq K hK
             have h1 := vq ⟨2, .data⟩ (by simp) rfl 218 rfl
             simp only [stB] at h1
             have h2 := vq ⟨3, .data⟩ (by simp) rfl 219 rfl
             simp only [stB] at h2
             simp at h1 h2
             go_simp
             exact hK _ _ (Below.refl _ W) (fun j u _ _ _ h => h) trivial rfl
            ·refine ⟨fun _ => ?_, fun h => absurd h (by decide)⟩
             intro L T W hG hJ hLs hLi dq fq vq K hK
             have h1 := vq ⟨4, .data⟩ (by simp) rfl 220 rfl
             simp only [stB] at h1
             simp at h1
             go_simp
             exact hK _ _ (Below.refl _ W) (fun j u _ _ _ h => h) trivial rfl
            ·refine ⟨fun _ => ?_, fun h => absurd h (by decide)⟩
             intro L T W hG hJ hLs hLi dq fq vq K hK
             have h1 := fq 27 (by decide)
             simp at h1
             go_simp
             exact hK _ _ (Below.refl _ W) (fun j u _ _ _ h => h) trivial rfl
            ·refine ⟨fun _ => ?_, fun h => absurd h (by decide)⟩
             intro L T W hG hJ hLs hLi dq fq vq K hK
             have h1 := fq 7 (by decide)
             simp at h1
             go_simp
             exact hK _ _ (Below.refl _ W) (fun j u _ _ _ h => h) trivial rfl
            ·refine ⟨fun _ => ?_, fun h => absurd h (by decide)⟩
             intro L T W hG hJ hLs hLi dq fq vq K hK
             have h1 := vq ⟨7, .data⟩ (by simp) rfl 223 rfl
             simp only [stB] at h1
             simp at h1
             obtain ⟨c1, x0, x1, x2, x3⟩ := HCC.out W hG
             go_simp
             exact hK _ _ (Below.refl _ W) (fun j u _ _ _ h => h) trivial rfl
            ·refine ⟨fun _ => ?_, fun h => absurd h (by decide)⟩
             intro L T W hG hJ hLs hLi dq fq vq K hK
             have h1 := fq 2 (by decide)
             simp at h1
             go_simp
             exact hK _ _ (Below.refl _ W) (fun j u _ _ _ h => h) trivial rfl
            ·refine ⟨fun _ => ?_, fun h => absurd h (by decide)⟩
             intro L T W hG hJ hLs hLi dq fq vq K hK
             have h1 := vq ⟨9, .data⟩ (by simp) rfl 225 rfl
             simp only [stB] at h1
             simp at h1
             go_simp
             exact hK _ _ (Below.refl _ W) (fun j u _ _ _ h => h) trivial ⟨_, rfl⟩
            ·refine ⟨fun _ => ?_, fun h => absurd h (by decide)⟩
             intro L T W hG hJ hLs hLi dq fq vq K hK
             have h1 := vq ⟨6, .data⟩ (by simp) rfl 222 rfl
             simp only [stB] at h1
             have h2 := vq ⟨8, .data⟩ (by simp) rfl 224 rfl
             simp only [stB] at h2
             obtain ⟨r, h3⟩ := vq ⟨10, .data⟩ (by simp) rfl 226 rfl
             simp at h1 h2 h3
             go_simp
             refine (HGS.out r W hG).mono ?_
             rintro e W2 ⟨rfl, hb2⟩
             exact hK _ _ hb2 (fun j u _ _ _ h => h) trivial rfl
            ·refine ⟨fun _ => ?_, fun h => absurd h (by decide)⟩
             intro L T W hG hJ hLs hLi dq fq vq K hK
             have h1 := vq ⟨5, .data⟩ (by simp) rfl 221 rfl
             simp only [stB] at h1
             have h2 := vq ⟨11, .data⟩ (by simp) rfl 227 rfl
             simp only [stB] at h2
             simp at h1 h2
             go_simp
             exact hK _ _ (Below.refl _ W) (fun j u _ _ _ h => h) trivial rfl
            ·refine ⟨fun _ => ?_, fun h => absurd h (by decide)⟩
             intro L T W hG hJ hLs hLi dq fq vq K hK
             have h1 := vq ⟨12, .data⟩ (by simp) rfl 228 rfl
             simp only [stB] at h1
             simp at h1
             go_simp
             exact hK _ _ (Below.refl _ W) (fun j u _ _ _ h => h) trivial rfl
            ·refine ⟨fun _ => ?_, fun h => absurd h (by decide)⟩
             intro L T W hG hJ hLs hLi dq fq vq K hK
             have h1 := fq 27 (by decide)
             simp at h1
             go_simp
             exact hK _ _ (Below.refl _ W) (fun j u _ _ _ h => h) trivial rfl
            ·refine ⟨fun _ => ?_, fun h => absurd h (by decide)⟩
             intro L T W hG hJ hLs hLi dq fq vq K hK
             have h1 := fq 7 (by decide)
             simp at h1
             go_simp
             exact hK _ _ (Below.refl _ W) (fun j u _ _ _ h => h) trivial rfl
            ·refine ⟨fun _ => ?_, fun h => absurd h (by decide)⟩
             intro L T W hG hJ hLs hLi dq fq vq K hK
             have h1 := vq ⟨15, .data⟩ (by simp) rfl 231 rfl
             simp only [stB] at h1
             simp at h1
             obtain ⟨c1, x0, x1, x2, x3⟩ := HCC.out W hG
             go_simp
             exact hK _ _ (Below.refl _ W) (fun j u _ _ _ h => h) trivial rfl
            ·refine ⟨fun _ => ?_, fun h => absurd h (by decide)⟩
             intro L T W hG hJ hLs hLi dq fq vq K hK
             have h1 := vq ⟨14, .data⟩ (by simp) rfl 230 rfl
             simp only [stB] at h1
             have h2 := vq ⟨16, .data⟩ (by simp) rfl 232 rfl
             simp only [stB] at h2
             simp at h1 h2
             go_simp
             refine (HGS.out 0 W hG).mono ?_
             rintro e W2 ⟨rfl, hb2⟩
             exact hK _ _ hb2 (fun j u _ _ _ h => h) trivial rfl
            ·refine ⟨fun _ => ?_, fun h => absurd h (by decide)⟩
             intro L T W hG hJ hLs hLi dq fq vq K hK
             have h1 := vq ⟨13, .data⟩ (by simp) rfl 229 rfl
             simp only [stB] at h1
             have h2 := vq ⟨17, .data⟩ (by simp) rfl 233 rfl
             simp only [stB] at h2
             simp at h1 h2
             go_simp
             exact hK _ _ (Below.refl _ W) (fun j u _ _ _ h => h) trivial rfl
           ·intro f9 w9 hG hJe hR
            have e18 := hR 18 234 (by decide) rfl
            simp only [concDsts, List.take_succ_cons, List.take_zero, List.drop_succ_cons, List.drop_zero, List.filterMap_cons, List.filterMap_nil, List.foldl_cons, List.foldl_nil, List.setIfInBounds_toArray, List.set_cons_zero, List.set_cons_succ]
            simp only [stB] at e18
            rw [e18]
            clear e18 hR
            generalize f9 216 = v216
            generalize f9 217 = v217
            generalize f9 218 = v218
            generalize f9 219 = v219
            generalize f9 220 = v220
            generalize f9 221 = v221
            generalize f9 222 = v222
            generalize f9 223 = v223
            generalize f9 224 = v224
            generalize f9 225 = v225
            generalize f9 226 = v226
            generalize f9 227 = v227
            generalize f9 228 = v228
            generalize f9 229 = v229
            generalize f9 230 = v230
            generalize f9 231 = v231
            generalize f9 232 = v232
            generalize f9 233 = v233
            clear f9
            have hbz := HU.out w9 hG
            clear hG hJe
            go_wp2_with fail
            go_ret
            exact ⟨rfl, hbz⟩
end Go.Proofs.YtknpkndiflodbaaGreatDoor.Tb
namespace Go.Proofs.YtknpkndiflodbaaGreatDoor.Tb
open Go Go.RowKit Go.Proofs Mx
theorem make_no (w : World) (sv pv st fv lv : Value) (hchk : ∀ W, Below w.heap.size w W -> Calls Tryz.prog 14 #[.agg #[sv, pv, st, fv, lv]] W fun e w' => e = .returned (.int .i64 160) /\ Below W.heap.size W w') :
  Calls Tryz.prog 10 #[.agg #[sv, pv, st, fv, lv]] w fun e w' => e = .returned (.tuple #[.pointer none, .int .i64 160]) /\ Below w.heap.size w w' := by
 have H := Hd hchk
 clear hchk
 go_enter_defers Tryz.func10, Tryz.ntmps10
 go_wp2_with fail
 have hB0 : Blk (((w.alloc (.cells #[sv, pv, st, fv, lv] 39)).alloc (.cells #[.pointer none] 40)).alloc (.cells #[.int .i64 0] 41)) w.heap.size 39 #[sv, pv, st, fv, lv] := ((Blk.new _ _ _).alloc _).alloc _
 have hB1 : Blk (((w.alloc (.cells #[sv, pv, st, fv, lv] 39)).alloc (.cells #[.pointer none] 40)).alloc (.cells #[.int .i64 0] 41)) (w.heap.size + 1) 40 #[.pointer none] := (Blk.new_ (by simp) _ _).alloc _
 have hB2 : Blk (((w.alloc (.cells #[sv, pv, st, fv, lv] 39)).alloc (.cells #[.pointer none] 40)).alloc (.cells #[.int .i64 0] 41)) (w.heap.size + 1 + 1) 41 #[.int .i64 0] := Blk.new_ (by simp) _ _
 have hbl := (((Below.refl w.heap.size w).alloc (Nat.le_refl _) (.cells #[sv, pv, st, fv, lv] 39)).alloc (by simp) (.cells #[.pointer none] 40)).alloc (by simp; omega) (.cells #[.int .i64 0] 41)
 generalize (((w.alloc (.cells #[sv, pv, st, fv, lv] 39)).alloc (.cells #[.pointer none] 40)).alloc (.cells #[.int .i64 0] 41)) = W1 at hB0 hB1 hB2 hbl ⊢
 refine (H.out W1 hbl).mono ?_
 rintro e W2 ⟨rfl, hb2⟩
 have hta := hB1.below hb2 hB1.lt
 have her := hB2.below hb2 hB2.lt
 have K2 := Hd (An hta (An her (hbl.trans (hb2.mono hbl.size))))
 obtain ⟨ta0, taf⟩ := hta.facts1
 obtain ⟨er0, erf⟩ := her.facts1
 clear hB0 hB1 hB2 hbl hb2 hta her
 go_wp2_with fail
 refine ⟨.tuple #[.pointer none, .int .i64 160], res2 _ _ _ _ _ _ (by rfl) (by rfl) ((K2.out.1.set_ 0 (.pointer none)).far (p := ⟨w.heap.size + 1 + 1, 0, none⟩) (by simp) (.int .i64 160)) ((K2.out.2.1.far (p := ⟨w.heap.size + 1, 0, none⟩) (by simp) (.pointer none)).set_ 0 (.int .i64 160)), rfl, ?_⟩
 exact (K2.out.2.2.setCell (p := ⟨w.heap.size + 1, 0, none⟩) (by simp) _).setCell (p := ⟨w.heap.size + 1 + 1, 0, none⟩) (by simp; omega) _
theorem r9make_no (C : Nat) (w : World) (sv pv st fv lv : Value) (hchk : ∀ W, Below w.heap.size w W -> Calls Tryz.prog 44 #[.agg #[sv, pv, st, fv, lv]] W fun e w' => e = .returned (.int .i64 160) /\ Below W.heap.size W w') :
  Calls Tryz.prog 17 #[.agg #[sv, pv, st, fv, lv], .int .i64 (C : Int)] w fun e w' => e = .returned (.tuple #[.slice none 0 0, .int .i64 160]) /\ Below w.heap.size w w' := by
 have H := Hd hchk
 clear hchk
 go_enter Tryz.func17, Tryz.ntmps17
 go_wp2_with fail
 have hbl := (Below.refl w.heap.size w).alloc (Nat.le_refl _) (.cells #[sv, pv, st, fv, lv] 39)
 generalize (w.alloc (.cells #[sv, pv, st, fv, lv] 39)) = W1 at hbl ⊢
 refine (H.out W1 hbl).mono ?_
 rintro e W2 ⟨rfl, hb2⟩
 have K2 := Hd (hbl.trans (hb2.mono hbl.size))
 clear hbl hb2
 go_wp2_with fail
 go_ret2
 exact ⟨rfl, K2.out⟩
end Go.Proofs.YtknpkndiflodbaaGreatDoor.Tb
