/-
  WALKS of package sets: Make.
-/
import Derived.Test.YtacgnbelcpmjfaaGreatDoorSets
import Derived.Laws.ResultCell
set_option linter.unusedVariables false
set_option linter.unusedSimpArgs false
namespace Go.Proofs.YtacgnbelcpmjfaaGreatDoor.Dx
open Go.RowKit Go.Proofs Mx

/-- n bits from a on are set besides. -/
def fillM : Nat → Nat → Nat → Nat
  | M, _, 0 => M
  | M, a, n + 1 => fillM (M ||| 2 ^ a) (a + 1) n
def makeF : Nat → List (UInt8 × UInt8) → Option Nat
  | M, [] => some M
  | M, (a, b) :: t => if b.toNat < a.toNat then none else makeF (fillM M a.toNat (b.toNat - a.toNat + 1)) t
/-- The ranges' cells. -/
def RangesAt (w : World) (v : Value) (l : List (UInt8 × UInt8)) : Prop :=
  (v = .slice none 0 0 ∧ l = []) ∨ ∃ g cap, v = .slice (some ⟨g, 0, none⟩) l.length cap ∧ g < w.heap.size ∧
    ∀ k a b, l[k]? = some (a, b) → w.cell? ⟨g, k * 2, none⟩ = some (.int .u8 (a.toNat : Int)) ∧ w.cell? ⟨g, k * 2 + 1, none⟩ = some (.int .u8 (b.toNat : Int))
def MakeOut : Option Nat → Ending → Prop
  | some M, e => e = .returned (.tuple #[setV M, .int .i64 0])
  | none, e => e = .returned (.tuple #[setV 0, .int .i64 4])

theorem and63 (x : Nat) (hx : x < 256) : bits .and .i64 (x : Int) 63 = ((x % 64 : Nat) : Int) := by
  have h : (List.range 256).all (fun x => decide (bits .and .i64 (x : Int) 63 = ((x % 64 : Nat) : Int))) = true := by decide +kernel
  simpa using List.all_eq_true.1 h x (by simp; omega)
theorem results_cell_tmp_row {P : Program} {fn : Func} {p u : Tmp} {ty : TypeId} (h : fn.results = #[.cell p ty, .tmp u]) (tmps : Array Value) (w : World) (g : Nat) (t : TypeId) (cs : Array Value) (d : TypeDesc) (v : Value)
    (hp : tmps.getD p undef = .pointer (some ⟨g, 0, none⟩)) (hv : tmps.getD u undef = v) (hg : Blk w g t cs)
    (hu : P.underlying ty = some d) (hd : (match d with | .struct _ | .array _ _ => true | _ => false) = true) (hi : (P.info? ty).map (·.size) = some cs.size) :
    (results fn tmps).run P w = .ok (.tuple #[.agg cs, v]) w := by
  have hg' : w.heap[g]? = some (.cells cs t (0, 0)) := hg
  rw [results_cell_tmp h, hp]
  simp [asAddr, run_loadVar_row w g t ty cs (0, 0) d hg' hu hd hi, Sem.run_pure, Result.andThen, ← hv]
theorem wrap_pow (m : Nat) (hm : m < 64) : IntKind.u64.wrap ((2 : Int) ^ m) = 2 ^ m := by
  have h : (List.range 64).all (fun m => decide (IntKind.u64.wrap ((2 : Int) ^ m) = 2 ^ m)) = true := by decide +kernel
  simpa using List.all_eq_true.1 h m (by simp; omega)
theorem setC_bit (N x m q : Nat) (hx : x < 256) (hq : x / 64 = q) (hm : x % 64 = m) :
    (setC N).setIfInBounds q (.int .u64 (bits .or .u64 (wd N q) (IntKind.u64.wrap (2 ^ m)))) = setC (N ||| 2 ^ x) := by
  subst hm
  rw [wrap_pow _ (by omega)]
  have h : ∀ j, j < 4 → wd (N ||| 2 ^ x) j = if j = q then bits .or .u64 (wd N j) (2 ^ (x % 64)) else wd N j := fun j hj => by rw [wd_set N x j hx hj, hq]
  unfold setC
  rw [h 0 (by omega), h 1 (by omega), h 2 (by omega), h 3 (by omega)]
  rcases (show q = 0 ∨ q = 1 ∨ q = 2 ∨ q = 3 by omega) with rfl | rfl | rfl | rfl <;> rfl
set_option maxRecDepth 100000 in
set_option maxHeartbeats 1000000 in
theorem make_some (g cap : Nat) (l : List (UInt8 × UInt8)) (hl : l.length ≤ 1000000000) (w : World) (hg : g < w.heap.size)
    (hc : ∀ k a b, l[k]? = some (a, b) → w.cell? ⟨g, k * 2, none⟩ = some (.int .u8 (a.toNat : Int)) ∧ w.cell? ⟨g, k * 2 + 1, none⟩ = some (.int .u8 (b.toNat : Int))) :
    Calls Tryz.prog 102 #[.slice (some ⟨g, 0, none⟩) l.length cap] w fun e w' => MakeOut (makeF 0 l) e ∧ Below w.heap.size w w' := by
  have HC := Lib.hid hc
  clear hc
  go_enter Tryz.func102, Tryz.ntmps102
  go_wp2_with fail
  have hB0 : Blk ((w.alloc (.cells #[.int .u64 0, .int .u64 0, .int .u64 0, .int .u64 0] 33)).alloc (.cells #[.int .u64 0, .int .u64 0, .int .u64 0, .int .u64 0] 33)) w.heap.size 33 (setC 0) :=
    (Blk.new_ rfl _ _).alloc _
  have hB1 : Blk ((w.alloc (.cells #[.int .u64 0, .int .u64 0, .int .u64 0, .int .u64 0] 33)).alloc (.cells #[.int .u64 0, .int .u64 0, .int .u64 0, .int .u64 0] 33)) (w.heap.size + 1) 33 (setC 0) :=
    Blk.new_ (by simp) _ _
  have hbl := ((Below.refl w.heap.size w).alloc (Nat.le_refl _) (.cells #[.int .u64 0, .int .u64 0, .int .u64 0, .int .u64 0] 33)).alloc (by simp) (.cells #[.int .u64 0, .int .u64 0, .int .u64 0, .int .u64 0] 33)
  generalize ((w.alloc (.cells #[.int .u64 0, .int .u64 0, .int .u64 0, .int .u64 0] 33)).alloc (.cells #[.int .u64 0, .int .u64 0, .int .u64 0, .int .u64 0] 33)) = w2 at hB0 hB1 hbl ⊢
  go_loopg [10] l.length (fun m v wr => ∃ (i M : Nat), i ≤ l.length ∧ m = l.length - i ∧ v = .int .i64 i ∧ Blk wr w.heap.size 33 (setC 0) ∧ Blk wr (w.heap.size + 1) 33 (setC M) ∧ Below w.heap.size w wr ∧ makeF 0 l = makeF M (l.drop i))
  case atStart => exact ⟨0, 0, by omega, rfl, rfl, hB0, hB1, hbl, by rw [List.drop_zero]⟩
  case round =>
    obtain ⟨i, M, hi, hm, rfl, h0, h1, h2, hmk⟩ := hrel
    have A := Lib.hid (And.intro hm (And.intro h0 (And.intro h1 (And.intro h2 hmk))))
    obtain ⟨e0, e1, e2, e3, ef⟩ := h0.facts4
    obtain ⟨f0, f1, f2, f3, ff⟩ := h1.facts4
    have hs2 := h1.lt
    clear hB0 hB1 hbl hm hmk
    by_cases hlt : i < l.length
    · obtain ⟨ab, hab⟩ : ∃ ab, l[i] = ab := ⟨_, rfl⟩
      obtain ⟨a, b⟩ := ab
      obtain ⟨ca, cb⟩ := HC.out i a b (by rw [List.getElem?_eq_getElem hlt, hab])
      have ca' := (h2.cell (p := ⟨g, i * 2, none⟩) hg).trans ca
      have cb' := (h2.cell (p := ⟨g, i * 2 + 1, none⟩) hg).trans cb
      have HD := Lib.hid (show l.drop i = (a, b) :: l.drop (i + 1) by rw [List.drop_eq_getElem_cons hlt, hab])
      have hlt' : (i : Int) < (l.length : Int) := by omega
      have hi0 : (0 : Int) ≤ (i : Int) := by omega
      have ha := a.toNat_lt
      have hb := b.toNat_lt
      have hn := Blk.new wr 94 #[.int .u8 (a.toNat : Int), .int .u8 (b.toNat : Int)]
      have g0 := h0.alloc (.cells #[.int .u8 (a.toNat : Int), .int .u8 (b.toNat : Int)] 94)
      have g1 := h1.alloc (.cells #[.int .u8 (a.toNat : Int), .int .u8 (b.toNat : Int)] 94)
      have g2 := h2.alloc h2.size (.cells #[.int .u8 (a.toNat : Int), .int .u8 (b.toNat : Int)] 94)
      obtain ⟨e4, e5, e6, e7, eg⟩ := g0.facts4
      have G := Lib.hid (And.intro hn (And.intro g0 (And.intro g1 g2)))
      clear h0 h1 hn g0 g1 h2 ca cb hab
      by_cases hba : b.toNat < a.toNat
      · have hba' : (b.toNat : Int) < (a.toNat : Int) := by omega
        have hM : makeF 0 l = none := by rw [A.out.2.2.2.2, HD.out, makeF, if_pos hba]
        have HM := Lib.hid hM
        clear hM hba
        go_wp2_with fail
        have hbk := (((G.out.2.1.set_ 0 (.int .u64 0)).set_ 1 (.int .u64 0)).set_ 2 (.int .u64 0)).set_ 3 (.int .u64 0)
        refine bodyPost_ret (results_cell_tmp_row (by rfl) _ _ w.heap.size 33 _ _ _ (by rfl) (by rfl) hbk Tryz.underlying33 (by rfl) (by kernel_rfl)) rfl ?_
        rw [HM.out]
        refine ⟨rfl, (((G.out.2.2.2.setCell ?_ _).setCell ?_ _).setCell ?_ _).setCell ?_ _⟩ <;> simp
      · have hba' : ¬ (b.toNat : Int) < (a.toNat : Int) := by omega
        have hab : a.toNat ≤ b.toNat := by omega
        obtain ⟨C, hC⟩ : ∃ C, wr.heap.size = C := ⟨_, rfl⟩
        go_wp2_with fail
        rw [hC] at G
        generalize (wr.alloc (.cells #[.int .u8 (a.toNat : Int), .int .u8 (b.toNat : Int)] 94)) = w3 at G ⊢
        go_loopg [7] (b.toNat + 1 - a.toNat) (fun m v wx => ∃ (x N : Nat), a.toNat ≤ x ∧ x ≤ b.toNat + 1 ∧ m = b.toNat + 1 - x ∧ v = .int .i64 x ∧ Blk wx w.heap.size 33 (setC 0) ∧ Blk wx (w.heap.size + 1) 33 (setC N) ∧ Blk wx C 94 #[.int .u8 (a.toNat : Int), .int .u8 (b.toNat : Int)] ∧ Below w.heap.size w wx ∧ fillM M a.toNat (b.toNat + 1 - a.toNat) = fillM N x (b.toNat + 1 - x))
        case atStart => exact ⟨a.toNat, M, by omega, by omega, rfl, rfl, G.out.2.1, G.out.2.2.1, G.out.1, G.out.2.2.2, rfl⟩
        case round =>
          obtain ⟨x, N, hax, hxb, hm2, rfl, j0, j1, j2, j3, hfl⟩ := hrel
          clear e0 e1 e2 e3 ef f0 f1 f2 f3 ff e4 e5 e6 e7 eg ca' cb'
          obtain ⟨r0, r1, rf⟩ := j2.facts2
          have J := Lib.hid (And.intro hm2 (And.intro j0 (And.intro j1 (And.intro j2 (And.intro j3 hfl)))))
          obtain ⟨s0, s1, s2, s3, sf⟩ := j1.facts4
          clear hm2 j0 j1 j2 j3 hfl
          by_cases hx : x ≤ b.toNat
          · have hx' : (x : Int) ≤ (b.toNat : Int) := by omega
            have hx0 : (0 : Int) ≤ (x : Int) := by omega
            obtain ⟨m, hmx⟩ : ∃ m : Nat, x % 64 = m := ⟨_, rfl⟩
            have hm64 : m < 64 := by omega
            have hand : bits .and .i64 (x : Int) 63 = (m : Int) := by rw [and63 x (by omega), hmx]
            have hm0 : (0 : Int) ≤ (m : Int) := by omega
            have hm63 : (m : Int) < 64 := by omega
            rcases (show x / 64 = 0 ∨ x / 64 = 1 ∨ x / 64 = 2 ∨ x / 64 = 3 by omega) with hq | hq | hq | hq
            · have hq' : (x : Int) / 64 = 0 := by omega
              go_wp2_with fail
              go_region
              go_wp2_with fail
              go_roundg (b.toNat + 1 - (x + 1))
              case measure => have := J.out.1; omega
              case rel =>
                obtain ⟨hm2, j0, j1, j2, j3, hfl⟩ := J.out
                have j1' := j1.set_ 0 (.int .u64 (bits .or .u64 (wd N 0) (IntKind.u64.wrap (2 ^ m))))
                rw [setC_bit N x m 0 (by omega) hq hmx] at j1'
                refine ⟨x + 1, N ||| 2 ^ x, by omega, by omega, rfl, rfl, (j0.far (p := ⟨w.heap.size + 1, 0, none⟩) (by simp) _).drew, j1'.drew, (j2.far (p := ⟨w.heap.size + 1, 0, none⟩) (by simp; omega) _).drew, (j3.setCell (p := ⟨w.heap.size + 1, 0, none⟩) (by simp) _).drew, ?_⟩
                rw [hfl, show b.toNat + 1 - x = (b.toNat - x) + 1 by omega, fillM, show b.toNat + 1 - (x + 1) = b.toNat - x by omega]
            · have hq' : (x : Int) / 64 = 1 := by omega
              go_wp2_with fail
              go_region
              go_wp2_with fail
              go_roundg (b.toNat + 1 - (x + 1))
              case measure => have := J.out.1; omega
              case rel =>
                obtain ⟨hm2, j0, j1, j2, j3, hfl⟩ := J.out
                have j1' := j1.set_ 1 (.int .u64 (bits .or .u64 (wd N 1) (IntKind.u64.wrap (2 ^ m))))
                rw [setC_bit N x m 1 (by omega) hq hmx] at j1'
                refine ⟨x + 1, N ||| 2 ^ x, by omega, by omega, rfl, rfl, (j0.far (p := ⟨w.heap.size + 1, 1, none⟩) (by simp) _).drew, j1'.drew, (j2.far (p := ⟨w.heap.size + 1, 1, none⟩) (by simp; omega) _).drew, (j3.setCell (p := ⟨w.heap.size + 1, 1, none⟩) (by simp) _).drew, ?_⟩
                rw [hfl, show b.toNat + 1 - x = (b.toNat - x) + 1 by omega, fillM, show b.toNat + 1 - (x + 1) = b.toNat - x by omega]
            · have hq' : (x : Int) / 64 = 2 := by omega
              go_wp2_with fail
              go_region
              go_wp2_with fail
              go_roundg (b.toNat + 1 - (x + 1))
              case measure => have := J.out.1; omega
              case rel =>
                obtain ⟨hm2, j0, j1, j2, j3, hfl⟩ := J.out
                have j1' := j1.set_ 2 (.int .u64 (bits .or .u64 (wd N 2) (IntKind.u64.wrap (2 ^ m))))
                rw [setC_bit N x m 2 (by omega) hq hmx] at j1'
                refine ⟨x + 1, N ||| 2 ^ x, by omega, by omega, rfl, rfl, (j0.far (p := ⟨w.heap.size + 1, 2, none⟩) (by simp) _).drew, j1'.drew, (j2.far (p := ⟨w.heap.size + 1, 2, none⟩) (by simp; omega) _).drew, (j3.setCell (p := ⟨w.heap.size + 1, 2, none⟩) (by simp) _).drew, ?_⟩
                rw [hfl, show b.toNat + 1 - x = (b.toNat - x) + 1 by omega, fillM, show b.toNat + 1 - (x + 1) = b.toNat - x by omega]
            · have hq' : (x : Int) / 64 = 3 := by omega
              go_wp2_with fail
              go_region
              go_wp2_with fail
              go_roundg (b.toNat + 1 - (x + 1))
              case measure => have := J.out.1; omega
              case rel =>
                obtain ⟨hm2, j0, j1, j2, j3, hfl⟩ := J.out
                have j1' := j1.set_ 3 (.int .u64 (bits .or .u64 (wd N 3) (IntKind.u64.wrap (2 ^ m))))
                rw [setC_bit N x m 3 (by omega) hq hmx] at j1'
                refine ⟨x + 1, N ||| 2 ^ x, by omega, by omega, rfl, rfl, (j0.far (p := ⟨w.heap.size + 1, 3, none⟩) (by simp) _).drew, j1'.drew, (j2.far (p := ⟨w.heap.size + 1, 3, none⟩) (by simp; omega) _).drew, (j3.setCell (p := ⟨w.heap.size + 1, 3, none⟩) (by simp) _).drew, ?_⟩
                rw [hfl, show b.toNat + 1 - x = (b.toNat - x) + 1 by omega, fillM, show b.toNat + 1 - (x + 1) = b.toNat - x by omega]
          · have hx' : ¬ (x : Int) ≤ (b.toNat : Int) := by omega
            go_wp2_with fail
            go_roundg (l.length - (i + 1))
            case measure => have := A.out.1; omega
            case rel =>
              obtain ⟨hm2, j0, j1, j2, j3, hfl⟩ := J.out
              refine ⟨i + 1, N, by omega, rfl, rfl, j0, j1, j3, ?_⟩
              rw [A.out.2.2.2.2, HD.out, makeF, if_neg hba, show b.toNat - a.toNat + 1 = b.toNat + 1 - a.toNat by omega, hfl, show b.toNat + 1 - x = 0 by omega, fillM]
    · have hie : i = l.length := by omega
      subst hie
      have hM : makeF 0 l = some M := by rw [A.out.2.2.2.2, List.drop_length, makeF]
      have HM := Lib.hid hM
      clear hM h0 h1 h2
      go_wp2_with fail
      have hbk := (((A.out.2.1.set_ 0 (.int .u64 (wd M 0))).set_ 1 (.int .u64 (wd M 1))).set_ 2 (.int .u64 (wd M 2))).set_ 3 (.int .u64 (wd M 3))
      refine bodyPost_ret (results_cell_tmp_row (by rfl) _ _ w.heap.size 33 _ _ _ (by rfl) (by rfl) hbk Tryz.underlying33 (by rfl) (by kernel_rfl)) rfl ?_
      rw [HM.out]
      refine ⟨rfl, (((A.out.2.2.2.1.setCell ?_ _).setCell ?_ _).setCell ?_ _).setCell ?_ _⟩ <;> simp
end Go.Proofs.YtacgnbelcpmjfaaGreatDoor.Dx
