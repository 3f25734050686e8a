/-
  WALKS: the document's Word.
  WALKS: words for stores laid one behind the other.
-/
import Derived.Test.YtacgnbelcpmjfaaGreatDoorRBase
import Derived.Test.YtacgnbelcpmjfaaGreatDoorRReads
import Derived.Test.YtacgnbelcpmjfaaGreatDoorRQuoteA
import Derived.Test.YtacgnbelcpmjfaaGreatDoorWord1
import Derived.Deep.RegionWith
set_option linter.unusedVariables false
set_option linter.unusedSimpArgs false
namespace Go.Proofs.YtacgnbelcpmjfaaGreatDoor.Dx
open Go.RowKit Go.Proofs Mx
/-- What the document's Word answers. -/
def WordR (k : Nat) (w : World) : Option (Wd × Nat) → Ending → World → Prop
  | some (v, n), e, w' => e = .returned (.tuple #[wdV (k : Int) v, .int .i64 ((k + n : Nat) : Int), .bool true]) ∧ Below w.heap.size w w'
  | none, e, w' => (∃ (v : Wd) (j : Int), e = .returned (.tuple #[wdV (k : Int) v, .int .i64 j, .bool false])) ∧ Below w.heap.size w w'
theorem WordR.yes {k n : Nat} {w w' : World} {x : Option (Wd × Nat)} {v : Wd} {u : Value} {j : Int} (h : x = some (v, n)) (hu : u = wdV (k : Int) v) (hj : j = ((k + n : Nat) : Int)) (hb : Below w.heap.size w w') : WordR k w x (.returned (.tuple #[u, .int .i64 j, .bool true])) w' := by
  subst h; subst hu; subst hj; exact ⟨rfl, hb⟩
theorem WordR.no {k : Nat} {w w' : World} {x : Option (Wd × Nat)} {v : Wd} {u : Value} {j : Int} (h : x = none) (hu : u = wdV (k : Int) v) (hb : Below w.heap.size w w') : WordR k w x (.returned (.tuple #[u, .int .i64 j, .bool false])) w' := by
  subst h; subst hu; exact ⟨⟨_, _, rfl⟩, hb⟩
theorem results_cell_tmp2 {fn : Func} {p u u2 : Tmp} {ty : TypeId} (h : fn.results = #[.cell p ty, .tmp u, .tmp u2]) (tmps : Array Value) (P : Program) (w : World) :
    (results fn tmps).run P w =
      ((asAddr (tmps.getD p undef)).run P w).andThen fun a w₁ => ((loadVar ty a).run P w₁).andThen fun v w₂ => .ok (.tuple #[v, tmps.getD u undef, tmps.getD u2 undef]) w₂ := by
  simp only [results, h]
  simp [Sem.run_bind, Result.andThen]
theorem results_cell_tmp2_row {P : Program} {fn : Func} {p u u2 : Tmp} {ty : TypeId} (h : fn.results = #[.cell p ty, .tmp u, .tmp u2]) (tmps : Array Value) (w : World) (g : Nat) (t : TypeId) (cs : Array Value) (d : TypeDesc) (v v2 : Value)
    (hp : tmps.getD p undef = .pointer (some ⟨g, 0, none⟩)) (hv : tmps.getD u undef = v) (hv2 : tmps.getD u2 undef = v2) (hg : Blk w g t cs)
    (hu : P.underlying ty = some d) (hd : (match d with | .struct _ | .array _ _ => true | _ => false) = true) (hi : (P.info? ty).map (·.size) = some cs.size) :
    (results fn tmps).run P w = .ok (.tuple #[.agg cs, v, v2]) w := by
  have hg' : w.heap[g]? = some (.cells cs t (0, 0)) := hg
  rw [results_cell_tmp2 h, hp, hv, hv2]
  simp [asAddr, run_loadVar_row w g t ty cs (0, 0) d hg' hu hd hi, Sem.run_pure, Result.andThen]
theorem sign_has (c : UInt8) : (⟨#[59, 46, 61, 44, 40, 41, 123, 125, 62, 63, 42, 43]⟩ : ByteArray).data.toList.contains c = signB (c.toNat : Int) :=
  all_bytes (p := fun c => (⟨#[59, 46, 61, 44, 40, 41, 123, 125, 62, 63, 42, 43]⟩ : ByteArray).data.toList.contains c = signB (c.toNat : Int)) (by decide +kernel) c
theorem class0 (c : UInt8) (h : classI (c.toNat : Int) = 0) : letterB (c.toNat : Int) = false ∧ digitB (c.toNat : Int) = false ∧ c ≠ 34 ∧ c ≠ 91 ∧ signB (c.toNat : Int) = false := by
  revert h
  exact all_bytes (p := fun c => classI (c.toNat : Int) = 0 → letterB (c.toNat : Int) = false ∧ digitB (c.toNat : Int) = false ∧ c ≠ 34 ∧ c ≠ 91 ∧ signB (c.toNat : Int) = false) (by decide +kernel) c
set_option maxRecDepth 100000 in
set_option maxHeartbeats 4000000 in
theorem rword_other (s : ByteArray) (k : Nat) (hs : s.size ≤ 400000000) (hk : k < s.size) (c : UInt8) (hc : s[k] = c) (hcl : classI (c.toNat : Int) = 0) (w : World) :
    Calls Tryz.prog 20 #[.string s, .int .i64 (k : Int)] w (WordR k w (wordF (s.data.toList.drop k))) := by
  obtain ⟨k1, k2, k3, k4, k5⟩ := class0 c hcl
  have hlet := letter_any (c.toNat : Int)
  have hdig := digit_any (c.toNat : Int)
  have hin := rin_any c ⟨#[59, 46, 61, 44, 40, 41, 123, 125, 62, 63, 42, 43]⟩ (by decide)
  rw [sign_has, k5] at hin
  rw [k1] at hlet
  rw [k2] at hdig
  have n34 : ((c.toNat : Int) == 34) = false := u8_beq c 34 k3
  have n91 : ((c.toNat : Int) == 91) = false := u8_beq c 91 k4
  have HW := Lib.hid (show wordF (s.data.toList.drop k) = none by
    rw [drop_cons s k hk, hc, wordF, hcl]
    rw [if_neg (by decide), if_neg (by decide), if_neg (by decide), if_neg (by decide), if_neg (by decide)])
  have hlt : (k : Int) < (s.size : Int) := by omega
  have hk0 : (0 : Int) ≤ (k : Int) := by omega
  have hres : Blk ((w.alloc (.cells #[.int .i64 0, .int .i64 0, .string ⟨#[]⟩, .int .u64 0, .int .u64 0, .int .u64 0, .int .u64 0, .int .i64 0] 35)).alloc (.cells #[.int .i64 0, .int .i64 (k : Int), .string ⟨#[]⟩, .int .u64 0, .int .u64 0, .int .u64 0, .int .u64 0, .int .i64 0] 35)) w.heap.size 35 zeroC := (Blk.new_ rfl _ _).alloc _
  have HB := Lib.hid (And.intro hres (((Below.refl w.heap.size w).alloc (Nat.le_refl _) (.cells #[.int .i64 0, .int .i64 0, .string ⟨#[]⟩, .int .u64 0, .int .u64 0, .int .u64 0, .int .u64 0, .int .i64 0] 35)).alloc (by simp) (.cells #[.int .i64 0, .int .i64 (k : Int), .string ⟨#[]⟩, .int .u64 0, .int .u64 0, .int .u64 0, .int .u64 0, .int .i64 0] 35)))
  clear k1 k2 k3 k4 k5 hcl hres
  go_enter Tryz.func20, Tryz.ntmps20
  go_wp2_with fail
  refine (hlet _).mono ?_
  rintro e w2 ⟨rfl, rfl⟩
  go_wp2_with fail
  refine (hdig _).mono ?_
  rintro e w2 ⟨rfl, rfl⟩
  go_wp2_with fail
  refine (hin _).mono ?_
  rintro e w2 ⟨rfl, rfl⟩
  go_wp2_with fail
  have hbk : Blk ((w.alloc (.cells #[.int .i64 0, .int .i64 (k : Int), .string ⟨#[]⟩, .int .u64 0, .int .u64 0, .int .u64 0, .int .u64 0, .int .i64 0] 35)).alloc (.cells #[.int .i64 0, .int .i64 (k : Int), .string ⟨#[]⟩, .int .u64 0, .int .u64 0, .int .u64 0, .int .u64 0, .int .i64 0] 35)) w.heap.size 35 #[.int .i64 0, .int .i64 (k : Int), .string ⟨#[]⟩, .int .u64 0, .int .u64 0, .int .u64 0, .int .u64 0, .int .i64 0] := (Blk.new_ rfl _ _).alloc _
  refine bodyPost_ret (results_cell_tmp2_row (by rfl) _ _ w.heap.size 35 _ _ _ _ (by rfl) (by rfl) (by rfl) hbk Tryz.underlying35 (by rfl) (by kernel_rfl)) rfl ?_
  refine WordR.no HW.out (v := ⟨0, [], 0, 0⟩) ?_ (((Below.refl w.heap.size w).alloc (Nat.le_refl _) _).alloc (by simp) _)
  simp [wdV, wdC, wd_zero]
theorem class5 (c : UInt8) (h : classI (c.toNat : Int) = 5) : letterB (c.toNat : Int) = false ∧ digitB (c.toNat : Int) = false ∧ c ≠ 34 ∧ c ≠ 91 ∧ signB (c.toNat : Int) = true := by
  revert h
  exact all_bytes (p := fun c => classI (c.toNat : Int) = 5 → letterB (c.toNat : Int) = false ∧ digitB (c.toNat : Int) = false ∧ c ≠ 34 ∧ c ≠ 91 ∧ signB (c.toNat : Int) = true) (by decide +kernel) c
set_option maxRecDepth 100000 in
set_option maxHeartbeats 4000000 in
theorem rword_sign (s : ByteArray) (k : Nat) (hs : s.size ≤ 400000000) (hk : k < s.size) (c : UInt8) (hc : s[k] = c) (hcl : classI (c.toNat : Int) = 5) (w : World) :
    Calls Tryz.prog 20 #[.string s, .int .i64 (k : Int)] w (WordR k w (wordF (s.data.toList.drop k))) := by
  obtain ⟨k1, k2, k3, k4, k5⟩ := class5 c hcl
  have hlet := letter_any (c.toNat : Int)
  have hdig := digit_any (c.toNat : Int)
  have hin := rin_any c ⟨#[59, 46, 61, 44, 40, 41, 123, 125, 62, 63, 42, 43]⟩ (by decide)
  rw [sign_has, k5] at hin
  rw [k1] at hlet
  rw [k2] at hdig
  have n34 : ((c.toNat : Int) == 34) = false := u8_beq c 34 k3
  have n91 : ((c.toNat : Int) == 91) = false := u8_beq c 91 k4
  have HW := Lib.hid (show wordF (s.data.toList.drop k) = some (⟨5, [c], 0, 0⟩, 1) by
    rw [drop_cons s k hk, hc, wordF, hcl]
    rw [if_neg (by decide), if_neg (by decide), if_neg (by decide), if_neg (by decide), if_pos (by decide)])
  have hso := slice_one s k hk
  rw [hc] at hso
  have hk1 : (k : Int) + 1 ≤ (s.size : Int) := by omega
  have hlt : (k : Int) < (s.size : Int) := by omega
  have hk0 : (0 : Int) ≤ (k : Int) := by omega
  have hres : Blk ((w.alloc (.cells #[.int .i64 0, .int .i64 0, .string ⟨#[]⟩, .int .u64 0, .int .u64 0, .int .u64 0, .int .u64 0, .int .i64 0] 35)).alloc (.cells #[.int .i64 0, .int .i64 (k : Int), .string ⟨#[]⟩, .int .u64 0, .int .u64 0, .int .u64 0, .int .u64 0, .int .i64 0] 35)) w.heap.size 35 zeroC := (Blk.new_ rfl _ _).alloc _
  have HB := Lib.hid (And.intro hres (((Below.refl w.heap.size w).alloc (Nat.le_refl _) (.cells #[.int .i64 0, .int .i64 0, .string ⟨#[]⟩, .int .u64 0, .int .u64 0, .int .u64 0, .int .u64 0, .int .i64 0] 35)).alloc (by simp) (.cells #[.int .i64 0, .int .i64 (k : Int), .string ⟨#[]⟩, .int .u64 0, .int .u64 0, .int .u64 0, .int .u64 0, .int .i64 0] 35)))
  clear k1 k2 k3 k4 k5 hcl hres
  go_enter Tryz.func20, Tryz.ntmps20
  go_wp2_with fail
  refine (hlet _).mono ?_
  rintro e w2 ⟨rfl, rfl⟩
  go_wp2_with fail
  refine (hdig _).mono ?_
  rintro e w2 ⟨rfl, rfl⟩
  go_wp2_with fail
  refine (hin _).mono ?_
  rintro e w2 ⟨rfl, rfl⟩
  go_wp2_with fail
  have hbk : Blk ((w.alloc (.cells #[.int .i64 5, .int .i64 (k : Int), .string ⟨#[c]⟩, .int .u64 0, .int .u64 0, .int .u64 0, .int .u64 0, .int .i64 0] 35)).alloc (.cells #[.int .i64 5, .int .i64 (k : Int), .string ⟨#[c]⟩, .int .u64 0, .int .u64 0, .int .u64 0, .int .u64 0, .int .i64 0] 35)).drew w.heap.size 35 #[.int .i64 5, .int .i64 (k : Int), .string ⟨#[c]⟩, .int .u64 0, .int .u64 0, .int .u64 0, .int .u64 0, .int .i64 0] := ((Blk.new_ rfl _ _).alloc _).drew
  go_region
  all_goals
    go_wp2_with fail
    refine bodyPost_ret (results_cell_tmp2_row (by rfl) _ _ w.heap.size 35 _ _ _ _ (by rfl) (by rfl) (by rfl) hbk Tryz.underlying35 (by rfl) (by kernel_rfl)) rfl ?_
    refine WordR.yes (v := ⟨5, [c], 0, 0⟩) (n := 1) HW.out ?_ (by omega) ((((Below.refl w.heap.size w).alloc (Nat.le_refl _) _).alloc (by simp) _).drew)
    simp [wdV, wdC, wd_zero]
end Go.Proofs.YtacgnbelcpmjfaaGreatDoor.Dx
set_option linter.unusedVariables false
namespace Go.Proofs.YtacgnbelcpmjfaaGreatDoor.Dx
open Go.RowKit Go.Proofs Mx
theorem Blk.eq {w : World} {g : Nat} {t : TypeId} {cs cs' : Array Value} (h : Blk w g t cs') (e : cs' = cs) : Blk w g t cs := e ▸ h
end Go.Proofs.YtacgnbelcpmjfaaGreatDoor.Dx
