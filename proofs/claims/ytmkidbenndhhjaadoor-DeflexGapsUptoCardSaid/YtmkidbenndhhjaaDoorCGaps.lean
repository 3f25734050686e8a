/-
  DeflexGaps, where what it reads is of modest bulk: the card.
-/
import Derived.Test.YtmkidbenndhhjaaDoorDEnv
import Derived.Test.YtmkidbenndhhjaaDoorLawGaps
import Derived.Test.YtmkidbenndhhjaaDoorOpenU
import Derived.Deep.DeepHandedRow
import Derived.Deep.DeepWitnessRowRef
import Derived.JoinedCond
import Derived.Carry
set_option linter.unusedVariables false
namespace Go.Proofs.YtmkidbenndhhjaaDoor.DxCardDeflexGaps
open Go.ChangeShapes Go.WideShapes Go.ChangeAt Go.RowKit Go.WideMaps Go.WideElems
open Go.ChangeMaps (open_string shut_string)
open DxCard (own laidOut env_of_laid)

theorem cellsInt : Tryd.prog.cellsOf 3 = 1 := by kernel_rfl
set_option maxRecDepth 100000 in
theorem ints_open {H : Type} {enc : TypeId × Value → H} {base : Nat} {W : World} {V : Value} {d : DataW H} {p : List MemPlace} (hval : Value.okWide Tryd.prog W .any base 55 V) (h : DataW.Trod enc Tryd.prog W 0 (fun _ => true) true 55 V d p) :
    ∃ a n c, V = .slice a n c ∧ Dx.IntsW W a n := by
  obtain ⟨a, n, c, rfl⟩ := okWide_slice Tryd.underlying55 hval
  have hh : ∀ b, a = some b → n ≤ c ∧ W.has Tryd.prog .any base b 3 c := by
    rintro b rfl
    simp only [Value.okWide, Tryd.underlying55, Cell.okWide, Cell.ok] at hval
    exact ⟨hval.1, hval.2.2⟩
  obtain ⟨fuel, hf⟩ := h
  refine ⟨a, n, c, rfl, ?_, ?_⟩
  · rintro b rfl
    rcases open_ints Tryd.underlying55 Tryd.underlying3 cellsInt hf with ⟨hcs, _⟩ | ⟨b', len, cap, zs, hcs, _, hlen, hcap, hm, _, hcell, _⟩
    · simp [Value.cells] at hcs
    · simp [Value.cells] at hcs
      obtain ⟨rfl, rfl, rfl⟩ := hcs
      obtain ⟨hnc, _, hs, row, cells, hsh, _⟩ := hh b rfl
      obtain ⟨g, o, sp⟩ := b
      simp only at hs
      subst hs
      have hg : g < W.heap.size := by
        rcases Nat.lt_or_ge g W.heap.size with hg | hg
        · exact hg
        · have hn : W.heap[g]? = none := Array.getElem?_eq_none hg
          simp [World.shape?, hn] at hsh
      refine ⟨g, o, rfl, hg, fun i hi => ⟨zs.getD i 0, ?_⟩⟩
      have := hcell i (by rw [hm]; simp; omega)
      rw [Addr.add_lit] at this
      exact this
  · rintro rfl
    rcases open_ints Tryd.underlying55 Tryd.underlying3 cellsInt hf with ⟨hcs, _⟩ | ⟨b', len, cap, zs, hcs, _⟩
    · simp [Value.cells] at hcs
      exact hcs.1
    · simp [Value.cells] at hcs
theorem small_part {H : Type} {d e : DataW H} (hk : Rows.uptoSmall H [d, e] = true) : Rows.uptoBulk d ≤ 1048576 := by
  have h : Rows.uptoBulkAll [d, e] ≤ 1048576 := of_decide_eq_true hk
  simp only [Rows.uptoBulkAll] at h
  omega
theorem door_met (os : Os) (args : Array Value) : laidMetH Tryd.prog Rows.deflexGapsUptoRow.laid ((World.doorLaid Tryd.prog 86 os).forCall (fun _ _ => 0) ⟨#[], args, []⟩).memory :=
  laidMetH_of_parts3 (fuel := 8) (laidMet_of_run' 8 (by kernel_rfl) (by kernel_rfl)) (by kernel_rfl) (by kernel_rfl)
theorem reads (os : Os) {H : Type} (enc : TypeId × Value → H) : ∃ places, DataW.whole enc Tryd.prog ((World.doorLaid Tryd.prog 86 os).forCall (fun _ _ => 0) ⟨#[], #[.slice none 0 0, .slice none 0 0], []⟩).memory Tryd.f8.params.toList Rows.deflexGapsSpec.vars false #[Value.slice none 0 0, Value.slice none 0 0].toList 8 = some ([.nil, .nil], [], places) :=
  ⟨[], by kernel_rfl⟩

set_option maxRecDepth 100000 in
theorem lifted (os : Os) (started : os.Started) (H : Type) (enc : TypeId × Value → H) (F : Stop.Interp) :
    ReturnsInHanded {} Tryd.checked os 8 .any ((Rows.OpenSpec.upto Rows.deflexGapsSpec).preRow enc Tryd.prog Tryd.f8 Rows.deflexGapsUptoRow.domain false Rows.deflexGapsUptoRow.laid) (((Rows.OpenSpec.upto Rows.deflexGapsSpec).at F).post enc Tryd.prog Tryd.f8 false true false false) := by
  obtain ⟨places, hx⟩ := reads os enc
  refine returnsInHanded_of_row (C := Tryd.checked) (s := Rows.OpenSpec.upto Rows.deflexGapsSpec) own started (by kernel_rfl) Tryd.func8
    (witness_row_atRef (enc := enc) (C := Tryd.checked) false (World.doorLaid Tryd.prog 86 os) #[.slice none 0 0, .slice none 0 0] rfl (by kernel_rfl) (by kernel_rfl) (by kernel_rfl)
      (OpenSpec.preRow_of_cond 8 hx (by kernel_rfl) (fun k hk => by cases hk; kernel_rfl) (by kernel_rfl) (door_met os _))) ?_
  intro W base args ds gs before hval0 hW _ hcond _ hL _ _
  have hval : ∀ (j : Nat) t v, Tryd.f8.params[j]? = some t → args[j]? = some v → Value.okWide Tryd.prog W .any base t v := hval0
  have hk := hcond _ rfl
  have hW' := hW
  obtain ⟨p, q, hA0, hV, rfl, hfz, hnd⟩ := hW
  have hA : DataW.TrodAll enc Tryd.prog W 0 (fun _ => true) true Tryd.f8.params.toList args.toList ds p := hA0
  rw [Tryd.params8] at hA hval
  obtain ⟨v0, v1, d0, d1, p0, p1, rfl, rfl, rfl, h0, h1⟩ := trodAll_two hA
  obtain ⟨rfl, rfl⟩ := trodVars_none hV
  obtain ⟨l0, hs0, hset0, hlen0, hbk0⟩ := Dx.words_openU (hval 0 36 v0 rfl rfl) h0
  obtain ⟨a1, n1, c1, rfl, hi1⟩ := ints_open (hval 1 55 v1 rfl rfl) h1
  clear hA0 hval0
  simp only [List.append_nil] at hk
  have hb0 := small_part hk
  obtain ⟨hE, hR⟩ := env_of_laid hL
  refine (Dx.gaps_law v0 (.slice a1 n1 c1) l0 a1 n1 c1 W hs0 hset0 (fun q hq => Nat.le_trans (hbk0 q hq) hb0) hi1 hE hR).mono fun e W' ⟨he, bel⟩ => ?_
  subst he
  exact ⟨_, rfl, _, _, _, [], _, [], hW', trodAll_mk1 (shut_bool Tryd.underlying4 _), (trodAll_cons_mk (Below.trod laidOut (by kernel_rfl) (of_decide_eq_true (by kernel_rfl)) h0 bel (fun x hx => h0.elim fun fuel hf => DataW.trod_lt fuel _ _ _ hf x hx)) (trodAll_cons_mk (Below.trod laidOut (by kernel_rfl) (of_decide_eq_true (by kernel_rfl)) h1 bel (fun x hx => h1.elim fun fuel hf => DataW.trod_lt fuel _ _ _ hf x hx)) trodAll_mk0)), rfl, bel.frame _, fun h => by cases h⟩

theorem said : Rows.DeflexGapsUptoSaid :=
  OpenClaim.holds_of_cond 8 Tryd.f8 rfl rfl rfl rfl rfl rfl rfl ⟨rfl, rfl, rfl, rfl, rfl⟩ rfl rfl rfl rfl rfl (by kernel_rfl) Tryd.func8 (by kernel_rfl)
    (of_decide_eq_true (by kernel_rfl)) (by unfold Func.isWrapper; first | (rw [if_pos (by decide +kernel)]; kernel_rfl) | (rw [if_neg (by decide +kernel)]; exact ⟨rfl, rfl⟩))
    (fun os started H enc _ F => by rw [OpenClaim.pre_eq_preRow]; exact lifted os started H enc F)

theorem plain (f : FuncId) (fn : Func) (hf : Tryd.pinned.checked.prog.funcNamed Rows.deflexGapsUptoRow.func = some f) (hfn : Tryd.pinned.checked.prog.funcs[f]? = some fn) :
    true = Tryd.pinned.checked.prog.looks [] ∧ ∀ (j : Nat) t, fn.params[j]? = some t → Tryd.pinned.checked.prog.wantsStandIn t = false := by
  obtain rfl : f = 8 := Option.some.inj ((show Tryd.prog.funcNamed Rows.deflexGapsUptoRow.func = some 8 by kernel_rfl).symm.trans hf) |>.symm
  obtain rfl : fn = Tryd.f8 := (Option.some.inj (Tryd.func8.symm.trans hfn)).symm
  refine ⟨by kernel_rfl, fun j t ht => ?_⟩
  rw [Tryd.params8] at ht
  have hm : t ∈ [36, 55] := by simpa using Array.mem_of_getElem? ht
  have hall : ([36, 55].all fun u => !Tryd.prog.wantsStandIn u) = true := by kernel_rfl
  exact (show Tryd.prog.wantsStandIn t = false by simpa using List.all_eq_true.1 hall t hm)

/-- THE CARD. -/
theorem deflexGapsUpto_card : Rows.DeflexGapsUptoCardSaid :=
  Claim7.holds_tied_plain_at .later [] _ _ _ _ said (fun _ h => by cases h) (by kernel_rfl) (fun _ h => by cases h) deflexGapsUpto_row_tie rfl ⟨rfl, rfl⟩ (by kernel_rfl) rfl plain (by kernel_rfl)
#print axioms deflexGapsUpto_card
end Go.Proofs.YtmkidbenndhhjaaDoor.DxCardDeflexGaps
