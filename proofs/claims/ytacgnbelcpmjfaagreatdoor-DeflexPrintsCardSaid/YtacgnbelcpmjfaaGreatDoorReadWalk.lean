/-
  WALKS of package sets: Read.
-/
import Derived.Test.YtacgnbelcpmjfaaGreatDoorReadSet
set_option linter.unusedVariables false
set_option linter.unusedSimpArgs false
namespace Go.Proofs.YtacgnbelcpmjfaaGreatDoor.Dx
open Go.RowKit Go.Proofs Mx

theorem infoRange : (Tryz.prog.info? 94).map (fun i => (i.zero, i.size, i.bytes)) = some (some (.agg #[.int .u8 0, .int .u8 0]), 2, 2) := by kernel_rfl
def ReadOut : Option Nat → Ending → Prop
  | some M, e => e = .returned (.tuple #[setV M, .int .i64 0])
  | none, e => e = .returned (.tuple #[setV 0, .int .i64 120])
/-- Where the reading stands: what is left, whether all went well, the ranges so far. -/
structure RS (w wr : World) (I : Option (List (UInt8 × UInt8))) (r : ByteArray) (ok : Bool) (v : Value) (l : List (UInt8 × UInt8)) : Prop where
  own : wr.ownsRow (w.heap.size + 1) 94 2 v l.length (rcells l)
  res : Blk wr w.heap.size 33 (setC 0)
  bel : Below w.heap.size w wr
  good : ok = true → I = (itemsF r.data.toList).map (l ++ ·)
  bad : ok = false → I = none

theorem hp_one (x c : UInt8) (t : List UInt8) : Lib.hasPrefix (c :: t) [x] = (x == c) := by simp [Lib.hasPrefix, List.isPrefixOf]
theorem trim_le (l p : List UInt8) : (Lib.trimPrefix l p).length ≤ l.length := by
  unfold Lib.trimPrefix
  split
  · rw [List.length_drop]; omega
  · exact Nat.le_refl _
theorem readF_eq (s s1 s2 : ByteArray) (ok neg : Bool) (h1 : (⟨(Lib.trimPrefix s.data.toList [91]).toArray⟩ : ByteArray) = s1) (hok : Lib.hasPrefix s.data.toList [91] = ok)
    (h2 : (⟨(Lib.trimPrefix s1.data.toList [94]).toArray⟩ : ByteArray) = s2) (hneg : Lib.hasPrefix s1.data.toList [94] = neg) :
    readF s.data.toList = if neg then ((if ok then itemsF s2.data.toList else none).bind (makeF 0)).map notM else (if ok then itemsF s2.data.toList else none).bind (makeF 0) := by
  have e2 : s2.data.toList = Lib.trimPrefix s1.data.toList [94] := by rw [← h2]
  have e1 : s1.data.toList = Lib.trimPrefix s.data.toList [91] := by rw [← h1]
  cases hl : s.data.toList with
  | nil =>
    rw [hl] at hok
    have : ok = false := by rw [← hok]; rfl
    subst this
    cases neg <;> rfl
  | cons c t =>
    rw [hl] at hok e1
    by_cases hc : c = 91
    · subst hc
      have : ok = true := by rw [← hok]; simp [Lib.hasPrefix]
      subst this
      have e1' : s1.data.toList = t := by rw [e1]; simp [Lib.trimPrefix, Lib.hasPrefix]
      rw [e1'] at hneg e2
      cases t with
      | nil =>
        have : neg = false := by rw [← hneg]; rfl
        subst this
        have e2' : s2.data.toList = [] := by rw [e2]; rfl
        rw [e2']
        rfl
      | cons d u =>
        by_cases hd : d = 94
        · subst hd
          have : neg = true := by rw [← hneg]; simp [Lib.hasPrefix]
          subst this
          have e2' : s2.data.toList = u := by rw [e2]; simp [Lib.trimPrefix, Lib.hasPrefix]
          rw [e2']
          rfl
        · have : neg = false := by rw [← hneg, hp_one]; simpa using Ne.symm hd
          subst this
          have e2' : s2.data.toList = d :: u := by
            rw [e2, Lib.trimPrefix, hneg]; rfl
          rw [e2', readF, if_neg (by simpa using hd)]
          rfl
    · have : ok = false := by rw [← hok, hp_one]; simpa using Ne.symm hc
      subst this
      have hr : readF (c :: t) = none := by
        unfold readF
        split
        · rename_i heq; injection heq with h3 _; exact absurd h3 hc
        · rfl
      rw [hr]
      cases neg <;> rfl
theorem take_some (s r2 : ByteArray) (hs : s.size ≤ 4000000000) (b : UInt8) (n : Nat) (h : takeF s.data.toList = some (b, n)) (hr : s.extract n s.size = r2) (w : World) :
    Calls Tryz.prog 101 #[.string s] w fun e w' => e = .returned (.tuple #[.int .u8 (b.toNat : Int), .string r2, .bool true]) ∧ ∃ m, w' = w.drewN m := by
  have := take_any s hs w
  rw [h] at this
  subst hr
  exact this
theorem take_none (s : ByteArray) (hs : s.size ≤ 4000000000) (h : takeF s.data.toList = none) (w : World) :
    Calls Tryz.prog 101 #[.string s] w fun e w' => ∃ (b : UInt8) (r : ByteArray), e = .returned (.tuple #[.int .u8 (b.toNat : Int), .string r, .bool false]) ∧ ∃ m, w' = w.drewN m := by
  have := take_any s hs w
  rw [h] at this
  exact this.mono fun e w' ⟨⟨b, r, h1⟩, h2⟩ => ⟨b, r, h1, h2⟩
theorem RS.step {w wr w2 : World} {I : Option (List (UInt8 × UInt8))} {r r' : ByteArray} {o o' : Bool} {v : Value} {l : List (UInt8 × UInt8)} (h : RS w wr I r o v l) (hb : Below wr.heap.size wr w2)
    (hg : o' = true → I = (itemsF r'.data.toList).map (l ++ ·)) (hn : o' = false → I = none) : RS w w2 I r' o' v l :=
  ⟨h.own.kept (row := none) ⟨hb.os, hb.tape, hb.output, hb.size, fun k hk _ => hb.block k hk⟩ (by cases hv : v.ownBlock <;> simp), h.res.below hb h.res.lt, h.bel.trans (hb.mono h.bel.size), hg, hn⟩
theorem RS.append {w wr w4 : World} {I : Option (List (UInt8 × UInt8))} {r r' : ByteArray} {o o' : Bool} {v v' : Value} {l : List (UInt8 × UInt8)} {a b : UInt8} {ob : Obj} (h : RS w wr I r o v l)
    (hown : w4.ownsRow (w.heap.size + 1) 94 2 v' (l.length + 1) (rcells l ++ [.int .u8 (a.toNat : Int), .int .u8 (b.toNat : Int)])) (hgrow : (wr.alloc ob).grownBy w4 v.ownBlock)
    (hg : o' = true → I = (itemsF r'.data.toList).map ((l ++ [(a, b)]) ++ ·)) (hn : o' = false → I = none) : RS w w4 I r' o' v' (l ++ [(a, b)]) := by
  have hne : ∀ k, v.ownBlock = some k → w.heap.size + 1 ≤ k := fun k hk => (h.own.lt k hk).1
  refine ⟨?_, ?_, ?_, hg, hn⟩
  · rw [rcells_append] at hown
    simpa using hown
  · refine (h.res.alloc ob).grown hgrow ?_
    intro e
    have := hne _ e.symm
    omega
  · exact (h.bel.alloc h.bel.size ob).grown hgrow (by have := h.bel.size; simp; omega) (fun k hk => by have := hne k hk; omega)
set_option maxRecDepth 100000 in
set_option maxHeartbeats 2000000 in
theorem sread_any (s : ByteArray) (hs : s.size ≤ 400000000) (w : World) :
    Calls Tryz.prog 88 #[.string s] w fun e w' => ReadOut (readF s.data.toList) e ∧ Below w.heap.size w w' := by
  obtain ⟨i0, hi, hz0, hz1, hz2⟩ := info_parts infoRange
  have hcp1 := Tryz.strings_CutPrefix s ⟨#[91]⟩
  obtain ⟨s1, hs1⟩ : ∃ s1 : ByteArray, ⟨(Lib.trimPrefix s.data.toList [91]).toArray⟩ = s1 := ⟨_, rfl⟩
  obtain ⟨ok, hok⟩ : ∃ ok, Lib.hasPrefix s.data.toList [91] = ok := ⟨_, rfl⟩
  rw [show (⟨#[91]⟩ : ByteArray).data.toList = [91] from rfl, hs1, hok] at hcp1
  have hcp2 := Tryz.strings_CutPrefix s1 ⟨#[94]⟩
  obtain ⟨s2, hs2⟩ : ∃ s2 : ByteArray, ⟨(Lib.trimPrefix s1.data.toList [94]).toArray⟩ = s2 := ⟨_, rfl⟩
  obtain ⟨neg, hneg⟩ : ∃ neg, Lib.hasPrefix s1.data.toList [94] = neg := ⟨_, rfl⟩
  rw [show (⟨#[94]⟩ : ByteArray).data.toList = [94] from rfl, hs2, hneg] at hcp2
  have H1 := Lib.hid hcp1
  have H2 := Lib.hid hcp2
  have hsz2 : s2.size ≤ s.size := by
    rw [Lib.size_eq, Lib.size_eq s, ← hs2]
    refine Nat.le_trans (trim_le _ _) ?_
    rw [← hs1]
    exact trim_le _ _
  have HF := Lib.hid (And.intro hs1 (And.intro hok (And.intro hs2 hneg)))
  clear hcp1 hcp2 hs1 hok hs2 hneg
  obtain ⟨I, hI⟩ : ∃ I, (if ok then itemsF s2.data.toList else none) = I := ⟨_, rfl⟩
  go_enter Tryz.func88, Tryz.ntmps88
  go_wp2_with fail
  go_step3
  go_wp2_with fail
  refine (H1.out _).mono ?_
  rintro e w1 ⟨rfl, rfl⟩
  go_wp2_with fail
  refine (H2.out _).mono ?_
  rintro e w1 ⟨rfl, rfl⟩
  go_wp2_with fail
  go_step3
  go_wp2_with fail
  have hB0 : Blk (w.alloc (.cells #[.int .u64 0, .int .u64 0, .int .u64 0, .int .u64 0] 33)) w.heap.size 33 (setC 0) := Blk.new_ rfl _ _
  have hbl := (Below.refl w.heap.size w).alloc (Nat.le_refl _) (.cells #[.int .u64 0, .int .u64 0, .int .u64 0, .int .u64 0] 33)
  have hsz : (w.alloc (.cells #[.int .u64 0, .int .u64 0, .int .u64 0, .int .u64 0] 33)).heap.size = w.heap.size + 1 := by simp
  generalize (w.alloc (.cells #[.int .u64 0, .int .u64 0, .int .u64 0, .int .u64 0] 33)) = w2 at hB0 hbl hsz ⊢
  have h0 : RS w w2 I s2 ok (.slice none 0 0) [] := ⟨⟨rfl, .inl ⟨rfl, rfl⟩⟩, hB0, hbl, fun e => by rw [← hI, if_pos e]; cases itemsF s2.data.toList <;> simp, fun e => by rw [← hI, e]; rfl⟩
  have H0 := Lib.hid (And.intro h0 hsz)
  clear hB0 hbl hsz h0
  go_loopg [4, 5, 7] (s2.size + 2) (fun m vr vo vl wr => ∃ (r : ByteArray) (o : Bool) (l : List (UInt8 × UInt8)), vr = .string r ∧ vo = .bool o ∧ RS w wr I r o vl l ∧ w.heap.size + 1 ≤ wr.heap.size ∧ l.length ≤ s2.size + 1 ∧ (if o then r.size + 2 else 1) ≤ m ∧ (o = true → l.length + r.size ≤ s2.size))
  case atStart => exact ⟨s2, ok, [], rfl, rfl, H0.out.1, by rw [H0.out.2]; exact Nat.le_refl _, by simp, by cases ok <;> simp, fun _ => by simp⟩
  case round =>
    obtain ⟨r, o, l, rfl, rfl, hS, hwr, hll, hm, hlr⟩ := hrel
    have HS := Lib.hid hS
    clear hS
    cases o with
    | false =>
      have hI' := HS.out.bad rfl
      have HI := Lib.hid hI'
      clear hI' hm hlr
      go_wp2_with fail
      have hwr : w.heap.size < wr.heap.size := by omega
      cases hmk : makeF 0 l with
      | none =>
        have HM := Lib.hid hmk
        clear hmk
        go_wp2_with fail
        refine (make_own (by omega) HS.out.own).mono ?_
        rintro e w3 ⟨hme, hb3⟩
        rw [HM.out] at hme
        unfold MakeOut setV at hme
        subst hme
        have g0 := HS.out.res.below hb3 hwr
        have g1 := HS.out.bel.trans (hb3.mono HS.out.bel.size)
        have hlt3 : w.heap.size < w3.heap.size := by have := hb3.size; omega
        obtain ⟨k0, k1, k2, k3, kf⟩ := g0.facts4
        have HG := Lib.hid (And.intro g0 g1)
        clear g0 g1
        go_wp2_with fail
        rw [Exit.noGoto_ret]
        have hbk := ((((HG.out.1.set_ 0 (.int .u64 0)).set_ 1 (.int .u64 0)).set_ 2 (.int .u64 0)).set_ 3 (.int .u64 0)).alloc (.cells #[.int .u64 (wd 0 0), .int .u64 (wd 0 1), .int .u64 (wd 0 2), .int .u64 (wd 0 3)] 33)
        refine bodyPost_ret (results_cell_tmp_row (by rfl) _ _ w.heap.size 33 _ _ _ (by rfl) (by rfl) hbk Tryz.underlying33 (by rfl) (by kernel_rfl)) rfl ?_
        rw [readF_eq s s1 s2 ok neg HF.out.1 HF.out.2.1 HF.out.2.2.1 HF.out.2.2.2, hI, HI.out]
        refine ⟨by cases neg <;> rfl, ((((HG.out.2.setCell ?_ _).setCell ?_ _).setCell ?_ _).setCell ?_ _).alloc ?_ _⟩ <;> simp <;> omega
      | some M =>
        have HM := Lib.hid hmk
        clear hmk
        go_wp2_with fail
        refine (make_own (by omega) HS.out.own).mono ?_
        rintro e w3 ⟨hme, hb3⟩
        rw [HM.out] at hme
        unfold MakeOut setV at hme
        subst hme
        have g0 := HS.out.res.below hb3 hwr
        have g1 := HS.out.bel.trans (hb3.mono HS.out.bel.size)
        have hlt3 : w.heap.size < w3.heap.size := by have := hb3.size; omega
        obtain ⟨k0, k1, k2, k3, kf⟩ := g0.facts4
        have HG := Lib.hid (And.intro g0 g1)
        clear g0 g1
        go_wp2_with fail
        rw [Exit.noGoto_ret]
        have hbk := ((((HG.out.1.set_ 0 (.int .u64 0)).set_ 1 (.int .u64 0)).set_ 2 (.int .u64 0)).set_ 3 (.int .u64 0)).alloc (.cells #[.int .u64 (wd M 0), .int .u64 (wd M 1), .int .u64 (wd M 2), .int .u64 (wd M 3)] 33)
        refine bodyPost_ret (results_cell_tmp_row (by rfl) _ _ w.heap.size 33 _ _ _ (by rfl) (by rfl) hbk Tryz.underlying33 (by rfl) (by kernel_rfl)) rfl ?_
        rw [readF_eq s s1 s2 ok neg HF.out.1 HF.out.2.1 HF.out.2.2.1 HF.out.2.2.2, hI, HI.out]
        refine ⟨by cases neg <;> rfl, ((((HG.out.2.setCell ?_ _).setCell ?_ _).setCell ?_ _).setCell ?_ _).alloc ?_ _⟩ <;> simp <;> omega
    | true =>
      by_cases h93 : r.data.toList = [93]
      · have hq : (r.toList == [93]) = true := by rw [ByteArray.toList_eq, h93]; rfl
        have hI' : I = some l := by rw [HS.out.good rfl, h93, itemsF_end]; simp
        have HI := Lib.hid hI'
        clear hI' hm hlr h93
        go_wp2_with fail
        have hwr : w.heap.size < wr.heap.size := by omega
        cases hmk : makeF 0 l with
        | none =>
          have HM := Lib.hid hmk
          clear hmk
          go_wp2_with fail
          refine (make_own (by omega) HS.out.own).mono ?_
          rintro e w3 ⟨hme, hb3⟩
          rw [HM.out] at hme
          unfold MakeOut setV at hme
          subst hme
          have g0 := HS.out.res.below hb3 hwr
          have g1 := HS.out.bel.trans (hb3.mono HS.out.bel.size)
          have hlt3 : w.heap.size < w3.heap.size := by have := hb3.size; omega
          obtain ⟨k0, k1, k2, k3, kf⟩ := g0.facts4
          have HG := Lib.hid (And.intro g0 g1)
          clear g0 g1
          go_wp2_with fail
          rw [Exit.noGoto_ret]
          have hbk := ((((HG.out.1.set_ 0 (.int .u64 0)).set_ 1 (.int .u64 0)).set_ 2 (.int .u64 0)).set_ 3 (.int .u64 0)).alloc (.cells #[.int .u64 (wd 0 0), .int .u64 (wd 0 1), .int .u64 (wd 0 2), .int .u64 (wd 0 3)] 33)
          refine bodyPost_ret (results_cell_tmp_row (by rfl) _ _ w.heap.size 33 _ _ _ (by rfl) (by rfl) hbk Tryz.underlying33 (by rfl) (by kernel_rfl)) rfl ?_
          rw [readF_eq s s1 s2 ok neg HF.out.1 HF.out.2.1 HF.out.2.2.1 HF.out.2.2.2, hI, HI.out]
          refine ⟨by show ReadOut (if neg then (makeF 0 l).map notM else makeF 0 l) _; rw [HM.out]; cases neg <;> rfl, ((((HG.out.2.setCell ?_ _).setCell ?_ _).setCell ?_ _).setCell ?_ _).alloc ?_ _⟩ <;> simp <;> omega
        | some M =>
          have HM := Lib.hid hmk
          clear hmk
          go_wp2_with fail
          refine (make_own (by omega) HS.out.own).mono ?_
          rintro e w3 ⟨hme, hb3⟩
          rw [HM.out] at hme
          unfold MakeOut setV at hme
          subst hme
          have g0 := HS.out.res.below hb3 hwr
          have g1 := HS.out.bel.trans (hb3.mono HS.out.bel.size)
          have hlt3 : w.heap.size < w3.heap.size := by have := hb3.size; omega
          obtain ⟨k0, k1, k2, k3, kf⟩ := g0.facts4
          have HG := Lib.hid (And.intro g0 g1)
          clear g0 g1
          cases hng : neg with
          | false =>
            rw [hng] at HF
            go_wp2_with fail
            rw [Exit.noGoto_ret]
            have hbk := ((((HG.out.1.set_ 0 (.int .u64 (wd M 0))).set_ 1 (.int .u64 (wd M 1))).set_ 2 (.int .u64 (wd M 2))).set_ 3 (.int .u64 (wd M 3))).alloc (.cells #[.int .u64 (wd M 0), .int .u64 (wd M 1), .int .u64 (wd M 2), .int .u64 (wd M 3)] 33)
            refine bodyPost_ret (results_cell_tmp_row (by rfl) _ _ w.heap.size 33 _ _ _ (by rfl) (by rfl) hbk Tryz.underlying33 (by rfl) (by kernel_rfl)) rfl ?_
            rw [readF_eq s s1 s2 ok false HF.out.1 HF.out.2.1 HF.out.2.2.1 HF.out.2.2.2, hI, HI.out]
            refine ⟨by show ReadOut (makeF 0 l) _; rw [HM.out]; rfl, ((((HG.out.2.setCell ?_ _).setCell ?_ _).setCell ?_ _).setCell ?_ _).alloc ?_ _⟩ <;> simp <;> omega
          | true =>
            rw [hng] at HF
            have hn := not_set M
            unfold setV at hn
            have HN := Lib.hid hn
            clear hn
            go_wp2_with fail
            refine (HN.out _).mono ?_
            rintro e w5 ⟨rfl, hb5⟩
            have hsz5 := hb5.size
            have a5 := (HG.out.1.alloc (.cells #[.int .u64 (wd M 0), .int .u64 (wd M 1), .int .u64 (wd M 2), .int .u64 (wd M 3)] 33)).below hb5 (by simp; omega)
            have d5 := (Blk.new w3 33 #[.int .u64 (wd M 0), .int .u64 (wd M 1), .int .u64 (wd M 2), .int .u64 (wd M 3)]).below hb5 (by simp)
            have b5 := (HG.out.2.alloc (by omega) (.cells #[.int .u64 (wd M 0), .int .u64 (wd M 1), .int .u64 (wd M 2), .int .u64 (wd M 3)] 33)).trans (hb5.mono (by simp; omega))
            have hne5 : ¬ w.heap.size = w3.heap.size := by omega
            have hne6 : ¬ w3.heap.size = w.heap.size := by omega
            obtain ⟨m0, m1, m2, m3, mf⟩ := a5.facts4
            obtain ⟨q0, q1, q2, q3, qf⟩ := d5.facts4
            have HQ := Lib.hid (And.intro a5 b5)
            clear a5 b5 d5 k0 k1 k2 k3 kf
            go_wp2_with fail
            rw [Exit.noGoto_ret]
            have hbk := ((((((((HQ.out.1.far (p := ⟨w3.heap.size, 0, none⟩) hne5 (.int .u64 (wd (notM M) 0))).far (p := ⟨w3.heap.size, 1, none⟩) hne5 (.int .u64 (wd (notM M) 1))).far (p := ⟨w3.heap.size, 2, none⟩) hne5 (.int .u64 (wd (notM M) 2))).far (p := ⟨w3.heap.size, 3, none⟩) hne5 (.int .u64 (wd (notM M) 3))).set_ 0 (.int .u64 (wd (notM M) 0))).set_ 1 (.int .u64 (wd (notM M) 1))).set_ 2 (.int .u64 (wd (notM M) 2))).set_ 3 (.int .u64 (wd (notM M) 3)))
            refine bodyPost_ret (results_cell_tmp_row (by rfl) _ _ w.heap.size 33 _ _ _ (by rfl) (by rfl) hbk Tryz.underlying33 (by rfl) (by kernel_rfl)) rfl ?_
            rw [readF_eq s s1 s2 ok true HF.out.1 HF.out.2.1 HF.out.2.2.1 HF.out.2.2.2, hI, HI.out]
            refine ⟨by show ReadOut ((makeF 0 l).map notM) _; rw [HM.out]; rfl, ((((((((HQ.out.2.setCell ?_ _).setCell ?_ _).setCell ?_ _).setCell ?_ _).setCell ?_ _).setCell ?_ _).setCell ?_ _).setCell ?_ _)⟩ <;> simp <;> omega
      · have hq : (r.toList == [93]) = false := by rw [ByteArray.toList_eq]; simpa using h93
        have hgood := HS.out.good rfl
        have hrs : r.size ≤ 4000000000 := by have := hlr rfl; omega
        have htk := take_any r hrs
        have HT := Lib.hid htk
        clear htk
        cases hk : takeF r.data.toList with
        | none =>
          rw [hk] at HT
          have hI' : I = none := by rw [hgood, itemsF_bad _ h93 hk]; rfl
          have HI := Lib.hid hI'
          clear hI' hm hgood h93 hk
          go_wp2_with fail
          refine (HT.out _).mono ?_
          rintro e w1 ⟨⟨b, q, rfl⟩, n, rfl⟩
          have hR0 := (Blk.new wr 94 #[.int .u8 0, .int .u8 0]).drewN n
          obtain ⟨y0, y1, yf⟩ := hR0.facts2
          have hbW : Below wr.heap.size wr (((wr.alloc (.cells #[.int .u8 0, .int .u8 0] 94)).drewN n).setCell ⟨wr.heap.size, 0, none⟩ (.int .u8 (b.toNat : Int))) :=
            (Mx.below_drewN ((Below.refl _ wr).alloc (Nat.le_refl _) _) n).setCell (Nat.le_refl _) _
          have hS2 := RS.step (r' := q) (o' := false) HS.out hbW (fun e => by cases e) (fun _ => HI.out)
          have hsz : wr.heap.size + 1 ≤ (((wr.alloc (.cells #[.int .u8 0, .int .u8 0] 94)).drewN n).setCell ⟨wr.heap.size, 0, none⟩ (.int .u8 (b.toNat : Int))).heap.size := by simp [World.setCell]
          obtain ⟨W2, hW2⟩ : ∃ W2, ((wr.alloc (.cells #[.int .u8 0, .int .u8 0] 94)).drewN n).setCell ⟨wr.heap.size, 0, none⟩ (.int .u8 (b.toNat : Int)) = W2 := ⟨_, rfl⟩
          rw [hW2] at hS2 hsz
          clear HS hbW hR0 HT
          have HS := Lib.hid hS2
          have hwr : w.heap.size < W2.heap.size := by omega
          clear hS2
          go_wp2_with fail
          cases hmk : makeF 0 l with
          | none =>
            have HM := Lib.hid hmk
            clear hmk
            go_wp2_with fail
            refine (make_own (by omega) HS.out.own).mono ?_
            rintro e w3 ⟨hme, hb3⟩
            rw [HM.out] at hme
            unfold MakeOut setV at hme
            subst hme
            have g0 := HS.out.res.below hb3 hwr
            have g1 := HS.out.bel.trans (hb3.mono HS.out.bel.size)
            have hlt3 : w.heap.size < w3.heap.size := by have := hb3.size; omega
            obtain ⟨k0, k1, k2, k3, kf⟩ := g0.facts4
            have HG := Lib.hid (And.intro g0 g1)
            clear g0 g1
            go_wp2_with fail
            rw [Exit.noGoto_ret]
            have hbk := ((((HG.out.1.set_ 0 (.int .u64 0)).set_ 1 (.int .u64 0)).set_ 2 (.int .u64 0)).set_ 3 (.int .u64 0)).alloc (.cells #[.int .u64 (wd 0 0), .int .u64 (wd 0 1), .int .u64 (wd 0 2), .int .u64 (wd 0 3)] 33)
            refine bodyPost_ret (results_cell_tmp_row (by rfl) _ _ w.heap.size 33 _ _ _ (by rfl) (by rfl) hbk Tryz.underlying33 (by rfl) (by kernel_rfl)) rfl ?_
            rw [readF_eq s s1 s2 ok neg HF.out.1 HF.out.2.1 HF.out.2.2.1 HF.out.2.2.2, hI, HI.out]
            refine ⟨by cases neg <;> rfl, ((((HG.out.2.setCell ?_ _).setCell ?_ _).setCell ?_ _).setCell ?_ _).alloc ?_ _⟩ <;> simp <;> omega
          | some M =>
            have HM := Lib.hid hmk
            clear hmk
            go_wp2_with fail
            refine (make_own (by omega) HS.out.own).mono ?_
            rintro e w3 ⟨hme, hb3⟩
            rw [HM.out] at hme
            unfold MakeOut setV at hme
            subst hme
            have g0 := HS.out.res.below hb3 hwr
            have g1 := HS.out.bel.trans (hb3.mono HS.out.bel.size)
            have hlt3 : w.heap.size < w3.heap.size := by have := hb3.size; omega
            obtain ⟨k0, k1, k2, k3, kf⟩ := g0.facts4
            have HG := Lib.hid (And.intro g0 g1)
            clear g0 g1
            go_wp2_with fail
            rw [Exit.noGoto_ret]
            have hbk := ((((HG.out.1.set_ 0 (.int .u64 0)).set_ 1 (.int .u64 0)).set_ 2 (.int .u64 0)).set_ 3 (.int .u64 0)).alloc (.cells #[.int .u64 (wd M 0), .int .u64 (wd M 1), .int .u64 (wd M 2), .int .u64 (wd M 3)] 33)
            refine bodyPost_ret (results_cell_tmp_row (by rfl) _ _ w.heap.size 33 _ _ _ (by rfl) (by rfl) hbk Tryz.underlying33 (by rfl) (by kernel_rfl)) rfl ?_
            rw [readF_eq s s1 s2 ok neg HF.out.1 HF.out.2.1 HF.out.2.2.1 HF.out.2.2.2, hI, HI.out]
            refine ⟨by cases neg <;> rfl, ((((HG.out.2.setCell ?_ _).setCell ?_ _).setCell ?_ _).setCell ?_ _).alloc ?_ _⟩ <;> simp <;> omega
        | some p =>
          obtain ⟨a, n⟩ := p
          have hpos := takeF_pos _ _ _ hk
          rw [← Lib.size_eq] at hpos
          have hrl : (r.extract n r.size).data.toList = r.data.toList.drop n := Lib.extract_to_end r n
          have hrz : (r.extract n r.size).size = r.size - n := by simp
          obtain ⟨r2, hr2⟩ : ∃ r2, r.extract n r.size = r2 := ⟨_, rfl⟩
          have HT := Lib.hid (take_some r r2 hrs a n hk hr2)
          rw [hr2] at hrl hrz
          have hcp := Tryz.strings_CutPrefix r2 ⟨#[45]⟩
          obtain ⟨r3, hr3⟩ : ∃ r3 : ByteArray, ⟨(Lib.trimPrefix r2.data.toList [45]).toArray⟩ = r3 := ⟨_, rfl⟩
          obtain ⟨is, his⟩ : ∃ is, Lib.hasPrefix r2.data.toList [45] = is := ⟨_, rfl⟩
          rw [show (⟨#[45]⟩ : ByteArray).data.toList = [45] from rfl, hr3, his] at hcp
          have HC := Lib.hid hcp
          have HR := Lib.hid (And.intro hr3 (And.intro his (And.intro hrl (And.intro hk hgood))))
          clear hcp hr3 his hrl hk hgood hr2
          go_wp2_with fail
          refine (HT.out _).mono ?_
          rintro e w1 ⟨rfl, m1, rfl⟩
          have hR0 := (Blk.new wr 94 #[.int .u8 0, .int .u8 0]).drewN m1
          obtain ⟨y0, y1, yf⟩ := hR0.facts2
          have hb1 : Below wr.heap.size wr ((wr.alloc (.cells #[.int .u8 0, .int .u8 0] 94)).drewN m1) := Mx.below_drewN ((Below.refl _ wr).alloc (Nat.le_refl _) _) m1
          have hsz1 : ((wr.alloc (.cells #[.int .u8 0, .int .u8 0] 94)).drewN m1).heap.size = wr.heap.size + 1 := by simp
          have HW := Lib.hid (And.intro hR0 (And.intro hb1 hsz1))
          obtain ⟨W1, hW1⟩ : ∃ W1, (wr.alloc (.cells #[.int .u8 0, .int .u8 0] 94)).drewN m1 = W1 := ⟨_, rfl⟩
          rw [hW1] at HW y0 y1 yf ⊢
          clear hR0 hb1 hsz1 hW1
          go_wp2_with fail
          refine (HC.out _).mono ?_
          rintro e w2' ⟨rfl, rfl⟩
          have hR2 := (HW.out.1.set_ 0 (.int .u8 (a.toNat : Int))).set_ 1 (.int .u8 (a.toNat : Int))
          have hb2 := (HW.out.2.1.setCell (p := ⟨wr.heap.size, 0, none⟩) (Nat.le_refl _) (.int .u8 (a.toNat : Int))).setCell (p := ⟨wr.heap.size, 1, none⟩) (Nat.le_refl _) (.int .u8 (a.toNat : Int))
          have hsz2 : ((W1.setCell ⟨wr.heap.size, 0, none⟩ (.int .u8 (a.toNat : Int))).setCell ⟨wr.heap.size, 1, none⟩ (.int .u8 (a.toNat : Int))).heap.size = wr.heap.size + 1 := by
            rw [← HW.out.2.2]; simp [World.setCell]
          obtain ⟨W2, hW2⟩ : ∃ W2, (W1.setCell ⟨wr.heap.size, 0, none⟩ (.int .u8 (a.toNat : Int))).setCell ⟨wr.heap.size, 1, none⟩ (.int .u8 (a.toNat : Int)) = W2 := ⟨_, rfl⟩
          rw [hW2] at hR2 hb2 hsz2 ⊢
          clear hW2 y0 y1 yf
          obtain ⟨x0, x1, xf⟩ := Blk.facts2 (v0 := .int .u8 (a.toNat : Int)) (v1 := .int .u8 (a.toNat : Int)) hR2
          cases is with
          | false =>
            have hS2 := RS.step (r' := r) (o' := true) HS.out hb2 HS.out.good (fun e => by cases e)
            have H2' := Lib.hid (And.intro hS2 hsz2)
            clear hS2 hR2 hb2 hsz2
            go_wp2_with (at_builtin; refine wpList_append_own _ rfl _ _ 91 rfl (w.heap.size + 1) 94 i0 (.agg #[.int .u8 0, .int .u8 0]) 2 2 Tryz.underlying91 hi hz0 hz1 hz2 rfl (by decide) _ _ _ rfl (H2'.out.1.own.alloc _) ⟨W2.heap.size, 0, none⟩ 1 1 [.int .u8 (a.toNat : Int), .int .u8 (a.toNat : Int)] rfl rfl ?c1 ?c2 ?c3 ?c4 ?c5 ?_)
            case c1 =>
              intro j u hj
              match j, hj with
              | 0, hj => simp at hj; subst hj; exact (Blk.new _ _ _).cell 0
              | 1, hj => simp at hj; subst hj; exact (Blk.new _ _ _).cell 1
            case c2 => intro u hu; simp at hu; rcases hu with rfl | rfl <;> rfl
            case c3 => unfold maxLen; omega
            case c4 => omega
            case c5 => have := H2'.out.2; simp; omega
            intro v' w4 hown' hgrow _
            have hgood : I = (itemsF r2.data.toList).map ((l ++ [(a, a)]) ++ ·) := by
              obtain ⟨hr3, his, hrl, hk, hgood⟩ := HR.out
              have hd : (r.data.toList.drop n).head? ≠ some 45 := by
                rw [← hrl]
                intro e
                cases hq : r2.data.toList with
                | nil => rw [hq] at e; cases e
                | cons c t =>
                  rw [hq] at e his
                  simp at e
                  subst e
                  rw [hp_one] at his
                  simp at his
              rw [hgood, itemsF_one _ h93 a n hk hd, hrl, Option.map_map]
              congr 1
              funext x
              simp
            have hS4 := RS.append (r' := r2) (o' := true) H2'.out.1 hown' hgrow (fun _ => hgood) (fun e => by cases e)
            have hz4 : w.heap.size + 1 ≤ w4.heap.size := by have := hgrow.size; have := H2'.out.2; simp at *; omega
            have HS4 := Lib.hid (And.intro hS4 hz4)
            clear hgood hown' hgrow hS4 hz4
            go_wp2_with fail
            go_roundg (r2.size + 2)
            case measure => simp at hm; omega
            case rel =>
              have hlr' : l.length + r.size ≤ s2.size := by simpa using hlr
              exact ⟨r2, true, l ++ [(a, a)], rfl, rfl, HS4.out.1, HS4.out.2, by simp; omega, by simp, fun _ => by simp; omega⟩
          | true =>
            have hr3l : r3.data.toList = r.data.toList.drop (n + 1) ∧ (r.data.toList.drop n).head? = some 45 := by
              obtain ⟨hr3, his, hrl, hk, hgood⟩ := HR.out
              cases hq : r2.data.toList with
              | nil => rw [hq] at his; cases his
              | cons c t =>
                rw [hq] at his hr3
                rw [hp_one] at his
                have hc : c = 45 := by simpa using Eq.symm (by simpa using his : (45 : UInt8) = c)
                subst hc
                have : r3.data.toList = t := by rw [← hr3]; simp [Lib.trimPrefix, Lib.hasPrefix]
                rw [← hrl, hq]
                refine ⟨?_, rfl⟩
                rw [this, show r.data.toList.drop (n + 1) = (r.data.toList.drop n).drop 1 by rw [List.drop_drop], ← hrl, hq]
                rfl
            have hr3z : r3.size + 1 ≤ r.size - n + 1 := by
              rw [Lib.size_eq, hr3l.1, List.length_drop, ← Lib.size_eq]; omega
            have hr3s : r3.size ≤ 4000000000 := by omega
            have HL := Lib.hid hr3l
            have H3 := Lib.hid hsz2
            clear hr3l hsz2
            cases hk2 : takeF r3.data.toList with
            | none =>
              have HT2 := Lib.hid (take_none r3 hr3s hk2)
              have hIn : I = none := by
                obtain ⟨hr3, his, hrl, hk, hgood⟩ := HR.out
                rw [hgood, itemsF_two _ h93 a n hk HL.out.2, ← HL.out.1, hk2]; rfl
              have HI := Lib.hid hIn
              clear hIn hk2
              go_wp2_with fail
              refine (HT2.out _).mono ?_
              rintro e w6 ⟨b, q, rfl, m2, rfl⟩
              have hR3 := (hR2.drewN m2).set_ 1 (.int .u8 (b.toNat : Int))
              have hb3' := (Mx.below_drewN hb2 m2).setCell (p := ⟨wr.heap.size, 1, none⟩) (Nat.le_refl _) (.int .u8 (b.toNat : Int))
              have hsz3 : ((W2.drewN m2).setCell ⟨wr.heap.size, 1, none⟩ (.int .u8 (b.toNat : Int))).heap.size = wr.heap.size + 1 := by
                rw [← H3.out]; simp [World.setCell]
              have hRd := hR2.drewN m2
              obtain ⟨x0, x1, xf⟩ := Blk.facts2 (v0 := .int .u8 (a.toNat : Int)) (v1 := .int .u8 (a.toNat : Int)) hRd
              obtain ⟨W3, hW3⟩ : ∃ W3, (W2.drewN m2).setCell ⟨wr.heap.size, 1, none⟩ (.int .u8 (b.toNat : Int)) = W3 := ⟨_, rfl⟩
              rw [hW3] at hR3 hb3' hsz3
              obtain ⟨z0, z1, zf⟩ := Blk.facts2 (v0 := .int .u8 (a.toNat : Int)) (v1 := .int .u8 (b.toNat : Int)) hR3
              have hS2 := RS.step (r' := q) (o' := false) HS.out hb3' (fun e => by cases e) (fun _ => HI.out)
              have H2' := Lib.hid (And.intro hS2 hsz3)
              clear hS2 hR2 hb2 hR3 hb3' hsz3 hRd
              go_wp2_with (at_builtin; refine wpList_append_own _ rfl _ _ 91 rfl (w.heap.size + 1) 94 i0 (.agg #[.int .u8 0, .int .u8 0]) 2 2 Tryz.underlying91 hi hz0 hz1 hz2 rfl (by decide) _ _ _ rfl (H2'.out.1.own.alloc _) ⟨W3.heap.size, 0, none⟩ 1 1 [.int .u8 (a.toNat : Int), .int .u8 (b.toNat : Int)] rfl rfl ?c1 ?c2 ?c3 ?c4 ?c5 ?_)
              case c1 =>
                intro j u hj
                match j, hj with
                | 0, hj => simp at hj; subst hj; exact (Blk.new _ _ _).cell 0
                | 1, hj => simp at hj; subst hj; exact (Blk.new _ _ _).cell 1
              case c2 => intro u hu; simp at hu; rcases hu with rfl | rfl <;> rfl
              case c3 => unfold maxLen; omega
              case c4 => omega
              case c5 => have := H2'.out.2; simp; omega
              intro v' w4 hown' hgrow _
              have hS4 := RS.append (r' := q) (o' := false) H2'.out.1 hown' hgrow (fun e => by cases e) (fun _ => HI.out)
              have hz4 : w.heap.size + 1 ≤ w4.heap.size := by have := hgrow.size; have := H2'.out.2; simp at *; omega
              have HS4 := Lib.hid (And.intro hS4 hz4)
              clear hown' hgrow hS4 hz4
              go_wp2_with fail
              go_roundg 1
              case measure => simp at hm; omega
              case rel =>
                have hlr' : l.length + r.size ≤ s2.size := by simpa using hlr
                exact ⟨q, false, l ++ [(a, b)], rfl, rfl, HS4.out.1, HS4.out.2, by simp; omega, by simp, fun e => by cases e⟩
            | some p =>
              obtain ⟨b, k⟩ := p
              have hpos2 := takeF_pos _ _ _ hk2
              rw [← Lib.size_eq] at hpos2
              have hrl4 : (r3.extract k r3.size).data.toList = r3.data.toList.drop k := Lib.extract_to_end r3 k
              have hrz4 : (r3.extract k r3.size).size = r3.size - k := by simp
              obtain ⟨r4, hr4⟩ : ∃ r4, r3.extract k r3.size = r4 := ⟨_, rfl⟩
              have HT2 := Lib.hid (take_some r3 r4 hr3s b k hk2 hr4)
              rw [hr4] at hrl4 hrz4
              have hgood4 : I = (itemsF r4.data.toList).map ((l ++ [(a, b)]) ++ ·) := by
                obtain ⟨hr3, his, hrl, hk, hgood⟩ := HR.out
                rw [hgood, itemsF_two _ h93 a n hk HL.out.2, ← HL.out.1, hk2]
                simp only
                rw [show r.data.toList.drop (n + 1 + k) = r4.data.toList by rw [hrl4, HL.out.1, List.drop_drop], Option.map_map]
                congr 1
                funext x
                simp
              have HI := Lib.hid hgood4
              clear hgood4 hk2 hrl4 hr4
              go_wp2_with fail
              refine (HT2.out _).mono ?_
              rintro e w6 ⟨rfl, m2, rfl⟩
              have hR3 := (hR2.drewN m2).set_ 1 (.int .u8 (b.toNat : Int))
              have hb3' := (Mx.below_drewN hb2 m2).setCell (p := ⟨wr.heap.size, 1, none⟩) (Nat.le_refl _) (.int .u8 (b.toNat : Int))
              have hsz3 : ((W2.drewN m2).setCell ⟨wr.heap.size, 1, none⟩ (.int .u8 (b.toNat : Int))).heap.size = wr.heap.size + 1 := by
                rw [← H3.out]; simp [World.setCell]
              have hRd := hR2.drewN m2
              obtain ⟨x0, x1, xf⟩ := Blk.facts2 (v0 := .int .u8 (a.toNat : Int)) (v1 := .int .u8 (a.toNat : Int)) hRd
              obtain ⟨W3, hW3⟩ : ∃ W3, (W2.drewN m2).setCell ⟨wr.heap.size, 1, none⟩ (.int .u8 (b.toNat : Int)) = W3 := ⟨_, rfl⟩
              rw [hW3] at hR3 hb3' hsz3
              obtain ⟨z0, z1, zf⟩ := Blk.facts2 (v0 := .int .u8 (a.toNat : Int)) (v1 := .int .u8 (b.toNat : Int)) hR3
              have hS2 := RS.step (r' := r) (o' := true) HS.out hb3' HS.out.good (fun e => by cases e)
              have H2' := Lib.hid (And.intro hS2 hsz3)
              clear hS2 hR2 hb2 hR3 hb3' hsz3 hRd
              go_wp2_with (at_builtin; refine wpList_append_own _ rfl _ _ 91 rfl (w.heap.size + 1) 94 i0 (.agg #[.int .u8 0, .int .u8 0]) 2 2 Tryz.underlying91 hi hz0 hz1 hz2 rfl (by decide) _ _ _ rfl (H2'.out.1.own.alloc _) ⟨W3.heap.size, 0, none⟩ 1 1 [.int .u8 (a.toNat : Int), .int .u8 (b.toNat : Int)] rfl rfl ?c1 ?c2 ?c3 ?c4 ?c5 ?_)
              case c1 =>
                intro j u hj
                match j, hj with
                | 0, hj => simp at hj; subst hj; exact (Blk.new _ _ _).cell 0
                | 1, hj => simp at hj; subst hj; exact (Blk.new _ _ _).cell 1
              case c2 => intro u hu; simp at hu; rcases hu with rfl | rfl <;> rfl
              case c3 => unfold maxLen; omega
              case c4 => omega
              case c5 => have := H2'.out.2; simp; omega
              intro v' w4 hown' hgrow _
              have hS4 := RS.append (r' := r4) (o' := true) H2'.out.1 hown' hgrow (fun _ => HI.out) (fun e => by cases e)
              have hz4 : w.heap.size + 1 ≤ w4.heap.size := by have := hgrow.size; have := H2'.out.2; simp at *; omega
              have HS4 := Lib.hid (And.intro hS4 hz4)
              clear hown' hgrow hS4 hz4
              go_wp2_with fail
              go_roundg (r4.size + 2)
              case measure => simp at hm; omega
              case rel =>
                have hlr' : l.length + r.size ≤ s2.size := by simpa using hlr
                exact ⟨r4, true, l ++ [(a, b)], rfl, rfl, HS4.out.1, HS4.out.2, by simp; omega, by simp, fun _ => by simp; omega⟩
end Go.Proofs.YtacgnbelcpmjfaaGreatDoor.Dx
