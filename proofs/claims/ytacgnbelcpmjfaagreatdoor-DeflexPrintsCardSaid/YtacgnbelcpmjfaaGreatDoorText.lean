/-
  PLAIN LAWS: what stands in quotes.
  WALKS of the reader: text.
-/
import Derived.Test.YtacgnbelcpmjfaaGreatDoorEscape
import Derived.Test.YtacgnbelcpmjfaaGreatDoorMemA
set_option linter.unusedVariables false
namespace Go.Proofs.YtacgnbelcpmjfaaGreatDoor.Dx
open Go

/-- What stands behind an opening quote: the bytes that are meant, and how many bytes tell them, the closing quote too. -/
def textF : Nat → List UInt8 → Option (List UInt8 × Nat)
  | 0, _ => none
  | _ + 1, [] => none
  | f + 1, c :: t =>
    if c = 34 then some ([], 1)
    else if c.toNat < 32 ∨ 126 < c.toNat then none
    else if c = 92 then (match escF t with
      | none => none
      | some (b, n) => (textF f (t.drop n)).map fun p => (b :: p.1, p.2 + n + 1))
    else (textF f t).map fun p => (c :: p.1, p.2 + 1)
def txt (l : List UInt8) : Option (List UInt8 × Nat) := textF (l.length + 1) l
theorem textF_more : ∀ (f : Nat) (l : List UInt8), l.length < f → textF f l = textF (f + 1) l := by
  intro f
  induction f with
  | zero => intro l h; omega
  | succ f ih =>
    intro l h
    cases l with
    | nil => rfl
    | cons c t =>
      have ht : t.length < f := by simp at h; omega
      have hd : ∀ n, textF f (t.drop n) = textF (f + 1) (t.drop n) := fun n => ih _ (by rw [List.length_drop]; omega)
      rw [textF, textF, ih t ht]
      cases escF t with
      | none => rfl
      | some p => obtain ⟨b, n⟩ := p; simp only [hd n]
theorem textF_any (f : Nat) (l : List UInt8) (h : l.length < f) : textF f l = txt l := by
  obtain ⟨d, rfl⟩ : ∃ d, f = l.length + 1 + d := ⟨f - (l.length + 1), by omega⟩
  induction d with
  | zero => rfl
  | succ d ih =>
    have := textF_more (l.length + 1 + d) l (by omega)
    rw [show l.length + 1 + (d + 1) = l.length + 1 + d + 1 by omega, ← this]
    exact ih (by omega)
theorem txt_nil : txt [] = none := rfl
theorem txt_quote (t : List UInt8) : txt (34 :: t) = some ([], 1) := rfl
theorem txt_bad (c : UInt8) (t : List UInt8) (h : c.toNat < 32 ∨ 126 < c.toNat) : txt (c :: t) = none := by
  have h34 : c ≠ 34 := by rintro rfl; revert h; decide
  rw [txt, textF, if_neg h34, if_pos h]
theorem txt_esc (t : List UInt8) : txt (92 :: t) = (match escF t with
      | none => none
      | some (b, n) => (txt (t.drop n)).map fun p => (b :: p.1, p.2 + n + 1)) := by
  rw [txt, textF, if_neg (by decide), if_neg (by decide), if_pos rfl]
  cases escF t with
  | none => rfl
  | some p =>
    obtain ⟨b, n⟩ := p
    simp only [textF_any ((92 :: t).length) (t.drop n) (by rw [List.length_drop]; simp; omega)]
theorem txt_plain (c : UInt8) (t : List UInt8) (h34 : c ≠ 34) (h : ¬ (c.toNat < 32 ∨ 126 < c.toNat)) (h92 : c ≠ 92) : txt (c :: t) = (txt t).map fun p => (c :: p.1, p.2 + 1) := by
  rw [txt, textF, if_neg h34, if_neg h, if_neg h92, textF_any _ t (by simp)]
end Go.Proofs.YtacgnbelcpmjfaaGreatDoor.Dx
set_option linter.unusedVariables false
set_option linter.unusedSimpArgs false
namespace Go.Proofs.YtacgnbelcpmjfaaGreatDoor.Dx
open Go.RowKit Go.Proofs Mx
open Go.Lib (byteCells)

theorem infoByte : (Tryz.prog.info? 5).map (fun i => (i.zero, i.size, i.bytes)) = some (some (.int .u8 0), 1, 1) := by kernel_rfl
def TextOut (s : ByteArray) (k g : Nat) (w : World) : Option (List UInt8 × Nat) → Ending → World → Prop
  | some (o, n), e, w' => e = .returned (.tuple #[.string ⟨o.toArray⟩, .bool true]) ∧ Rd w' g s (k + 1 + n) ∧ w.grownBy w' (some g)
  | none, e, w' => e = .returned (.tuple #[.string ⟨#[]⟩, .bool false]) ∧ w.grownBy w' (some g)
/-- The loop's state: what has been read, and where. -/
structure TS (w : World) (g : Nat) (s : ByteArray) (wr : World) (v : Value) (o : List UInt8) (i : Nat) : Prop where
  own : wr.ownsRow w.heap.size 5 1 v o.length (byteCells o)
  rd : Rd wr g s i
  gr : w.grownBy wr (some g)
theorem TS.drewN {w : World} {g : Nat} {s : ByteArray} {wr : World} {v : Value} {o : List UInt8} {i : Nat} (h : TS w g s wr v o i) (n : Nat) : TS w g s (wr.drewN n) v o i :=
  ⟨h.own.kept (row := none) ⟨rfl, rfl, rfl, Nat.le_refl _, fun _ _ _ => rfl⟩ (by cases hv : v.ownBlock <;> simp), h.rd, grown_drewN h.gr n⟩
theorem TS.at_ {w : World} {g : Nat} {s : ByteArray} {wr : World} {v : Value} {o : List UInt8} {i j : Nat} (h : TS w g s wr v o i) (hg : g < w.heap.size) {x : Int} (hx : x = (j : Int)) : TS w g s (wr.setCell ⟨g, 1, none⟩ (.int .i64 x)) v o j :=
  ⟨ownsRow_setCell_below h.own hg _, Rd.at_ h.rd hx, grown_set h.gr rfl _⟩
theorem TS.grown {w : World} {g : Nat} {s : ByteArray} {wr w2 : World} {v : Value} {o : List UInt8} {i j : Nat} (h : TS w g s wr v o i) (hg : g < w.heap.size) (hb : wr.grownBy w2 (some g)) (hR : Rd w2 g s j) : TS w g s w2 v o j :=
  ⟨h.own.kept hb (.inr fun e => by have := (h.own.lt g e).1; omega), hR, grown_trans h.gr hb⟩
theorem TS.append {w : World} {g : Nat} {s : ByteArray} {wr w2 : World} {v v' : Value} {o : List UInt8} {i : Nat} {c : UInt8} {ob : Obj} (h : TS w g s wr v o i) (hg : g < w.heap.size)
    (hown : w2.ownsRow w.heap.size 5 1 v' (o.length + 1) (byteCells o ++ [.int .u8 (c.toNat : Int)])) (hgrow : (wr.alloc ob).grownBy w2 v.ownBlock) : TS w g s w2 v' (o ++ [c]) i := by
  have hne : ∀ b, v.ownBlock = some b → w.heap.size ≤ b := fun b hb => (h.own.lt b hb).1
  refine ⟨?_, ?_, ?_⟩
  · rw [byteCells_snoc] at hown
    simpa using hown
  · refine (h.rd.alloc ob).grown hgrow ?_
    intro e
    have := hne g e.symm
    omega
  · exact grown_row (grown_alloc h.gr ob) hgrow hne

theorem escF_le (l : List UInt8) (b : UInt8) (n : Nat) (h : escF l = some (b, n)) : n ≤ 3 := by
  cases l with
  | nil => cases h
  | cons c t =>
    rw [escF] at h
    split at h
    · simp at h; omega
    · split at h
      · unfold escH at h
        split at h
        · split at h
          · simp at h; omega
          · cases h
        · cases h
      · cases h
set_option maxRecDepth 100000 in
set_option maxHeartbeats 4000000 in
theorem text_any (g : Nat) (s : ByteArray) (k : Nat) (w : World) (hs : s.size ≤ 4000000000) (hk : k < s.size) (hR : Rd w g s k) (E : Env w) (hg6 : LB ≤ g) :
    Calls Tryz.prog 73 #[.pointer (some ⟨g, 0, none⟩)] w (TextOut s k g w (txt (s.data.toList.drop (k + 1)))) := by
  obtain ⟨i0, hi, hz0, hz1, hz2⟩ := info_parts infoByte
  obtain ⟨c0, c1, cf⟩ := hR.facts2
  have hgw : g < w.heap.size := hR.lt
  have hT0 : TS w g s (w.setCell ⟨g, 1, none⟩ (.int .i64 ((k : Int) + 1))) (.slice none 0 0) [] (k + 1) :=
    ⟨⟨rfl, .inl ⟨rfl, rfl⟩⟩, Rd.at_ hR (by omega), grown_set (grown_refl _ _) rfl _⟩
  obtain ⟨T, hT⟩ : ∃ T, txt (s.data.toList.drop (k + 1)) = T := ⟨_, rfl⟩
  rw [hT]
  go_enter Tryz.func73, Tryz.ntmps73
  go_wp2_with fail
  go_loopg [4] (s.size - (k + 1)) (fun m v wr => ∃ (i : Nat) (o : List UInt8), k + 1 ≤ i ∧ m = s.size - i ∧ TS w g s wr v o i ∧ o.length ≤ i ∧ T = (txt (s.data.toList.drop i)).map (fun p => (o ++ p.1, p.2 + (i - (k + 1)))))
  case atStart =>
    refine ⟨k + 1, [], Nat.le_refl _, by omega, hT0, by simp, ?_⟩
    rw [hT]
    cases T <;> simp
  case round =>
    obtain ⟨i, o, hki, hm, hS, hol, hrel⟩ := hrel
    clear c0 c1 cf hT0 hT
    obtain ⟨c0, c1, cf⟩ := hS.rd.facts2
    have A := Lib.hid (And.intro hm (And.intro hS (And.intro hrel hki)))
    clear hm hS hrel hki
    by_cases hlt : i < s.size
    · obtain ⟨c, hc⟩ : ∃ c, s[i] = c := ⟨_, rfl⟩
      have HD := Lib.hid (drop_cons s i hlt)
      rw [hc] at HD
      have hx0 : (0 : Int) ≤ (i : Int) := by omega
      have hx1 : (i : Int) < (s.size : Int) := by omega
      have hR := Lib.hid hR
      have hcb : c.toNat < 256 := c.toNat_lt
      by_cases h34 : c = 34
      · subst h34
        have hcx : ((34 : UInt8).toNat : Int) = 34 := rfl
        have hcv := fun n m => conv_own (P := Tryz.prog) (src := 56) (dst := 9) (by rfl) (by rfl) (by rfl) ((A.out.2.1.drewN (n + m)).at_ hgw (j := i + 1) (x := (i : Int) + 1) (by omega)).own
        go_wp2_with fail
        go_quiet (fail)
        go_wp2_with fail
        go_quiet (fail)
        go_wp2_with fail
        go_ret2
        have hT : T = some (o, 1 + (i - (k + 1))) := by rw [A.out.2.2.1, HD.out, txt_quote]; simp
        rw [hT]
        refine ⟨rfl, ?_, ?_⟩
        · rw [show k + 1 + (1 + (i - (k + 1))) = i + 1 by have := A.out.2.2.2; omega]
          exact Rd.at_ ((A.out.2.1.drewN _).rd) (by omega)
        · exact grown_set (grown_drewN A.out.2.1.gr _) rfl _
      have n34 : ¬ (c.toNat : Int) = 34 := fun h => h34 (UInt8.toNat_inj.1 (show c.toNat = (34 : UInt8).toNat by have : (34 : UInt8).toNat = 34 := rfl; omega))
      have H34 := Lib.hid h34
      clear h34
      by_cases hbad : c.toNat < 32 ∨ 126 < c.toNat
      · have hT : T = none := by rw [A.out.2.2.1, HD.out, txt_bad c _ hbad]; rfl
        have HT := Lib.hid hT
        have hb : (c.toNat : Int) < 32 ∨ (¬ (c.toNat : Int) < 32 ∧ 126 < (c.toNat : Int)) := by omega
        clear hT hbad
        rcases hb with hb | ⟨hb1, hb2⟩
        all_goals
          go_wp2_with fail
          go_quiet (fail)
          go_wp2_with fail
          go_quiet (fail)
          go_wp2_with fail
          go_ret2
          rw [HT.out]
          exact ⟨rfl, grown_drewN A.out.2.1.gr _⟩
      have hb1 : ¬ (c.toNat : Int) < 32 := by omega
      have hb2 : ¬ 126 < (c.toNat : Int) := by omega
      have HB := Lib.hid hbad
      clear hbad
      by_cases h92 : c = 92
      · subst h92
        have hcx : ((92 : UInt8).toNat : Int) = 92 := rfl
        have hesc := fun n => escape_any g s i (wr.drewN n) hs hlt (A.out.2.1.drewN n).rd ((E.grown A.out.2.1.gr hg6).drewN n) hg6
        cases he : escF (s.data.toList.drop (i + 1)) with
        | none =>
          rw [he] at hesc
          have hT : T = none := by rw [A.out.2.2.1, HD.out, txt_esc, he]; rfl
          have HT := Lib.hid hT
          have HX := Lib.hid hesc
          clear hT hesc he n34 hb1 hb2
          go_wp2_with fail
          go_quiet (fail)
          go_wp2_with fail
          go_quiet (fail)
          go_wp2_with (go_at_call 87; refine (HX.out _).mono ?_; rintro e w2 ⟨rfl, hg2⟩)
          go_ret2
          rw [HT.out]
          exact ⟨rfl, grown_trans (grown_drewN A.out.2.1.gr _) hg2⟩
        | some bn =>
          obtain ⟨b, n⟩ := bn
          rw [he] at hesc
          have hn3 : n ≤ 3 := escF_le _ _ _ he
          have hT : T = (txt (s.data.toList.drop (i + n + 1))).map (fun p => (o ++ [b] ++ p.1, p.2 + (i + n + 1 - (k + 1)))) := by
            have := A.out.2.2.2
            rw [A.out.2.2.1, HD.out, txt_esc, he]
            simp only [List.drop_drop, Option.map_map]
            rw [show i + 1 + n = i + n + 1 by omega]
            congr 1
            funext p
            simp
            omega
          have HT := Lib.hid hT
          have HX := Lib.hid hesc
          clear hT hesc he n34 hb1 hb2
          go_wp2_with fail
          go_quiet (fail)
          go_wp2_with fail
          go_quiet (fail)
          go_wp2_with (go_at_call 87; refine (HX.out _).mono ?_)
          rintro e w2 ⟨rfl, hR2, hg2⟩
          have hS2 := (A.out.2.1.drewN _).grown hgw hg2 hR2
          go_wp2_with (at_builtin; refine wpList_append_own _ rfl _ _ 56 rfl w.heap.size 5 i0 (.int .u8 0) 1 1 Tryz.underlying56 hi hz0 hz1 hz2 rfl (by decide) _ _ _ rfl (hS2.own.alloc _) ⟨(w2).heap.size, 0, none⟩ 1 1 [.int .u8 (b.toNat : Int)] rfl rfl ?c1 ?c2 ?c3 ?c4 ?c5 ?_)
          case c1 =>
            intro j u hj
            match j, hj with
            | 0, hj => simp at hj; subst hj; first | (simp [Addr.add]; done) | exact (Blk.new _ _ _).cell 0
          case c2 => intro u hu; simp at hu; subst hu; rfl
          case c3 => unfold maxLen; omega
          case c4 => omega
          case c5 => have := hS2.gr.size; simp; omega
          intro v' w3 hown' hgrow _
          have hS3 := Lib.hid (hS2.append (c := b) hgw hown' hgrow)
          clear hown' hgrow
          obtain ⟨d0, d1, df⟩ := hS3.out.rd.facts2
          go_wp2
          go_roundg (s.size - (i + n + 1))
          case measure => have := A.out.1; omega
          case rel =>
            exact ⟨i + n + 1, o ++ [b], by have := A.out.2.2.2; omega, rfl, hS3.out.at_ hgw (by omega), by simp; omega, HT.out⟩
      · have n92 : ¬ (c.toNat : Int) = 92 := fun h => h92 (UInt8.toNat_inj.1 (show c.toNat = (92 : UInt8).toNat by have : (92 : UInt8).toNat = 92 := rfl; omega))
        have hT : T = (txt (s.data.toList.drop (i + 1))).map (fun p => (o ++ [c] ++ p.1, p.2 + (i + 1 - (k + 1)))) := by
          have := A.out.2.2.2
          rw [A.out.2.2.1, HD.out, txt_plain c _ H34.out HB.out h92]
          simp only [Option.map_map]
          congr 1
          funext p
          simp
          omega
        have HT := Lib.hid hT
        clear hT h92
        go_wp2_with fail
        go_quiet (fail)
        go_wp2_with fail
        go_quiet (fail)
        have hS2 := A.out.2.1
        go_wp2_with (at_builtin; refine wpList_append_own _ rfl _ _ 56 rfl w.heap.size 5 i0 (.int .u8 0) 1 1 Tryz.underlying56 hi hz0 hz1 hz2 rfl (by decide) _ _ _ rfl ((hS2.drewN _).own.alloc _) ⟨(wr).heap.size, 0, none⟩ 1 1 [.int .u8 (c.toNat : Int)] rfl rfl ?c1 ?c2 ?c3 ?c4 ?c5 ?_)
        case c1 =>
          intro j u hj
          match j, hj with
          | 0, hj => simp at hj; subst hj; first | (simp [Addr.add]; done) | exact (Blk.new _ _ _).cell 0
        case c2 => intro u hu; simp at hu; subst hu; rfl
        case c3 => unfold maxLen; omega
        case c4 => omega
        case c5 => have := hS2.gr.size; simp; omega
        intro v' w3 hown' hgrow _
        have hS3 := Lib.hid ((hS2.drewN _).append (c := c) hgw hown' hgrow)
        clear hown' hgrow
        obtain ⟨d0, d1, df⟩ := hS3.out.rd.facts2
        go_wp2
        go_roundg (s.size - (i + 1))
        case measure => have := A.out.1; omega
        case rel =>
          exact ⟨i + 1, o ++ [c], by have := A.out.2.2.2; omega, rfl, hS3.out.at_ hgw (by omega), by simp; omega, HT.out⟩
    · have hd : decide ((i : Int) < (s.size : Int)) = false := by simp; omega
      have HD := Lib.hid (drop_all s i (by omega))
      go_wp2_with fail
      go_quiet (fail)
      go_wp2
      go_ret2
      have hT : T = none := by rw [A.out.2.2.1, HD.out, txt_nil]; rfl
      rw [hT]
      exact ⟨rfl, grown_drewN A.out.2.1.gr _⟩
end Go.Proofs.YtacgnbelcpmjfaaGreatDoor.Dx
