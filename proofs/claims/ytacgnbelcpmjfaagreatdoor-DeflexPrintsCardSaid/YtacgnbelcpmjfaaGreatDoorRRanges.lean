/-
  WALKS: the document's ranges of a set.
-/
import Derived.Test.YtacgnbelcpmjfaaGreatDoorRBytes
import Derived.Test.YtacgnbelcpmjfaaGreatDoorReader
set_option linter.unusedVariables false
set_option linter.unusedSimpArgs false
namespace Go.Proofs.YtacgnbelcpmjfaaGreatDoor.Dx
open Go.RowKit Go.Proofs Mx Bx
open Go.Lib (byteCells)
/-- append to a row of one's own, as one step of a region that draws. -/
theorem step_append_ownR {P : Program} {ops : Array Oper} {o : Oper} {a : Act} {w : World} {K : Act → World → Prop} {Q : Exit → Act → World → Prop} {E : Prop}
    (hg : o.guard = none) (s x : Operand) (t : TypeId) (hop : o.op = Op.call { callee := Callee.builtin Builtin.append, args := #[s, x], argTypes := #[t, t] })
    (base : Nat) (e : TypeId) (i : TypeInfo) (z : Value) (size bytes : Nat) (h1 : P.underlying t = some (.slice e)) (h2 : P.info? e = some i) (h3 : i.zero = some z) (h4 : i.size = size) (h5 : i.bytes = bytes) (h6 : z.cells.size = size) (h7 : 0 < size)
    (ao : Option Addr) (n cap : Nat) (olds : List Value) (hs : a.eval s = .slice ao n cap) (hown : w.ownsRow base e size (.slice ao n cap) n olds)
    (ad : Addr) (m c : Nat) (news : List Value) (hx : a.eval x = .slice (some ad) m c) (hn : news.length = m * size) (hc : ∀ j u, news[j]? = some u → w.cell? (ad.add j) = some u) (h1c : ∀ u ∈ news, u.oneCell' = true)
    (b1 : n + m ≤ maxLen) (b2 : (n + m) * bytes ≤ 140737488355328) (hbase : base ≤ w.heap.size)
    (hK : ∀ v' w', w'.ownsRow base e size v' (n + m) (olds ++ news) → w.grownBy w' (Value.slice ao n cap).ownBlock → K (a.put o.dst v') w') :
    if Region.wanted o (yielded ops a.tmps) = true then Oper.wp P o a w K Q else E := by
  have hw : Region.wanted o (yielded ops a.tmps) = true := by simp [Region.wanted, hg]
  rw [if_pos hw]
  obtain ⟨v', w', hrun, r1, r2, _⟩ := run_append_own (P := P) (w := w) base t o.type e i z size bytes h1 h2 h3 h4 h5 h6 h7 (.slice ao n cap) n olds hown ad m c news hn hc h1c b1 b2 hbase
  unfold Oper.wp
  simp [execOp, hop, resolve, invoke, builtin, hs, hx, hrun, Result.andThen]
  exact hK v' w' r1 r2
theorem grown_drew_lR {a w : World} {row : Option Nat} (h : a.drew.grownBy w row) : a.grownBy w row := ⟨h.os, h.tape, h.output, h.size, h.block⟩
theorem own_drewR {w : World} {B : Nat} {e : TypeId} {z : Nat} {v : Value} {n : Nat} {xs : List Value} (h : w.ownsRow B e z v n xs) : w.drew.ownsRow B e z v n xs := h
theorem own_mkR {w : World} {B : Nat} {e : TypeId} {z : Nat} {v : Value} {n : Nat} {xs : List Value} (h : w.ownsRow B e z v n xs) (q : Nat) (o : Obj) : ((w.drewN q).alloc o).ownsRow B e z v n xs := by
  have h1 : (w.drewN q).ownsRow B e z v n xs := h
  exact h1.alloc o
theorem pair_mkR (w : World) (q : Nat) (t : TypeId) (x y : Value) : ∀ j u, [x, y][j]? = some u → ((w.drewN q).alloc (.cells #[x, y] t)).cell? ((⟨w.heap.size, 0, none⟩ : Addr).add j) = some u := by
  intro j u hj
  have hb : Blk ((w.drewN q).alloc (.cells #[x, y] t)) w.heap.size t #[x, y] := Blk.new_ rfl _ _
  match j, hj with
  | 0, hj => simp at hj; subst hj; first | (simpa [Addr.add] using hb.cell 0) | exact hb.cell 0
  | 1, hj => simp at hj; subst hj; first | (simpa [Addr.add] using hb.cell 1) | exact hb.cell 1
theorem size_mkR {w : World} {B : Nat} (h : B ≤ w.heap.size) (q : Nat) (o : Obj) : B ≤ ((w.drewN q).alloc o).heap.size := by
  show B ≤ (w.heap.push o).size
  simp; omega
theorem below_mkR {B : Nat} {a w w3 : World} {row : Option Nat} {q : Nat} {o : Obj} (h : Below B a w) (hB : B ≤ w.heap.size) (hg : ((w.drewN q).alloc o).grownBy w3 row) (hr : ∀ k, row = some k → B ≤ k) : Below B a w3 :=
  ((below_drewN h q).alloc hB o).grown hg (size_mkR hB q o) hr
theorem one_pairR (x : UInt8) : ∀ u ∈ [Value.int .u8 (x.toNat : Int), Value.int .u8 (x.toNat : Int)], u.oneCell' = true := by
  intro u hu; simp at hu; subst hu; rfl
theorem wrap_lenR (n : Nat) (h : n ≤ 1000) : IntKind.i64.wrap (n : Int) = (n : Int) := by rw [IntKind.wrap_i64]; omega
theorem wrap_bR (c : UInt8) : IntKind.i64.wrap (c.toNat : Int) = (c.toNat : Int) := by have := c.toNat_lt; rw [IntKind.wrap_i64]; omega
theorem wrap_b1R (c : UInt8) : IntKind.i64.wrap ((c.toNat : Int) + 1) = (c.toNat : Int) + 1 := by have := c.toNat_lt; rw [IntKind.wrap_i64]; omega
set_option maxRecDepth 100000 in
set_option maxHeartbeats 4000000 in
theorem rranges_any (M : Nat) (w : World) :
    Calls Tryz.prog 69 #[setV M] w fun e w' => ∃ v, e = .returned v ∧ w'.ownsRow (w.heap.size + 1) 94 2 v (rgL (bytesOf M)).length (rcells (rgL (bytesOf M))) ∧ Below w.heap.size w w' := by
  have hby := fun W => rbytes_any M W
  obtain ⟨i0, hi, hz0, hz1, hz2⟩ := info_parts infoRange
  unfold setV at hby ⊢
  go_enter Tryz.func69, Tryz.ntmps69
  go_wp2_with fail
  refine (hby _).mono ?_
  rintro e w1 ⟨v, rfl, hl, hb1⟩
  obtain ⟨la, lc, rfl⟩ := own_shape hl
  have hb10 : Below w.heap.size w w1 := ((Below.refl w.heap.size w).alloc (Nat.le_refl _) _).trans (hb1.mono (by simp))
  have hs1 : w.heap.size + 1 ≤ w1.heap.size := by have := hb1.size; simp at this; omega
  have hlen := bytesOf_len M
  have H1 := Lib.hid (And.intro hl (And.intro hb10 hs1))
  obtain ⟨L, hL⟩ : ∃ L, (bytesOf M).length = L := ⟨_, rfl⟩
  rw [hL] at hlen ⊢
  have HL := Lib.hid hL
  clear hl hb1 hb10 hby hL
  go_wp2_with fail
  go_loopg [3, 5] L (fun m v3 v5 wr => ∃ i : Nat, i ≤ L ∧ m = L - i ∧ v5 = .int .i64 i ∧ wr.ownsRow w1.heap.size 94 2 v3 (rgK M i).length (rcells (rgK M i)) ∧ Below w1.heap.size w1 wr)
  case atStart => exact ⟨0, by omega, rfl, rfl, World.ownsRow_nil _ _ _ _, Below.refl _ _⟩
  case round =>
    obtain ⟨i, hil, hm, rfl, hown, hb⟩ := hrel
    obtain ⟨sa, sc, rfl⟩ := own_shape hown
    by_cases hlt : i < L
    · have hlt' : (i : Int) < (L : Int) := by omega
      have hi0 : (0 : Int) ≤ (i : Int) := by omega
      have hn := rgK_next M i (by rw [HL.out]; exact hlt)
      have hrl := rgK_len M i
      have hbc : (byteCells (bytesOf M))[i]? = some (.int .u8 ((byteK M i).toNat : Int)) := by
        unfold byteCells byteK
        rw [List.getElem?_map, List.getElem?_eq_getElem (by rw [HL.out]; exact hlt), Option.map_some]
        simp [List.getD, List.getElem?_eq_getElem (show i < (bytesOf M).length by rw [HL.out]; exact hlt)]
      obtain ⟨gl, lc', hla⟩ : ∃ g c, Value.slice la (bytesOf M).length lc = .slice (some ⟨g, 0, none⟩) (bytesOf M).length c := by
        rcases H1.out.1.2 with ⟨h, h0⟩ | ⟨g, cap, cur, h, _⟩
        · have := HL.out; omega
        · exact ⟨_, _, h⟩
      have H1' := H1.out.1
      rw [hla] at H1'
      injection hla with e1 e2 e3
      subst e1
      subst e3
      obtain ⟨b, hbk⟩ : ∃ b, byteK M i = b := ⟨_, rfl⟩
      rw [hbk] at hn hbc
      have hcl : wr.cell? ⟨gl, i, none⟩ = some (.int .u8 (b.toNat : Int)) := by
        have h1 := H1'.cellAt i (by rw [HL.out]; omega)
        rw [hbc] at h1
        exact (hb.cell (p := ⟨gl, i, none⟩) (H1'.lt gl rfl).2).trans h1
      clear hbc H1' hbk
      have hb256 := b.toNat_lt
      have A := Lib.hid (And.intro hm (And.intro hown hb))
      have hszr : w1.heap.size ≤ wr.heap.size := hb.size
      clear hm hb
      rcases snoc_cases (rgK M i) with hnil | ⟨mm, ⟨a, c⟩, hsn⟩
      · rw [hnil] at hown hn
        rw [pushR_nil] at hn
        have HN := Lib.hid (And.intro hn hown)
        rw [hnil]
        clear hn hown hrl
        go_wp2_with fail
        go_quiet (fail)
        go_wp2_with fail
        have hm1 : 0 + 1 ≤ maxLen := by decide
        have hm2 : (0 + 1) * 2 ≤ 140737488355328 := by decide
        have hne : ∀ k, (Value.slice sa 0 sc).ownBlock = some k → w1.heap.size ≤ k := fun k hk => (HN.out.2.lt k hk).1
        go_region_law (refine step_append_ownR rfl (.tmp 44) (.tmp 54) 91 rfl w1.heap.size 94 i0 (.agg #[.int .u8 0, .int .u8 0]) 2 2 Tryz.underlying91 hi hz0 hz1 hz2 rfl (by decide) _ _ _ _ ?_ (own_mkR HN.out.2 _ _) ⟨wr.heap.size, 0, none⟩ 1 1 [.int .u8 (b.toNat : Int), .int .u8 (b.toNat : Int)] ?_ rfl ?_ (one_pairR b) hm1 hm2 ?_ ?_; (focus (first | rfl | (simp [Act.eval, Act.put]; done))); (focus (first | rfl | (simp [Act.eval, Act.put]; done))); (focus (exact pair_mkR _ _ _ _ _)); (focus (exact size_mkR hszr _ _)); intro v' w3 hown' hgrow; have H3 := Lib.hid (And.intro hown' (below_mkR A.out.2.2 hszr hgrow hne)); clear hown' hgrow)
        all_goals
          go_wp2_with fail
          go_roundg (L - (i + 1))
          case measure => have := A.out.1; omega
          case rel =>
            refine ⟨i + 1, by omega, rfl, rfl, ?_, H3.out.2⟩
            rw [HN.out.1]
            have h := H3.out.1
            rw [rcells_append] at h
            simpa using h
      · rw [hsn] at hown hn hrl
        have hml : (mm ++ [(a, c)]).length = mm.length + 1 := by simp
        rw [hml] at hown hrl
        obtain ⟨g, cap, hsl, hg⟩ := own_last hown
        rw [hsn, hml]
        injection hsl with e1 e2 e3
        subst e1
        subst e3
        have hcell : wr.cell? ⟨g, mm.length * 2 + 1, none⟩ = some (.int .u8 (c.toNat : Int)) := by
          rw [hown.cellAt _ (by omega)]
          have : (mm ++ [(a, c)])[mm.length]? = some (a, c) := by simp
          exact (rcells_get _ _ _ _ this).2
        have hfz := hown.frozenAt
        have hc256 := c.toNat_lt
        have hwm := wrap_lenR mm.length (by omega)
        have hwc := wrap_bR c
        have hwc1 := wrap_b1R c
        have hwb := wrap_bR b
        have hm0 : (0 : Int) < (mm.length : Int) + 1 := by omega
        have hmn : (mm.length : Int) < (mm.length : Int) + 1 := by omega
        have hmz : (0 : Int) ≤ (mm.length : Int) := by omega
        rw [pushR_snoc] at hn
        by_cases hcb : c.toNat + 1 = b.toNat
        · rw [if_pos hcb] at hn
          have hce : ((c.toNat : Int) + 1 == (b.toNat : Int)) = true := by simp; omega
          have hrs := own_set hown (mm.length * 2 + 1) (by omega) (.int .u8 (b.toNat : Int))
          rw [rcells_last] at hrs
          have HN := Lib.hid (And.intro hn hrs)
          clear hn hown hcb hrs
          go_wp2_with fail
          go_quiet (fail)
          go_wp2_with fail
          go_roundg (L - (i + 1))
          case measure => have := A.out.1; omega
          case rel =>
            refine ⟨i + 1, by omega, rfl, rfl, ?_, ?_⟩
            · rw [HN.out.1]
              have h := HN.out.2
              rw [show (mm ++ [(a, b)]).length = mm.length + 1 by simp]
              exact h
            · exact (below_drewN A.out.2.2 _).setCell (p := ⟨g, mm.length * 2 + 1, none⟩) hg _
        · rw [if_neg hcb] at hn
          have hce : ((c.toNat : Int) + 1 == (b.toNat : Int)) = false := by simp; omega
          have HN := Lib.hid (And.intro hn hown)
          clear hn hown hcb
          go_wp2_with fail
          go_quiet (fail)
          go_wp2_with fail
          have hm1 : mm.length + 1 + 1 ≤ maxLen := by unfold maxLen; omega
          have hm2 : (mm.length + 1 + 1) * 2 ≤ 140737488355328 := by omega
          have hne : ∀ k, (Value.slice (some ⟨g, 0, none⟩) (mm.length + 1) sc).ownBlock = some k → w1.heap.size ≤ k := fun k hk => (HN.out.2.lt k hk).1
          go_region_law (refine step_append_ownR rfl (.tmp 44) (.tmp 54) 91 rfl w1.heap.size 94 i0 (.agg #[.int .u8 0, .int .u8 0]) 2 2 Tryz.underlying91 hi hz0 hz1 hz2 rfl (by decide) _ _ _ _ ?_ (own_mkR HN.out.2 _ _) ⟨wr.heap.size, 0, none⟩ 1 1 [.int .u8 (b.toNat : Int), .int .u8 (b.toNat : Int)] ?_ rfl ?_ (one_pairR b) hm1 hm2 ?_ ?_; (focus (first | rfl | (simp [Act.eval, Act.put]; done))); (focus (first | rfl | (simp [Act.eval, Act.put]; done))); (focus (exact pair_mkR _ _ _ _ _)); (focus (exact size_mkR hszr _ _)); intro v' w3 hown' hgrow; have H3 := Lib.hid (And.intro hown' (below_mkR A.out.2.2 hszr hgrow hne)); clear hown' hgrow)
          all_goals
            go_wp2_with fail
            go_roundg (L - (i + 1))
            case measure => have := A.out.1; omega
            case rel =>
              refine ⟨i + 1, by omega, rfl, rfl, ?_, H3.out.2⟩
              rw [HN.out.1]
              have h := H3.out.1
              rw [rcells_append] at h
              simpa using h
    · obtain rfl : i = L := by omega
      have A := Lib.hid (And.intro hown hb)
      clear hown hb
      go_wp2_with fail
      go_ret
      have hfull : rgK M i = rgL (bytesOf M) := by unfold rgK; rw [← HL.out, List.take_length]
      rw [← hfull]
      exact ⟨_, rfl, own_low A.out.1 H1.out.2.2, H1.out.2.1.trans (A.out.2.mono H1.out.2.1.size)⟩
end Go.Proofs.YtacgnbelcpmjfaaGreatDoor.Dx
