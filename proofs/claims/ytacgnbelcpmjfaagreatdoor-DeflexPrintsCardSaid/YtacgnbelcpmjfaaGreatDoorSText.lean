/-
  WALKS: sets.Text.
-/
import Derived.Test.YtacgnbelcpmjfaaGreatDoorRanges
import Derived.Test.YtacgnbelcpmjfaaGreatDoorLaws
import Derived.Test.YtacgnbelcpmjfaaGreatDoorBuild2
set_option linter.unusedVariables false
set_option linter.unusedSimpArgs false
namespace Go.Proofs.YtacgnbelcpmjfaaGreatDoor.Dx
open Go.RowKit Go.Proofs Mx Bx

abbrev Bu (w wr : World) (bs : List UInt8) : Prop := Lib.IsBuilder 58 5 (w.heap.size + 1) (w.heap.size + 1) (Lib.byteCells bs) wr
theorem isb_blk {T e : TypeId} {B b : Nat} {bs : List Value} {w : World} (h : Lib.IsBuilder T e B b bs w) : ∃ cs, Blk w b T cs := by
  rcases h with ⟨_, v, hh, _⟩ | ⟨_, v, hh, _⟩
  · exact ⟨_, hh⟩
  · exact ⟨_, hh⟩
theorem row_others {w w' : World} {B : Nat} {e e8 T : TypeId} {z b : Nat} {v : Value} {n : Nat} {cs : Array Value} {ys : List Value} (h : w.ownsRow B e z v n ys) (hk : Lib.OthersKept e8 (some b) w w') (hb : Blk w b T cs) (hT : T ≠ e) (he : e ≠ e8) : w'.ownsRow B e z v n ys := by
  refine ⟨h.1, ?_⟩
  rcases h.2 with h2 | ⟨g, cap, cur, hv, hg, hh, r⟩
  · exact .inl h2
  · refine .inr ⟨g, cap, cur, hv, hg, hk g _ hh ?_ ?_, r⟩
    · intro e'
      have e' : g = b := Option.some.inj e'
      subst e'
      have : some (Obj.cells cs T (0, 0)) = some (Obj.cells cur e (0, 0)) := hb.symm.trans hh
      injection this with this
      injection this with _ e2 _
      exact hT e2
    · intro c fz e'
      injection e' with _ e2 _
      exact he e2
theorem isb_set {T e : TypeId} {B b : Nat} {bs : List Value} {w : World} (h : Lib.IsBuilder T e B b bs w) {q : Addr} (hq : q.block < B) (u : Value) : Lib.IsBuilder T e B b bs (w.setCell q u) := by
  rcases h with ⟨hB, v, hh, ho, hn⟩ | ⟨hB, v, hh, ho, hn⟩
  · exact .inl ⟨hB, v, (Below.heap_setCell w q u b (by omega)).trans hh, ownsRow_setCell_below ho hq u, hn⟩
  · exact .inr ⟨hB, v, (Below.heap_setCell w q u b (by omega)).trans hh, ownsRow_setCell_below ho hq u, hn⟩
theorem isb_lt {T e : TypeId} {B b : Nat} {bs : List Value} {w : World} (h : Lib.IsBuilder T e B b bs w) : b < w.heap.size := by
  obtain ⟨cs, hcs⟩ := isb_blk h
  exact hcs.lt
theorem itemT_one (a b : UInt8) (h : b = a) : itemT (a, b) = oneF a := by subst h; simp [itemT]
theorem itemT_two (a b : UInt8) (h : b ≠ a) (h2 : ¬ 1 < b.toNat - a.toNat) : itemT (a, b) = oneF a ++ oneF b := by simp [itemT, h, h2]
theorem itemT_dash (a b : UInt8) (h : b ≠ a) (h2 : 1 < b.toNat - a.toNat) : itemT (a, b) = oneF a ++ ([45] ++ oneF b) := by simp [itemT, h, h2]
theorem cells_one (bs : List UInt8) (c : UInt8) : Lib.byteCells bs ++ [.int .u8 (c.toNat : Int)] = Lib.byteCells (bs ++ [c]) := by simp [Lib.byteCells]
theorem cells_str (bs l : List UInt8) : Lib.byteCells bs ++ Lib.strCells ⟨l.toArray⟩ = Lib.byteCells (bs ++ l) := by simp [Lib.byteCells, Lib.strCells]
theorem items_take (l : List (UInt8 × UInt8)) (k : Nat) (a b : UInt8) (h : l[k]? = some (a, b)) : (l.take (k + 1)).flatMap itemT = (l.take k).flatMap itemT ++ itemT (a, b) := by
  obtain ⟨hk, he⟩ := List.getElem?_eq_some_iff.1 h
  rw [List.take_succ_eq_append_getElem hk, List.flatMap_append, he]
  simp
set_option maxRecDepth 100000 in
set_option maxHeartbeats 4000000 in
theorem stext_any (M : Nat) (hM : M < 2 ^ 256) (w : World) (hT : Bru w) (h6 : LB ≤ w.heap.size) :
    Calls Tryz.prog 30 #[setV M] w fun e w' => e = .returned (.string ⟨(setText M).toArray⟩) ∧ Below w.heap.size w w' := by
  have hcnt := count_any M
  unfold setV at hcnt ⊢
  have hfresh := Lib.fresh_isBuilder
  go_enter Tryz.func30, Tryz.ntmps30
  go_wp2_with fail
  have hB0 : Bu w ((w.alloc (.cells #[.int .u64 (wd M 0), .int .u64 (wd M 1), .int .u64 (wd M 2), .int .u64 (wd M 3)] 33)).alloc (.cells #[.pointer none, .slice none 0 0] 58)) [] := by
    have := hfresh 58 5 (w.alloc (.cells #[.int .u64 (wd M 0), .int .u64 (wd M 1), .int .u64 (wd M 2), .int .u64 (wd M 3)] 33))
    simp only [World.size_alloc] at this
    exact this
  have hS0 : Blk ((w.alloc (.cells #[.int .u64 (wd M 0), .int .u64 (wd M 1), .int .u64 (wd M 2), .int .u64 (wd M 3)] 33)).alloc (.cells #[.pointer none, .slice none 0 0] 58)) w.heap.size 33 (setC M) := (Blk.new_ rfl _ _).alloc _
  have hL0 : Below w.heap.size w ((w.alloc (.cells #[.int .u64 (wd M 0), .int .u64 (wd M 1), .int .u64 (wd M 2), .int .u64 (wd M 3)] 33)).alloc (.cells #[.pointer none, .slice none 0 0] 58)) := ((Below.refl _ w).alloc (Nat.le_refl _) _).alloc (by simp) _
  clear hfresh
  refine (writeByte2 (w.heap.size + 1) (w.heap.size + 1) (Lib.byteCells []) 91 _ hB0 (by simp [Lib.byteCells]) (by simp)).mono ?_
  rintro e w1 ⟨rfl, hb1, hl1, hk1⟩
  have hS1 := hS0.below hl1 (Nat.lt_succ_self _)
  have hL1 := hL0.trans (hl1.mono (Nat.le_succ _))
  rw [show Lib.byteCells [] ++ [.int .u8 91] = Lib.byteCells [91] from rfl] at hb1
  have hB1 : Bu w w1 [91] := .inr hb1
  have H1 := Lib.hid (And.intro hB1 (And.intro hS1 hL1))
  obtain ⟨c0, c1, c2, c3, cf⟩ := hS1.facts4
  clear hB0 hS0 hL0 hb1 hl1 hk1 hS1 hL1 hB1
  go_wp2_with fail
  refine (hcnt _).mono ?_
  rintro e w2 ⟨rfl, hb2⟩
  have hS2 := H1.out.2.1.below hb2 H1.out.2.1.lt
  have hB2 : Bu w w2 [91] := isb_below H1.out.1 hb2
  have hL2 := H1.out.2.2.trans (hb2.mono H1.out.2.2.size)
  have H2 := Lib.hid (And.intro hB2 (And.intro hS2 hL2))
  obtain ⟨d0, d1, d2, d3, df⟩ := hS2.facts4
  clear hB2 hS2 hL2 hb2 c0 c1 c2 c3 cf hcnt
  by_cases hbig : 128 < (bytesOf M).length
  case' pos =>
    have hbi : (128 : Int) < ((bytesOf M).length : Int) := by omega
    have hnot := not_set M
    unfold setV at hnot
    go_wp2_with fail
    refine (writeByte2 (w.heap.size + 1) (w.heap.size + 1) (Lib.byteCells [91]) 94 _ H2.out.1 (by simp [Lib.byteCells]) (by have := H2.out.1; have := isb_blk this; obtain ⟨cs, hcs⟩ := this; have := hcs.lt; omega)).mono ?_
    rintro e w3 ⟨rfl, hb3, hl3, hk3⟩
    have hS3 := H2.out.2.1.below hl3 (Nat.lt_succ_self _)
    have hL3 := H2.out.2.2.trans (hl3.mono (Nat.le_succ _))
    rw [show Lib.byteCells [91] ++ [.int .u8 94] = Lib.byteCells [91, 94] from rfl] at hb3
    have hB3 : Bu w w3 [91, 94] := .inr hb3
    have H3 := Lib.hid (And.intro hB3 (And.intro hS3 hL3))
    obtain ⟨e0, e1, e2, e3, ef⟩ := hS3.facts4
    clear hS3 hL3 hb3 hl3 hk3 hB3 d0 d1 d2 d3 df
    go_wp2_with fail
    refine (hnot _).mono ?_
    rintro e w4 ⟨rfl, hb4⟩
    have hS4 := H3.out.2.1.below hb4 H3.out.2.1.lt
    obtain ⟨f0, f1, f2, f3, ff⟩ := hS4.facts4
    clear e0 e1 e2 e3 ef hnot
    go_wp2_with fail
    obtain ⟨W, hW⟩ : ∃ W, (((w4.setCell ⟨w.heap.size, 0, none⟩ (.int .u64 (wd (notM M) 0))).setCell ⟨w.heap.size, 1, none⟩ (.int .u64 (wd (notM M) 1))).setCell ⟨w.heap.size, 2, none⟩ (.int .u64 (wd (notM M) 2))).setCell ⟨w.heap.size, 3, none⟩ (.int .u64 (wd (notM M) 3)) = W := ⟨_, rfl⟩
    obtain ⟨N, hN⟩ : ∃ N, notM M = N := ⟨_, rfl⟩
    obtain ⟨P, hP⟩ : ∃ P : List UInt8, [91, 94] = P := ⟨_, rfl⟩
    have hB4 : Bu w w4 [91, 94] := isb_below H3.out.1 hb4
    have hL4 := H3.out.2.2.trans (hb4.mono H3.out.2.2.size)
    have hBuW : Bu w W P := by
      rw [← hW, ← hP]
      exact isb_set (isb_set (isb_set (isb_set hB4 (Nat.lt_succ_self _) _) (Nat.lt_succ_self _) _) (Nat.lt_succ_self _) _) (Nat.lt_succ_self _) _
    have hBeW : Below w.heap.size w W := by
      rw [← hW]
      exact (((hL4.setCell (p := ⟨w.heap.size, 0, none⟩) (Nat.le_refl _) _).setCell (p := ⟨w.heap.size, 1, none⟩) (Nat.le_refl _) _).setCell (p := ⟨w.heap.size, 2, none⟩) (Nat.le_refl _) _).setCell (p := ⟨w.heap.size, 3, none⟩) (Nat.le_refl _) _
    have hst : setText M = P ++ (itemsT N ++ [93]) := by rw [setText, if_pos hbig, ← hP, ← hN]; rfl
    clear hB4 hL4 f0 f1 f2 f3 ff hS4 hb4 hbig H3 H2 H1
    have hPl : P.length ≤ 2 := by rw [← hP]; simp
    rw [hW, hN]
    have HS := Lib.hid (And.intro hBuW (And.intro hBeW (And.intro hst hPl)))
    clear hBuW hBeW hst hP hN hW hPl hbi
  case' neg =>
    have hbi : ¬ (128 : Int) < ((bytesOf M).length : Int) := by omega
    go_wp2_with fail
    obtain ⟨W, hW⟩ : ∃ W, w2 = W := ⟨_, rfl⟩
    obtain ⟨N, hN⟩ : ∃ N, M = N := ⟨_, rfl⟩
    obtain ⟨P, hP⟩ : ∃ P : List UInt8, [91] = P := ⟨_, rfl⟩
    have hBuW : Bu w W P := by rw [← hW, ← hP]; exact H2.out.1
    have hBeW : Below w.heap.size w W := by rw [← hW]; exact H2.out.2.2
    have hst : setText M = P ++ (itemsT N ++ [93]) := by rw [setText, if_neg hbig, ← hP, ← hN]; rfl
    clear d0 d1 d2 d3 df hbig H2 H1
    have hPl : P.length ≤ 2 := by rw [← hP]; simp
    rw [hW, hN]
    have HS := Lib.hid (And.intro hBuW (And.intro hBeW (And.intro hst hPl)))
    clear hBuW hBeW hst hP hN hW hPl hbi
  all_goals
    have hrg := ranges_any N W (hT.below HS.out.2.1 h6) (Nat.le_trans h6 HS.out.2.1.size)
    unfold setV at hrg
    refine hrg.mono ?_
    rintro e w5 ⟨v, rfl, hown, hb5⟩
    have hle := (rgL_to N 256 (Nat.le_refl _)).1
    have hl256 : (rgL (bytesOf N)).length ≤ 256 := Nat.le_trans (rgL_len_le _) (bytesOf_len N)
    have hit : itemsT N = (rgL (bytesOf N)).flatMap itemT := rfl
    rw [show rgL (bytesTo N 256) = rgL (bytesOf N) from rfl] at hle
    obtain ⟨l, hll⟩ : ∃ l, rgL (bytesOf N) = l := ⟨_, rfl⟩
    rw [hll] at hown hle hl256 hit
    obtain ⟨sa, sc, rfl⟩ := own_shape hown
    have hBu5 : Bu w w5 P := isb_below HS.out.1 hb5
    have hBe5 := HS.out.2.1.trans (hb5.mono HS.out.2.1.size)
    have H5 := Lib.hid (And.intro hown (And.intro hBu5 (And.intro hBe5 (And.intro hit hle))))
    clear hown hBu5 hBe5 hit hle hb5 hll hrg
    go_wp2_with fail
    go_loopw [16] (fun i wr => ∃ k : Nat, k ≤ l.length ∧ i = .int .i64 k ∧ Bu w wr (P ++ (l.take k).flatMap itemT) ∧ wr.ownsRow W.heap.size 94 2 (.slice sa l.length sc) l.length (rcells l) ∧ Below w.heap.size w wr) (fun i _ => l.length - (intOf i).toNat)
    case atStart => exact ⟨0, Nat.zero_le _, rfl, by simpa using H5.out.2.1, H5.out.1, H5.out.2.2.1⟩
    case round =>
      obtain ⟨k, hk, rfl, hbu, hrow, hbe⟩ := hrel
      by_cases hlt : k < l.length
      · obtain ⟨ab, hab⟩ : ∃ ab, l[k]? = some ab := ⟨l[k], List.getElem?_eq_getElem hlt⟩
        obtain ⟨a, b⟩ := ab
        have hle : a.toNat ≤ b.toNat := H5.out.2.2.2.2 (a, b) (List.mem_of_getElem? hab)
        obtain ⟨g, rfl⟩ : ∃ g, sa = some ⟨g, 0, none⟩ := by
          rcases hrow.2 with ⟨_, h0⟩ | ⟨g, cap, cur, hv, _⟩
          · omega
          · injection hv with e1 _ _; exact ⟨g, e1⟩
        obtain ⟨ca, cb⟩ := rcells_get l k a b hab
        have ca' : wr.cell? ⟨g, k * 2, none⟩ = some (.int .u8 (a.toNat : Int)) := (hrow.cellAt (k * 2) (by omega)).trans ca
        have cb' : wr.cell? ⟨g, k * 2 + 1, none⟩ = some (.int .u8 (b.toNat : Int)) := (hrow.cellAt (k * 2 + 1) (by omega)).trans cb
        have hki : (k : Int) < (l.length : Int) := by omega
        have hk0 : (0 : Int) ≤ (k : Int) := by omega
        have hnext := items_take l k a b hab
        have hlen : (P ++ (l.take k).flatMap itemT).length ≤ 2 + 9 * 256 := by
          rw [List.length_append]
          have := items_len (l.take k)
          have := HS.out.2.2.2
          have : (l.take k).length ≤ l.length := by simp; exact Nat.min_le_right _ _
          omega
        obtain ⟨Q, hQ⟩ : ∃ Q, P ++ (l.take k).flatMap itemT = Q := ⟨_, rfl⟩
        rw [hQ] at hbu hlen
        have hnext2 : P ++ (l.take (k + 1)).flatMap itemT = Q ++ itemT (a, b) := by rw [hnext, ← hQ, List.append_assoc]
        have oa := oneF_len a
        have ob := oneF_len b
        have ha256 := a.toNat_lt
        have hb256 := b.toNat_lt
        have H6 := Lib.hid (And.intro hbu (And.intro hrow (And.intro hbe hnext2)))
        have hbb := isb_lt hbu
        clear hbu hrow hbe hnext hnext2 hab ca cb hQ
        go_wp2_with fail
        refine (one_any a _).mono ?_
        rintro e w6 ⟨rfl, m6, rfl⟩
        have hb6 : Below wr.heap.size wr ((wr.alloc (.cells #[.int .u8 (a.toNat : Int), .int .u8 (b.toNat : Int)] 94)).drewN m6) := Mx.below_drewN ((Below.refl _ wr).alloc (Nat.le_refl _) _) _
        have hx6 : Blk ((wr.alloc (.cells #[.int .u8 (a.toNat : Int), .int .u8 (b.toNat : Int)] 94)).drewN m6) wr.heap.size 94 #[.int .u8 (a.toNat : Int), .int .u8 (b.toNat : Int)] := (Blk.new_ rfl _ _).drewN m6
        have hbu6 : Bu w ((wr.alloc (.cells #[.int .u8 (a.toNat : Int), .int .u8 (b.toNat : Int)] 94)).drewN m6) Q := isb_below H6.out.1 hb6
        have hrow6 := row_below H6.out.2.1 hb6
        have hbe6 := H6.out.2.2.1.trans (hb6.mono H6.out.2.2.1.size)
        obtain ⟨w6, hw6⟩ : ∃ w6, (wr.alloc (.cells #[.int .u8 (a.toNat : Int), .int .u8 (b.toNat : Int)] 94)).drewN m6 = w6 := ⟨_, rfl⟩
        rw [hw6] at hx6 hbu6 hrow6 hbe6 ⊢
        have hwlt := hx6.lt
        have H7 := Lib.hid (And.intro hbu6 (And.intro hrow6 (And.intro hbe6 hx6)))
        obtain ⟨y0, y1, yf⟩ := hx6.facts2
        clear hb6 hx6 hbu6 hrow6 hbe6 hw6 ca' cb'
        go_wp2_with fail
        refine (writeString2 (w.heap.size + 1) (w.heap.size + 1) _ _ _ H7.out.1 (by rw [Lib.byteCells_length]; simp [ByteArray.size]; omega) (by first | omega | (simp; omega))).mono ?_
        rintro e w8 ⟨rfl, hbn, hln, hkn⟩
        rw [cells_str] at hbn
        have hbu' : Bu w w8 (Q ++ oneF a) := .inr hbn
        obtain ⟨csb, hcsb⟩ := isb_blk H7.out.1
        have hrow' := row_others H7.out.2.1 hkn hcsb (by decide) (by decide)
        have hblk' := kept_blk H7.out.2.2.2 hkn (by omega) (by decide)
        have hbe' := H7.out.2.2.1.trans (hln.mono (Nat.le_succ _))
        have H8 := Lib.hid (And.intro hbu' (And.intro hrow' (And.intro hbe' hblk')))
        have hszH8 := hblk'.lt
        obtain ⟨z0, z1, zf⟩ := hblk'.facts2
        clear hbu' hrow' hbe' hblk' hbn hln hkn hcsb
        clear y0 y1 yf
        by_cases hba : b = a
        · have hq1 : ((b.toNat : Int) != (a.toNat : Int)) = false := by rw [hba]; simp
          have hq2 : ¬ (1 : Int) < (b.toNat : Int) - (a.toNat : Int) := by rw [hba]; omega
          have hle' : (0 : Int) ≤ (b.toNat : Int) - (a.toNat : Int) := by omega
          have hIT := Lib.hid (itemT_one a b hba)
          clear hba hle
          go_wp2_with fail
          go_roundw
          case rel => exact ⟨k + 1, by omega, by go_num, by rw [H6.out.2.2.2, hIT.out]; exact H8.out.1, H8.out.2.1, H8.out.2.2.1⟩
          case measure => simp [intOf]; omega
        · have hne : b.toNat ≠ a.toNat := fun e => hba (UInt8.toNat_inj.1 e)
          have hq1 : ((b.toNat : Int) != (a.toNat : Int)) = true := by simp; omega
          by_cases hd : 1 < b.toNat - a.toNat
          · have hq2 : (1 : Int) < (b.toNat : Int) - (a.toNat : Int) := by omega
            have hIT := Lib.hid (itemT_dash a b hba hd)
            clear hba hd hne hle
            go_wp2_with fail
            refine (writeByte2 (w.heap.size + 1) (w.heap.size + 1) _ 45 _ H8.out.1 (by rw [Lib.byteCells_length]; simp; omega) (by omega)).mono ?_
            rintro e w9 ⟨rfl, hbn, hln, hkn⟩
            rw [show (45 : Int) = ((45 : UInt8).toNat : Int) from rfl, cells_one] at hbn
            have hbu' : Bu w w9 (Q ++ oneF a ++ [45]) := .inr hbn
            obtain ⟨csb, hcsb⟩ := isb_blk H8.out.1
            have hrow' := row_others H8.out.2.1 hkn hcsb (by decide) (by decide)
            have hblk' := kept_blk H8.out.2.2.2 hkn (by omega) (by decide)
            have hbe' := H8.out.2.2.1.trans (hln.mono (Nat.le_succ _))
            have H9 := Lib.hid (And.intro hbu' (And.intro hrow' (And.intro hbe' hblk')))
            have hszH9 := hblk'.lt
            clear z0 z1 zf
            obtain ⟨z0, z1, zf⟩ := hblk'.facts2
            clear hbu' hrow' hbe' hblk' hbn hln hkn hcsb
            go_wp2_with fail
            refine (one_any b _).mono ?_
            rintro e w10 ⟨rfl, m10, rfl⟩
            go_wp2_with fail
            clear z0 z1 zf
            refine (writeString2 (w.heap.size + 1) (w.heap.size + 1) _ _ _ (isb_below H9.out.1 (Mx.below_drewN (Below.refl _ _) m10)) (by rw [Lib.byteCells_length]; simp [ByteArray.size]; omega) (by first | omega | (simp; omega))).mono ?_
            rintro e w11 ⟨rfl, hbn, hln, hkn⟩
            rw [cells_str] at hbn
            have hbu' : Bu w w11 (Q ++ oneF a ++ [45] ++ oneF b) := .inr hbn
            obtain ⟨csb, hcsb⟩ := isb_blk (isb_below H9.out.1 (Mx.below_drewN (Below.refl _ _) m10))
            have hrow' := row_others (row_below H9.out.2.1 (Mx.below_drewN (Below.refl _ _) m10)) hkn hcsb (by decide) (by decide)
            have hblk' := kept_blk (H9.out.2.2.2.drewN m10) hkn (by omega) (by decide)
            have hbe' := (Mx.below_drewN H9.out.2.2.1 m10).trans (hln.mono (Nat.le_succ _))
            have H11 := Lib.hid (And.intro hbu' (And.intro hrow' (And.intro hbe' hblk')))
            have hszH11 := hblk'.lt
            obtain ⟨z0, z1, zf⟩ := hblk'.facts2
            clear hbu' hrow' hbe' hblk' hbn hln hkn hcsb
            go_wp2_with fail
            go_roundw
            case rel => exact ⟨k + 1, by omega, by go_num, by rw [H6.out.2.2.2, hIT.out, ← List.append_assoc, ← List.append_assoc]; exact H11.out.1, H11.out.2.1, H11.out.2.2.1⟩
            case measure => simp [intOf]; omega
          · have hq2 : ¬ (1 : Int) < (b.toNat : Int) - (a.toNat : Int) := by omega
            have hle' : (0 : Int) ≤ (b.toNat : Int) - (a.toNat : Int) := by omega
            have hIT := Lib.hid (itemT_two a b hba hd)
            clear hba hd hne hle
            go_wp2_with fail
            refine (one_any b _).mono ?_
            rintro e w10 ⟨rfl, m10, rfl⟩
            go_wp2_with fail
            clear z0 z1 zf
            refine (writeString2 (w.heap.size + 1) (w.heap.size + 1) _ _ _ (isb_below H8.out.1 (Mx.below_drewN (Below.refl _ _) m10)) (by rw [Lib.byteCells_length]; simp [ByteArray.size]; omega) (by first | omega | (simp; omega))).mono ?_
            rintro e w11 ⟨rfl, hbn, hln, hkn⟩
            rw [cells_str] at hbn
            have hbu' : Bu w w11 (Q ++ oneF a ++ oneF b) := .inr hbn
            obtain ⟨csb, hcsb⟩ := isb_blk (isb_below H8.out.1 (Mx.below_drewN (Below.refl _ _) m10))
            have hrow' := row_others (row_below H8.out.2.1 (Mx.below_drewN (Below.refl _ _) m10)) hkn hcsb (by decide) (by decide)
            have hblk' := kept_blk (H8.out.2.2.2.drewN m10) hkn (by omega) (by decide)
            have hbe' := (Mx.below_drewN H8.out.2.2.1 m10).trans (hln.mono (Nat.le_succ _))
            have H11 := Lib.hid (And.intro hbu' (And.intro hrow' (And.intro hbe' hblk')))
            have hszH11 := hblk'.lt
            obtain ⟨z0, z1, zf⟩ := hblk'.facts2
            clear hbu' hrow' hbe' hblk' hbn hln hkn hcsb
            go_wp2_with fail
            go_roundw
            case rel => exact ⟨k + 1, by omega, by go_num, by rw [H6.out.2.2.2, hIT.out, ← List.append_assoc]; exact H11.out.1, H11.out.2.1, H11.out.2.2.1⟩
            case measure => simp [intOf]; omega
      · obtain rfl : k = l.length := by omega
        rw [List.take_length] at hbu
        have hlen : (P ++ l.flatMap itemT).length ≤ 2 + 9 * 256 := by
          rw [List.length_append]
          have := items_len l
          have := HS.out.2.2.2
          omega
        have hbb := isb_lt hbu
        have H6 := Lib.hid (And.intro hbu hbe)
        clear hbu hbe hrow
        go_wp2_with fail
        refine (writeByte2 (w.heap.size + 1) (w.heap.size + 1) _ 93 _ H6.out.1 (by rw [Lib.byteCells_length]; omega) (by omega)).mono ?_
        rintro e w8 ⟨rfl, hb8, hl8, hk8⟩
        rw [show (93 : Int) = ((93 : UInt8).toNat : Int) from rfl, cells_one] at hb8
        have hbu8 : Bu w w8 (P ++ l.flatMap itemT ++ [93]) := .inr hb8
        have hbb8 := isb_lt hbu8
        have H8 := Lib.hid (And.intro hbu8 (H6.out.2.trans (hl8.mono (Nat.le_succ _))))
        clear hbu8 hb8 hl8 hk8
        go_wp2_with fail
        refine (Tryz.Builder_String_any (w.heap.size + 1) (w.heap.size + 1) _ _ H8.out.1 (by omega)).mono ?_
        rintro e w9 ⟨rfl, hb9⟩
        go_wp2_with fail
        go_ret
        refine ⟨ret_str ?_, H8.out.2.trans (hb9.mono (Nat.le_succ _))⟩
        rw [HS.out.2.2.1, H5.out.2.2.2.1]
end Go.Proofs.YtacgnbelcpmjfaaGreatDoor.Dx
