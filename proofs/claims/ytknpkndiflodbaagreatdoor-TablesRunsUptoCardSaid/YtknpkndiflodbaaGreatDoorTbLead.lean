/-
  WALKS: maker.lead.
-/
import Derived.Test.YtknpkndiflodbaaGreatDoorTbLead2
import Derived.Test.YtknpkndiflodbaaGreatDoorTbSortI
import Derived.Test.YtknpkndiflodbaaGreatDoorTbNumber
import Derived.Test.YtknpkndiflodbaaGreatDoorTbSetsA
import Derived.Deep.RegionHeld3
set_option linter.unusedVariables false
set_option linter.unusedSimpArgs false
namespace Go.Proofs.YtknpkndiflodbaaGreatDoor.Tb
open Go Go.RowKit Go.Proofs Go.Maps Mx Go.Shelf
attribute [local go_sem] Oper.semAt_some
theorem encI_one (s : Int) : ∀ u ∈ encI s, u.oneCell' = true := by intro u hu; simp [encI] at hu; subst hu; rfl
theorem infoInt : (Tryz.prog.info? 3).map (fun i => (i.zero, i.size, i.bytes)) = some (some (.int .i64 0), 1, 8) := by kernel_rfl
theorem int_one (w : World) (s : Int) : ∀ j u, (encI s)[j]? = some u → (w.alloc (.cells #[.int .i64 s] 3)).cell? ((⟨w.heap.size, 0, none⟩ : Addr).add j) = some u := by
  intro j u hj
  have hb : Blk (w.alloc (.cells #[.int .i64 s] 3)) w.heap.size 3 #[.int .i64 s] := Blk.new w _ _
  rw [addr_add_, Nat.zero_add, hb.cell j]
  simpa [encI] using hj
theorem it_two (w : World) (a b : Nat) : ∀ j u, (encIt (a, b))[j]? = some u → (w.alloc (.cells #[.int .i64 (a : Int), .int .i64 (b : Int)] 53)).cell? ((⟨w.heap.size, 0, none⟩ : Addr).add j) = some u := by
  intro j u hj
  have hb : Blk (w.alloc (.cells #[.int .i64 (a : Int), .int .i64 (b : Int)] 53)) w.heap.size 53 #[.int .i64 (a : Int), .int .i64 (b : Int)] := Blk.new w _ _
  rw [addr_add_, Nat.zero_add, hb.cell j]
  simpa [encIt] using hj
/-- In a round of the first loop: its variables. -/
def Round1 (b c : Nat) (w0 : World) (L : List (It × Sy)) (tm : Array Value) (k : Nat) (a' : Act) (W : World) : Prop :=
  ∃ x8 x9 : Nat, a' = { tmps := ((((tm.setIfInBounds 32 (.agg #[.int .i64 ((aK L k).1.1 : Int), .int .i64 ((aK L k).1.2 : Int)])).setIfInBounds 33 (.agg #[.int .i64 (aK L k).2.kind, .int .u64 (wd (aK L k).2.set 0), .int .u64 (wd (aK L k).2.set 1), .int .u64 (wd (aK L k).2.set 2), .int .u64 (wd (aK L k).2.set 3), .int .i64 (aK L k).2.sort])).setIfInBounds 8 (.pointer (some ⟨x8, 0, none⟩))).setIfInBounds 9 (.pointer (some ⟨x9, 0, none⟩))), defers := [] } ∧
    (Blk W x8 53 #[.int .i64 ((aK L k).1.1 : Int), .int .i64 ((aK L k).1.2 : Int)] ∧ Blk W x9 28 #[.int .i64 (aK L k).2.kind, .int .u64 (wd (aK L k).2.set 0), .int .u64 (wd (aK L k).2.set 1), .int .u64 (wd (aK L k).2.set 2), .int .u64 (wd (aK L k).2.set 3), .int .i64 (aK L k).2.sort]) ∧
    (c ≤ x8 ∧ c ≤ x9) ∧ LeadI b c w0 (L.take k) W
theorem round1_own (b c n0 : Nat) (w0 : World) (L : List (It × Sy)) (tm : Array Value) (a' : Act) (hn : b + 4 ≤ n0) : OwnFrom n0 (fun k W => Round1 b c w0 L tm k a' W) := by
  rintro k W W' row ⟨x8, x9, e, ⟨h8, h9⟩, hc, h⟩ hg hr
  have hcells : ∀ {g : Nat} {t : TypeId} {cs : Array Value}, Blk W g t cs → some g ≠ row := fun {g t cs} hB e => by
    obtain ⟨_, o, ho, hc⟩ := hr g e.symm
    unfold Blk at hB
    rw [hB] at ho
    injection ho with ho
    subst ho
    cases hc
  exact ⟨x8, x9, e, ⟨h8.grown hg (hcells h8), h9.grown hg (hcells h9)⟩, hc, leadG_own b c n0 w0 (fun k => (L.take k).length) (fun k => ordL (L.take k)) (fun k => ordL (L.take k)) (fun k => ofsL (L.take k)) (fun k => grpL (L.take k)) hn k W W' row h hg hr⟩
set_option maxRecDepth 100000 in
set_option maxHeartbeats 16000000 in
theorem lead_any (g : Gr) (hg : Good g) (B mb bm : Nat) (sm : List SM) (n : Nat) (s : SM) (hn : sm[n]? = some s) (hs : Bare s) (w : World) (hm : MkW g B mb bm sm w) (hT : ∀ W', KeepM mb bm w W' → Bru W') (hLB : LB ≤ B)
    (hsrt : ∀ (c : Nat) (o : List Int) (v : Value) (W : World), o.length ≤ 1000000 → W.ownsRow c 3 1 v o.length (flatK encI o) → Calls Tryz.prog 68 #[v] W fun e W' => e = .returned (.tuple #[]) ∧ W'.ownsRow c 3 1 v o.length (flatK encI (o.foldr insInt [])) ∧ W.grownBy W' v.ownBlock) :
    Calls Tryz.prog 36 #[.pointer (some ⟨mb, 0, none⟩), .int .i64 (n : Int)] w (Led g B mb bm sm n s w) := by
  obtain ⟨va, hva1, hva2⟩ := hm.all
  have hnl : n < sm.length := (List.getElem?_eq_some_iff.1 hn).1
  obtain ⟨ag, ac, rfl, hagB, _, _⟩ := own_some hva2 (by omega)
  have hSM := opt_of (own_sliceK encSM_len hva2)
  obtain ⟨_, _, eag, _, haglt, hcells⟩ := hSM.at_ hnl
  injection eag with eag
  injection eag with e1 e2 _
  subst e1; subst e2
  have hsn : sm[n] = s := by rw [List.getElem?_eq_getElem hnl] at hn; injection hn
  rw [hsn] at hcells
  have c0 := hcells 0 _ rfl
  simp only [Nat.zero_add, Nat.add_zero] at c0
  have hse := hm.each s (List.mem_of_getElem? hn)
  obtain ⟨ia, ic, hvi, hic1, hic2, hik⟩ := hse.items
  rw [hvi] at c0
  have hvi0 := hvi
  have hmm := @run_makeMap Tryz.prog
  have hn0 : (0 : Int) ≤ (n : Int) := by omega
  have hnl1 : (n : Int) < (sm.length : Int) := by omega
  have hah := fun W => ahead_any mb ia s.items.length ic W
  have hilen := hse.len
  have HM := Lib.hid (And.intro hm (And.intro hg (And.intro hs (And.intro hse (And.intro hik (And.intro hva2 (And.intro hn (And.intro hT hLB))))))))
  clear hm hg hs hse hik hva2 hn hT hSM hcells hsn hvi
  refine calls_of_wp_post Tryz.func36 rfl ?_
  simp only [Tryz.ntmps36, List.size_toArray, List.length_cons, List.length_nil, Nat.reduceAdd, Nat.reduceSub, Array.replicate_succ, Array.replicate_zero, List.push_toArray, List.append_toArray, List.nil_append, List.cons_append]
  go_wp2_with fail
  refine (hah _).mono ?_
  rintro e w1 ⟨rfl, rfl⟩
  go_wp2_with fail
  have hX1 : LeadI w.heap.size (w.heap.size + 6) w [] ((((((w.alloc (.map #[] 0)).alloc (.cells #[.map (some w.heap.size)] 136)).alloc (.cells #[.slice none 0 0] 68)).alloc (.cells #[.slice none 0 0] 137)).alloc (.cells #[.pointer (some ⟨mb, 0, none⟩)] 90)).alloc (.cells #[.slice ia s.items.length ic] 50)) :=
    ⟨((((Blk.new_ (by simp) _ _).alloc _).alloc _).alloc _).alloc _, ⟨_, (((Blk.new_ (by simp) _ _).alloc _).alloc _).alloc _, World.ownsRow_nil _ _ _ _⟩, ⟨_, ((Blk.new_ (by simp) _ _).alloc _).alloc _, World.ownsRow_nil _ _ _ _⟩,
      ⟨fun _ => none, fun _ => .slice none 0 0, (((((MapV.made w Tryz.prog 3).alloc _).alloc _).alloc _).alloc _).alloc _, by simp [ordL], fun _ _ => rfl, by simp [ordL]⟩,
      (((((((Below.refl _ w).alloc (Nat.le_refl _) _).alloc (by simp) _).alloc (by simp; omega) _).alloc (by simp; omega) _).alloc (by simp; omega) _).alloc (by simp; omega) _), by simp⟩
  have hB4 : Blk ((((((w.alloc (.map #[] 0)).alloc (.cells #[.map (some w.heap.size)] 136)).alloc (.cells #[.slice none 0 0] 68)).alloc (.cells #[.slice none 0 0] 137)).alloc (.cells #[.pointer (some ⟨mb, 0, none⟩)] 90)).alloc (.cells #[.slice ia s.items.length ic] 50)) (w.heap.size + 4) 90 #[.pointer (some ⟨mb, 0, none⟩)] := (Blk.new_ (by simp) _ _).alloc _
  have hB5 : Blk ((((((w.alloc (.map #[] 0)).alloc (.cells #[.map (some w.heap.size)] 136)).alloc (.cells #[.slice none 0 0] 68)).alloc (.cells #[.slice none 0 0] 137)).alloc (.cells #[.pointer (some ⟨mb, 0, none⟩)] 90)).alloc (.cells #[.slice ia s.items.length ic] 50)) (w.heap.size + 5) 50 #[.slice ia s.items.length ic] := Blk.new_ (by simp) _ _
  generalize ((((((w.alloc (.map #[] 0)).alloc (.cells #[.map (some w.heap.size)] 136)).alloc (.cells #[.slice none 0 0] 68)).alloc (.cells #[.slice none 0 0] 137)).alloc (.cells #[.pointer (some ⟨mb, 0, none⟩)] 90)).alloc (.cells #[.slice ia s.items.length ic] 50)) = w1 at hX1 hB4 hB5 ⊢
  have hsz1 : w.heap.size + 6 ≤ w1.heap.size := hX1.size
  have hDk : MkR (fun q => q < w.heap.size ∨ q = w.heap.size + 5 ∨ q = w.heap.size + 4) w1 mb g :=
    HM.out.1.gr.keep (fun q hq hl => ⟨.inl hl, hX1.below.block q hl⟩) hX1.below.size (hX1.below.cell (p := ⟨mb, 1, none⟩) HM.out.1.gr.lt) (hX1.below.cell (p := ⟨mb, 5, none⟩) HM.out.1.gr.lt)
  have hik : OptK (TyD B 53 w) encIt 2 w ia s.items := HM.out.2.2.2.2.1
  have hDs : SliceK (fun q => q < w.heap.size ∨ q = w.heap.size + 5 ∨ q = w.heap.size + 4) encIt 2 w1 (.slice ia s.items.length ic) s.items :=
    ⟨ia, ic, rfl, hic1, hic2, hik.keep (fun q hq hl => ⟨.inl hl, hX1.below.block q hl⟩)⟩
  have hitr := ahead_iter (fun q => q < w.heap.size ∨ q = w.heap.size + 5 ∨ q = w.heap.size + 4) (fun _ => True) g mb s.items HM.out.2.2.2.1.ok (fun p hp => by have := HM.out.2.1.right p hp; omega) _ 4 (by decide) w1 hDk (.inl HM.out.1.gr.lt) hDs (w.heap.size + 5) (w.heap.size + 4) hB5 hB4 (.inr (.inl rfl)) (.inr (.inr rfl))
  have HI1 := Lib.hid (And.intro hX1 (And.intro hDk hDs))
  clear hik hDs hDk
  refine (wpIn_wide (n := 5)).1 ?_
  refine wpIn_rangeFunc_ownT rfl (by decide) (gf := 86) (lb := #[.pointer (some ⟨w.heap.size + 5, 0, none⟩), .pointer (some ⟨w.heap.size + 4, 0, none⟩)]) rfl trivial (enters_of Tryz.func86 (by kernel_rfl) rfl)
    hitr KeepD.trans (fun W l o o' h1 h2 h3 h4 => KeepD.putObj (w := w1) (fun q hq => by rcases hq with h | h | h <;> omega) l o o' h1 h2 h3 h4) (Below.refl _ _) (fun _ _ => rfl)
    (fun k W => LeadI w.heap.size (w.heap.size + 6) w ((aheadL g s.items).take k) W) (fun _ _ _ => False)
    (leadG_own w.heap.size (w.heap.size + 6) w1.heap.size w (fun k => ((aheadL g s.items).take k).length) (fun k => ordL ((aheadL g s.items).take k)) (fun k => ordL ((aheadL g s.items).take k)) (fun k => ofsL ((aheadL g s.items).take k)) (fun k => grpL ((aheadL g s.items).take k)) (by omega))
    (fun _ _ _ _ _ hs _ _ => hs)
    hX1
    (fun tm k a' W => Round1 w.heap.size (w.heap.size + 6) w (aheadL g s.items) tm k a' W) (fun a' => round1_own _ _ _ _ _ _ a' (by omega)) ?assign ?body ?done ?stop
  case stop => rintro D c k W _ _ h _; exact h.elim
  case assign =>
    intro lp k W K hk hI hK
    have hlt6 := hI.size
    have HH := Lib.hid hI
    clear hI hX1 hB4 hB5 hitr
    generalize hq : aK (aheadL g s.items) k = q at *
    obtain ⟨⟨qa, qb⟩, qs⟩ := q
    unfold encA
    simp only []
    gi_wp2
    refine hK _ _ ((KeepsOthers.trans (KeepsOthers.alloc _ _) (KeepsOthers.alloc _ _)).from _) (KeepD.below (((Below.refl _ W).alloc (Nat.le_refl _) _).alloc (by simp) _)) ?_
    unfold Round1
    rw [hq]
    exact ⟨W.heap.size, W.heap.size + 1, rfl, ⟨(Blk.new _ _ _).alloc _, Blk.new_ (by simp) _ _⟩, ⟨hlt6, by omega⟩, HH.out.up (((Below.refl _ W).alloc (Nat.le_refl _) _).alloc (by simp) _)⟩
  case body =>
    rintro lp k a' W ⟨x8, x9, rfl, ⟨h8, h9⟩, ⟨hc8, hc9⟩, hI⟩ hk
    have hget : (aheadL g s.items)[k]? = some (aK (aheadL g s.items) k) := by unfold aK; simp [List.getD, hk]
    have htk : (aheadL g s.items).take (k + 1) = (aheadL g s.items).take k ++ [aK (aheadL g s.items) k] := by rw [List.take_add_one, hget]; rfl
    have hqm := List.mem_of_getElem? hget
    have hLl := aheadL_len g s.items
    clear hX1 hB4 hB5 hitr hget
    obtain ⟨q, hq⟩ : ∃ q, aK (aheadL g s.items) k = q := ⟨_, rfl⟩
    rw [hq] at htk hqm h8 h9 ⊢
    obtain ⟨⟨qa, qb⟩, ⟨qk, qs, qo⟩⟩ := q
    have hsy : (qk = 0 ∧ qo = 0 ∧ qs ≠ 0 ∧ qs < 2 ^ 256) ∨ (qk = 1 ∧ qs = 0 ∧ 0 ≤ qo ∧ qo < g.sorts.length) := by
      obtain ⟨x, hx, ha, _⟩ := mem_aheadL hqm
      unfold aheadF rightOf at ha
      cases hp : g.prods[x.1]? with
      | none => rw [hp] at ha; simp at ha
      | some p =>
        rw [hp] at ha
        exact HM.out.2.1.sym p (List.mem_of_getElem? hp) ⟨qk, qs, qo⟩ (List.mem_of_getElem? ha)
    have hLt : ((aheadL g s.items).take k).length ≤ 100000 := by rw [List.length_take]; omega
    have hbl : ∀ W', Below W.heap.size W W' → KeepD (fun q => q < w.heap.size ∨ q = w.heap.size + 5 ∨ q = w.heap.size + 4) W W' := fun W' h => KeepD.below h
    generalize hT : (aheadL g s.items).take k = T at *
    simp only [List.setIfInBounds_toArray, List.set_cons_zero, List.set_cons_succ]
    obtain ⟨y0, y1, _⟩ := h8.facts2
    have z0 := h9.cell 0
    have z1 := h9.cell 1
    have z2 := h9.cell 2
    have z3 := h9.cell 3
    have z4 := h9.cell 4
    have z5 := h9.cell 5
    simp at z0 z1 z2 z3 z4 z5
    rcases hsy with ⟨rfl, _, _, hq256⟩ | ⟨rfl, hqs0, hqo0, hqo1⟩
    · obtain ⟨v, s1, s2⟩ := hI.of
      obtain ⟨sa, sc, rfl⟩ := own_shape s2
      have s1c := s1.cell 0
      have s1f := s1.frozen 0
      simp at s1c
      have hol := ofsL_len T
      obtain ⟨i0, hi, hz0, hz1, hz2⟩ := info_parts infoSet
      have HB := Lib.hid (And.intro hI (And.intro s1 (And.intro s2 (And.intro h8 (And.intro h9 htk)))))
      clear hI s1 s2 h8 h9 htk hT hq
      gi_wp2_with (gi_at_builtin; refine wpListIn_append_own _ rfl _ _ 137 rfl (w.heap.size + 6) 26 i0 (.agg #[.int .u64 0, .int .u64 0, .int .u64 0, .int .u64 0]) 4 32 Tryz.underlying137 hi hz0 hz1 hz2 rfl (by decide) _ (ofsL T).length _ rfl (HB.out.2.2.1.alloc _) ⟨W.heap.size, 0, none⟩ 1 1 (encSet qs) rfl rfl ?c1 ?c2 ?c3 ?c4 ?c5 ?_)
      case c1 => first | exact setCells_blk W qs | exact fun j u h => h
      case c2 => exact encSet_one' qs
      case c3 => unfold maxLen; omega
      case c4 => omega
      case c5 => have := HB.out.1.size; first | omega | (simp; omega)
      intro v' w3 hown' hg3 _
      have hgw : W.grownBy w3 (Value.slice sa (ofsL T).length sc).ownBlock := World.grownBy.trans (World.grownBy_alloc _ _ _) hg3
      obtain ⟨va', vc', rfl⟩ := own_shape hown'
      have hbx := HB.out.2.1.grown hgw (blk_ne_row HB.out.2.1 HB.out.2.2.1 (by decide))
      have bc := hbx.cell 0
      have bf := hbx.frozen 0
      simp at bc
      have hst := HB.out.1.pushSet (by omega) HB.out.2.1 HB.out.2.2.1 hgw hown'
      have hkf : KeepsFrom w1.heap.size W w3 := KeepsFrom.grown hgw (fun j e => .inr (by obtain ⟨_, c', fz, h⟩ := own_ty HB.out.2.2.1 j e; exact ⟨c', _, fz, h⟩))
      have hrl := fun j e => (HB.out.2.2.1.lt j e).1
      have HC := Lib.hid (And.intro hst (And.intro hkf (And.intro hgw hrl)))
      clear hown' hg3 hgw hbx hst hkf hrl
      gi_wp2
      refine ⟨HC.out.2.1.trans ((KeepsOthers.setCell _ _ _).from _), ⟨by have := HC.out.2.2.1.size; simpa using this, fun q hq hl => ?_⟩, ?_⟩
      · rw [Below.heap_setCell w3 ⟨w.heap.size + 1 + 1 + 1, 0, none⟩ _ q (by show q ≠ w.heap.size + 1 + 1 + 1; omega)]
        exact HC.out.2.2.1.block q hl (fun e => by have := HC.out.2.2.2 q e.symm; omega)
      · show LeadI _ _ _ _ _
        rw [HB.out.2.2.2.2.2]
        unfold LeadI
        rw [ordL_snoc, ofsL_snoc, if_pos rfl, List.length_append]
        have e1 : ordStep (ordL T) ((qa, qb), ⟨0, qs, qo⟩) = ordL T := by unfold ordStep; simp
        have e2 : grpL (T ++ [((qa, qb), ⟨0, qs, qo⟩)]) = grpL T := by funext t; rw [grpL_snoc]; simp
        rw [e1, e2]
        exact HC.out.1.mono (Nat.le_succ _)
    · obtain ⟨f, gv, g1, g2, g3, g4⟩ := hI.grp
      obtain ⟨v6, o1, o2⟩ := hI.ord
      obtain ⟨oa, oc, rfl⟩ := own_shape o2
      have b5 := hI.box.cell 0
      have b6 := o1.cell 0
      have f6 := o1.frozen 0
      simp at b5 b6
      have hS9 := HM.out.2.1.sorts
      have hKey : keyOf Tryz.prog 3 (.int .i64 qo) = some (.int .i64 qo) := keyOf_int_mk Tryz.underlying3 (by simp [Lit.wf, IntKind.min, IntKind.max, IntKind.bits, IntKind.signed]; omega)
      have hmem := mem_ordL T qo
      have hgl := grpL_len T qo
      have hoL := ordL_len T []
      have hcells8 : x8 < W.heap.size := h8.lt
      have hcells9 : x9 < W.heap.size := h9.lt
      have hbS := hI.size
      by_cases hin : qo ∈ ordL T
      · have hgr := (g2 qo hin).2
        have hf := (g2 qo hin).1
        have hne0 : (grpL T qo).length ≠ 0 := fun e => hmem.1 hin (List.eq_nil_of_length_eq_zero e)
        obtain ⟨va0, vc0, hv0⟩ := own_shape hgr
        have hlk : ∀ W', MapV Tryz.prog 3 W' w.heap.size T.length f → (Instr.lookup 136 (.map (some w.heap.size)) (.int .i64 qo) false).run Tryz.prog W' = .ok (.slice va0 (grpL T qo).length vc0) W' := fun W' hW' => by
          have h := hW'.lookup (int_keyed Tryz.underlying3) Tryz.underlying136 (Tryz.zeroValue50 W') hKey
          rw [hf, hv0] at h
          exact h
        have hlkW := hlk W g1
        have hlkD := hlk W.drew g1
        have hlkA := hlk (W.alloc (.cells #[.int .i64 (qa : Int), .int .i64 (qb : Int)] 53)).drew (g1.alloc _).drew
        have hln : (((grpL T qo).length : Int) == 0) = false := by rw [beq_eq_false_iff_ne]; omega
        rw [hv0] at hgr
        have HB := Lib.hid (And.intro hI (And.intro htk (And.intro g1 (And.intro g2 (And.intro g3 (And.intro g4 (And.intro hgr (And.intro hv0 (And.intro hin (And.intro hmem hKey))))))))))
        have B5x := hI.box
        have B9x := h9
        clear hI h8 h9 htk hlk g1 g2 g3 g4 hgr hv0 hin hmem hKey o1 o2 hT hq hf
        gi_wp2
        have hsX : w.heap.size + 6 ≤ W.heap.size := hbS
        have b5x := b5
        have z5x := z5
        have hS11 : W.drew.cell? ⟨w.heap.size + 1, 0, none⟩ = some (.map (some w.heap.size)) ∧ W.drew.cell? ⟨x9, 5, none⟩ = some (.int .i64 qo) := ⟨b5, z5⟩
        have hS11a : (W.drew.alloc (.cells #[.int .i64 (qa : Int), .int .i64 (qb : Int)] 53)).cell? ⟨w.heap.size + 1, 0, none⟩ = some (.map (some w.heap.size)) ∧ (W.drew.alloc (.cells #[.int .i64 (qa : Int), .int .i64 (qb : Int)] 53)).cell? ⟨x9, 5, none⟩ = some (.int .i64 qo) := ⟨cell_alloc_ hS11.1 _, cell_alloc_ hS11.2 _⟩
        refine wpIn_region_out (wideF_wide.inRound lp) (by kernel_rfl) (by kernel_rfl) (by rintro ⟨_, _, h⟩; exact h) ?_
        refine wpAny_of_held (S := (fun W' => W'.cell? ⟨w.heap.size + 1, 0, none⟩ = some (.map (some w.heap.size)) ∧ W'.cell? ⟨x9, 5, none⟩ = some (.int .i64 qo))) _ _ _ _ ?_
        show wpAnyH _ _ _ _ _ 11 #[false, false, false, false, false, false, false, false, false, false, false] _ _
        refine held_take (i := 0) (v := .map (some w.heap.size)) rfl (by kernel_rfl) rfl (fun _ _ _ h => h) (fun W' hW' => by obtain ⟨q1, q2⟩ := hW'; go_simp) hS11 ?_
        simp only [Act.put, List.setIfInBounds_toArray, List.set_cons_zero, List.set_cons_succ]
        refine held_take (i := 1) (v := .pointer (some ⟨x9, 5, none⟩)) rfl (by kernel_rfl) rfl (fun _ _ _ h => h) (fun W' hW' => by obtain ⟨q1, q2⟩ := hW'; go_simp) hS11 ?_
        simp only [Act.put, List.setIfInBounds_toArray, List.set_cons_zero, List.set_cons_succ]
        refine held_take (i := 2) (v := .int .i64 qo) rfl (by kernel_rfl) rfl (fun _ _ _ h => h) (fun W' hW' => by obtain ⟨q1, q2⟩ := hW'; go_simp) hS11 ?_
        simp only [Act.put, List.setIfInBounds_toArray, List.set_cons_zero, List.set_cons_succ]
        refine held_take (i := 3) (v := .map (some w.heap.size)) rfl (by kernel_rfl) rfl (fun _ _ _ h => h) (fun W' hW' => by obtain ⟨q1, q2⟩ := hW'; go_simp) hS11 ?_
        simp only [Act.put, List.setIfInBounds_toArray, List.set_cons_zero, List.set_cons_succ]
        refine held_take (i := 4) (v := .pointer (some ⟨x9, 5, none⟩)) rfl (by kernel_rfl) rfl (fun _ _ _ h => h) (fun W' hW' => by obtain ⟨q1, q2⟩ := hW'; go_simp) hS11 ?_
        simp only [Act.put, List.setIfInBounds_toArray, List.set_cons_zero, List.set_cons_succ]
        refine held_take (i := 5) (v := .int .i64 qo) rfl (by kernel_rfl) rfl (fun _ _ _ h => h) (fun W' hW' => by obtain ⟨q1, q2⟩ := hW'; go_simp) hS11 ?_
        simp only [Act.put, List.setIfInBounds_toArray, List.set_cons_zero, List.set_cons_succ]
        apply via
        · intro KV
          refine held_two (i := 6) (j := 7) (by kernel_rfl) rfl rfl rfl rfl ?_ ?_
          · intro K hK
            go_simp
            refine hK _ _ hS11 ?_
            clear hK K
            simp only [Act.put, List.setIfInBounds_toArray, List.set_cons_zero, List.set_cons_succ]
            refine held_one (i := 7) (by kernel_rfl) rfl rfl ?_
            intro K hK
            go_simp
            refine hK _ _ hS11 ?_
            clear hK K
            simp only [Act.put, List.setIfInBounds_toArray, List.set_cons_zero, List.set_cons_succ]
            refine held_one (i := 8) (by kernel_rfl) rfl rfl ?_
            intro K hK
            go_simp
            refine hK _ _ hS11a ?_
            clear hK K
            simp only [Act.put, List.setIfInBounds_toArray, List.set_cons_zero, List.set_cons_succ]
            exact KV.out
          · intro K hK
            go_simp
            refine hK _ _ hS11 ?_
            clear hK K
            simp only [Act.put, List.setIfInBounds_toArray, List.set_cons_zero, List.set_cons_succ]
            refine held_two (i := 6) (j := 8) (by kernel_rfl) rfl rfl rfl rfl ?_ ?_
            · intro K hK
              go_simp
              refine hK _ _ hS11 ?_
              clear hK K
              simp only [Act.put, List.setIfInBounds_toArray, List.set_cons_zero, List.set_cons_succ]
              refine held_one (i := 8) (by kernel_rfl) rfl rfl ?_
              intro K hK
              go_simp
              refine hK _ _ hS11a ?_
              clear hK K
              simp only [Act.put, List.setIfInBounds_toArray, List.set_cons_zero, List.set_cons_succ]
              exact KV.out
            · intro K hK
              go_simp
              refine hK _ _ hS11a ?_
              clear hK K
              simp only [Act.put, List.setIfInBounds_toArray, List.set_cons_zero, List.set_cons_succ]
              refine held_one (i := 6) (by kernel_rfl) rfl rfl ?_
              intro K hK
              go_simp
              refine hK _ _ hS11a ?_
              clear hK K
              simp only [Act.put, List.setIfInBounds_toArray, List.set_cons_zero, List.set_cons_succ]
              exact KV.out
        clear hlkD hlkA
        refine held_one (i := 9) (by kernel_rfl) rfl rfl ?_
        obtain ⟨i0, hi, hz0, hz1, hz2⟩ := info_parts infoItem
        intro K9 hK9
        refine wp_append_ownF _ _ _ 50 rfl (w.heap.size + 6) 53 i0 (.agg #[.int .i64 0, .int .i64 0]) 2 16 Tryz.underlying50 hi hz0 hz1 hz2 rfl (by decide) _ (grpL T qo).length (flatK encIt (grpL T qo)) rfl (HB.out.2.2.2.2.2.2.1.alloc _) ⟨W.heap.size, 0, none⟩ 1 1 (encIt (qa, qb)) rfl rfl ?c1 ?c2 ?c3 ?c4 ?c5 ?_
        case c1 => exact it_two W.drew qa qb
        case c2 => exact encIt_one (qa, qb)
        case c3 => unfold maxLen; omega
        case c4 => omega
        case c5 => have := hbS; have := hsX; first | omega | (simp; omega)
        intro v' w5 hown5 hg5 hfr5
        have hgw : W.grownBy w5 (Value.slice va0 (grpL T qo).length vc0).ownBlock := World.grownBy.trans (show W.grownBy (W.drew.alloc _) _ from World.grownBy.trans (grown_drewN (grown_refl W _) 1) (World.grownBy_alloc _ _ _)) hg5
        have q1 := (hgw.cell b5x (blk_ne_row B5x HB.out.2.2.2.2.2.2.1 (by decide)))
        have q2 := (hgw.cell z5x (blk_ne_row B9x HB.out.2.2.2.2.2.2.1 (by decide)))
        refine hK9 _ _ ⟨q1, q2⟩ ?_
        clear hK9 K9
        simp only [Act.put, List.setIfInBounds_toArray, List.set_cons_zero, List.set_cons_succ]
        refine held_one (i := 10) (by kernel_rfl) rfl rfl ?_
        have hm5 : MapV Tryz.prog 3 w5 w.heap.size T.length f := HB.out.2.2.1.grown hgw (fun e => by have := (HB.out.2.2.2.2.2.2.1.lt _ e.symm).1; omega)
        intro K10 hK10
        refine wp_mapUpdateV _ _ _ _ 136 rfl 3 50 (int_keyed Tryz.underlying3) Tryz.underlying136 w.heap.size T.length f rfl hm5 (by unfold maxLen; omega) _ v' _ rfl rfl HB.out.2.2.2.2.2.2.2.2.2.2 ?_
        intro w6 hm6 hg6
        refine hK10 _ _ ⟨hg6.cell q1 (by simp), hg6.cell q2 (by intro e; injection e with e; simp only at e; omega)⟩ ?_
        clear hK10 K10
        refine wpAnyH_done (by kernel_rfl) ?_ _
        simp only [Act.put, List.setIfInBounds_toArray, List.set_cons_zero, List.set_cons_succ]
        show KeepsFrom w1.heap.size W w6 ∧ KeepD _ W w6 ∧ LeadI _ _ _ _ w6
        have hrl := fun y e => (HB.out.2.2.2.2.2.2.1.lt y e).1
        refine ⟨(KeepsFrom.grown hgw (fun y e => .inr (by obtain ⟨_, c', fz, h⟩ := own_ty HB.out.2.2.2.2.2.2.1 y e; exact ⟨c', _, fz, h⟩))).trans (KeepsFrom.of_grownBy hg6 (fun y e => by injection e with e; omega)),
          ⟨Nat.le_trans hgw.size hg6.size, fun y hy hl => (hg6.block y (Nat.lt_of_lt_of_le hl hgw.size) (by intro e; injection e with e; omega)).trans (hgw.block y hl (fun e => by have := hrl y e.symm; omega))⟩, ?_⟩
        have hp := HB.out.1.pushGrp (by omega) HB.out.2.2.2.1 HB.out.2.2.2.2.1 HB.out.2.2.2.2.2.1 (.inl ⟨HB.out.2.2.2.2.2.2.2.2.1, HB.out.2.2.2.2.2.2.2.1.symm, rfl⟩) hgw HB.out.2.2.2.2.2.2.1 hown5
          (fun y hy => (hfr5 y hy).imp id (fun h => by have h2 : (W.drew.alloc (Obj.cells #[.int .i64 (qa : Int), .int .i64 (qb : Int)] 53)).heap.size ≤ y := h; rw [World.size_alloc] at h2; have : W.drew.heap.size = W.heap.size := rfl; omega)) hm6 hg6
        unfold LeadI
        rw [HB.out.2.1, ordL_snoc, ofsL_snoc, List.length_append]
        have e1 : ordStep (ordL T) ((qa, qb), ⟨1, qs, qo⟩) = ordL T := by unfold ordStep; simp [HB.out.2.2.2.2.2.2.2.2.1]
        have e2 : grpL (T ++ [((qa, qb), ⟨1, qs, qo⟩)]) = fun t => if t = qo then grpL T qo ++ [(qa, qb)] else grpL T t := by
          funext t
          rw [grpL_snoc]
          by_cases e : t = qo
          · subst e; simp
          · simp [e, Ne.symm e]
        rw [e1, e2]
        rw [if_pos HB.out.2.2.2.2.2.2.2.2.1] at hp
        simpa using hp
      · have hfn := g3 qo hin
        have hlkW : (Instr.lookup 136 (.map (some w.heap.size)) (.int .i64 qo) false).run Tryz.prog W = .ok (.slice none 0 0) W := by
          have h := g1.lookup (int_keyed Tryz.underlying3) Tryz.underlying136 (Tryz.zeroValue50 W) hKey
          rw [hfn] at h
          exact h
        have HB := Lib.hid (And.intro hI (And.intro h8 (And.intro h9 (And.intro htk (And.intro o1 (And.intro o2 (And.intro hin (And.intro hmem hKey))))))))
        clear hI h8 h9 htk g1 g2 g3 g4 hin hmem hKey o1 o2 hT hq hfn
        obtain ⟨i0, hi, hz0, hz1, hz2⟩ := info_parts infoInt
        gi_wp2_with (gi_at_builtin; refine wpListIn_append_own _ rfl _ _ 68 rfl (w.heap.size + 6) 3 i0 (.int .i64 0) 1 8 Tryz.underlying68 hi hz0 hz1 hz2 rfl (by decide) _ (ordL T).length _ rfl (HB.out.2.2.2.2.2.1.alloc _) ⟨W.heap.size, 0, none⟩ 1 1 (encI qo) rfl rfl ?d1 ?d2 ?d3 ?d4 ?d5 ?_)
        case d1 => first | exact int_one W qo | exact fun j u h => h
        case d2 => exact encI_one qo
        case d3 => unfold maxLen; have : ([] : List Int).length = 0 := rfl; unfold ordL at *; omega
        case d4 => have : ([] : List Int).length = 0 := rfl; unfold ordL at *; omega
        case d5 => first | omega | (simp; omega)
        intro v6' w4 hown4 hg4 _
        have hgw4 : W.grownBy w4 (Value.slice oa (ordL T).length oc).ownBlock := World.grownBy.trans (World.grownBy_alloc _ _ _) hg4
        obtain ⟨va6, vc6, rfl⟩ := own_shape hown4
        have hbx := HB.out.2.2.2.2.1.grown hgw4 (blk_ne_row HB.out.2.2.2.2.1 HB.out.2.2.2.2.2.1 (by decide))
        have bc := hbx.cell 0
        have bf := hbx.frozen 0
        simp at bc
        have hst := HB.out.1.pushOrd (by omega) HB.out.2.2.2.2.1 HB.out.2.2.2.2.2.1 hgw4 hown4
        have hrl4 := fun j e => (HB.out.2.2.2.2.2.1.lt j e).1
        have hkf : KeepsFrom w1.heap.size W (w4.setCell ⟨w.heap.size + 1 + 1, 0, none⟩ (.slice va6 ((ordL T).length + 1) vc6)) := (KeepsFrom.grown hgw4 (fun j e => .inr (by obtain ⟨_, c', fz, h⟩ := own_ty HB.out.2.2.2.2.2.1 j e; exact ⟨c', _, fz, h⟩))).trans ((KeepsOthers.setCell _ _ _).from _)
        have hkd : KeepD (fun q => q < w.heap.size ∨ q = w.heap.size + 5 ∨ q = w.heap.size + 4) W (w4.setCell ⟨w.heap.size + 1 + 1, 0, none⟩ (.slice va6 ((ordL T).length + 1) vc6)) :=
          ⟨by have := hgw4.size; simpa using this, fun y hy hl => by
            rw [Below.heap_setCell w4 ⟨w.heap.size + 1 + 1, 0, none⟩ _ y (by show y ≠ w.heap.size + 1 + 1; omega)]
            exact hgw4.block y hl (fun e => by have := hrl4 y e.symm; omega)⟩
        have h89 := (HB.out.2.1.grown hgw4 (blk_ne_row HB.out.2.1 HB.out.2.2.2.2.2.1 (by decide))).far (p := ⟨w.heap.size + 1 + 1, 0, none⟩) (by show x8 ≠ w.heap.size + 1 + 1; omega) (.slice va6 ((ordL T).length + 1) vc6)
        have h99 := (HB.out.2.2.1.grown hgw4 (blk_ne_row HB.out.2.2.1 HB.out.2.2.2.2.2.1 (by decide))).far (p := ⟨w.heap.size + 1 + 1, 0, none⟩) (by show x9 ≠ w.heap.size + 1 + 1; omega) (.slice va6 ((ordL T).length + 1) vc6)
        have HC := Lib.hid (And.intro hst (And.intro hkf (And.intro hkd (And.intro h89 h99))))
        clear hown4 hg4 hgw4 hbx hst hrl4 hkf hkd h89 h99
        gi_wp2
        obtain ⟨W9, hW9⟩ : ∃ W9, (w4.setCell ⟨w.heap.size + 1 + 1, 0, none⟩ (.slice va6 ((ordL T).length + 1) vc6)) = W9 := ⟨_, rfl⟩
        obtain ⟨hst, hkf, hkd, h89, h99⟩ := HC.out
        rw [hW9] at hst hkf hkd h89 h99 ⊢
        clear HC hW9 y0 y1 z0 z1 z2 z3 z4 z5 b5 b6 f6 bc bf hlkW
        obtain ⟨f9, gv9, g1, g2, g3, g4⟩ := hst.grp
        obtain ⟨y0, y1, _⟩ := h89.facts2
        have z5x := h99.cell 5
        have b5x := hst.box.cell 0
        simp at z5x b5x
        have hbS := hst.size
        have hsX : w.heap.size + 6 ≤ W9.heap.size := hbS
        have hfn9 := g3 qo HB.out.2.2.2.2.2.2.1
        have hlk : ∀ W', MapV Tryz.prog 3 W' w.heap.size T.length f9 → (Instr.lookup 136 (.map (some w.heap.size)) (.int .i64 qo) false).run Tryz.prog W' = .ok (.slice none 0 0) W' := fun W' hW' => by
          have h := hW'.lookup (int_keyed Tryz.underlying3) Tryz.underlying136 (Tryz.zeroValue50 W') HB.out.2.2.2.2.2.2.2.2
          rw [hfn9] at h
          exact h
        have hlkD := hlk W9.drew g1
        have hlkA := hlk (W9.alloc (.cells #[.int .i64 (qa : Int), .int .i64 (qb : Int)] 53)).drew (g1.alloc _).drew
        have hgr0 : W9.ownsRow (w.heap.size + 6) 53 2 (.slice none 0 0) 0 (flatK encIt ([] : List It)) := World.ownsRow_nil _ _ _ _
        have B5x := hst.box
        have B9x := h99
        have HB9 := Lib.hid (And.intro hst (And.intro g1 (And.intro g2 (And.intro g3 (And.intro g4 (And.intro hgr0 (And.intro hkf hkd)))))))
        have hS11 : W9.drew.cell? ⟨w.heap.size + 1, 0, none⟩ = some (.map (some w.heap.size)) ∧ W9.drew.cell? ⟨x9, 5, none⟩ = some (.int .i64 qo) := ⟨b5x, z5x⟩
        have hS11a : (W9.drew.alloc (.cells #[.int .i64 (qa : Int), .int .i64 (qb : Int)] 53)).cell? ⟨w.heap.size + 1, 0, none⟩ = some (.map (some w.heap.size)) ∧ (W9.drew.alloc (.cells #[.int .i64 (qa : Int), .int .i64 (qb : Int)] 53)).cell? ⟨x9, 5, none⟩ = some (.int .i64 qo) := ⟨cell_alloc_ hS11.1 _, cell_alloc_ hS11.2 _⟩
        clear hst g1 g2 g3 g4 hgr0 hkf hkd h89 h99 hlk hfn9 i0 hi hz0 hz1 hz2
        refine wpIn_region_out (wideF_wide.inRound lp) (by kernel_rfl) (by kernel_rfl) (by rintro ⟨_, _, h⟩; exact h) ?_
        refine wpAny_of_held (S := (fun W' => W'.cell? ⟨w.heap.size + 1, 0, none⟩ = some (.map (some w.heap.size)) ∧ W'.cell? ⟨x9, 5, none⟩ = some (.int .i64 qo))) _ _ _ _ ?_
        show wpAnyH _ _ _ _ _ 11 #[false, false, false, false, false, false, false, false, false, false, false] _ _
        refine held_take (i := 0) (v := .map (some w.heap.size)) rfl (by kernel_rfl) rfl (fun _ _ _ h => h) (fun W' hW' => by obtain ⟨q1, q2⟩ := hW'; go_simp) hS11 ?_
        simp only [Act.put, List.setIfInBounds_toArray, List.set_cons_zero, List.set_cons_succ]
        refine held_take (i := 1) (v := .pointer (some ⟨x9, 5, none⟩)) rfl (by kernel_rfl) rfl (fun _ _ _ h => h) (fun W' hW' => by obtain ⟨q1, q2⟩ := hW'; go_simp) hS11 ?_
        simp only [Act.put, List.setIfInBounds_toArray, List.set_cons_zero, List.set_cons_succ]
        refine held_take (i := 2) (v := .int .i64 qo) rfl (by kernel_rfl) rfl (fun _ _ _ h => h) (fun W' hW' => by obtain ⟨q1, q2⟩ := hW'; go_simp) hS11 ?_
        simp only [Act.put, List.setIfInBounds_toArray, List.set_cons_zero, List.set_cons_succ]
        refine held_take (i := 3) (v := .map (some w.heap.size)) rfl (by kernel_rfl) rfl (fun _ _ _ h => h) (fun W' hW' => by obtain ⟨q1, q2⟩ := hW'; go_simp) hS11 ?_
        simp only [Act.put, List.setIfInBounds_toArray, List.set_cons_zero, List.set_cons_succ]
        refine held_take (i := 4) (v := .pointer (some ⟨x9, 5, none⟩)) rfl (by kernel_rfl) rfl (fun _ _ _ h => h) (fun W' hW' => by obtain ⟨q1, q2⟩ := hW'; go_simp) hS11 ?_
        simp only [Act.put, List.setIfInBounds_toArray, List.set_cons_zero, List.set_cons_succ]
        refine held_take (i := 5) (v := .int .i64 qo) rfl (by kernel_rfl) rfl (fun _ _ _ h => h) (fun W' hW' => by obtain ⟨q1, q2⟩ := hW'; go_simp) hS11 ?_
        simp only [Act.put, List.setIfInBounds_toArray, List.set_cons_zero, List.set_cons_succ]
        apply via
        · intro KV
          refine held_two (i := 6) (j := 7) (by kernel_rfl) rfl rfl rfl rfl ?_ ?_
          · intro K hK
            go_simp
            refine hK _ _ hS11 ?_
            clear hK K
            simp only [Act.put, List.setIfInBounds_toArray, List.set_cons_zero, List.set_cons_succ]
            refine held_one (i := 7) (by kernel_rfl) rfl rfl ?_
            intro K hK
            go_simp
            refine hK _ _ hS11 ?_
            clear hK K
            simp only [Act.put, List.setIfInBounds_toArray, List.set_cons_zero, List.set_cons_succ]
            refine held_one (i := 8) (by kernel_rfl) rfl rfl ?_
            intro K hK
            go_simp
            refine hK _ _ hS11a ?_
            clear hK K
            simp only [Act.put, List.setIfInBounds_toArray, List.set_cons_zero, List.set_cons_succ]
            exact KV.out
          · intro K hK
            go_simp
            refine hK _ _ hS11 ?_
            clear hK K
            simp only [Act.put, List.setIfInBounds_toArray, List.set_cons_zero, List.set_cons_succ]
            refine held_two (i := 6) (j := 8) (by kernel_rfl) rfl rfl rfl rfl ?_ ?_
            · intro K hK
              go_simp
              refine hK _ _ hS11 ?_
              clear hK K
              simp only [Act.put, List.setIfInBounds_toArray, List.set_cons_zero, List.set_cons_succ]
              refine held_one (i := 8) (by kernel_rfl) rfl rfl ?_
              intro K hK
              go_simp
              refine hK _ _ hS11a ?_
              clear hK K
              simp only [Act.put, List.setIfInBounds_toArray, List.set_cons_zero, List.set_cons_succ]
              exact KV.out
            · intro K hK
              go_simp
              refine hK _ _ hS11a ?_
              clear hK K
              simp only [Act.put, List.setIfInBounds_toArray, List.set_cons_zero, List.set_cons_succ]
              refine held_one (i := 6) (by kernel_rfl) rfl rfl ?_
              intro K hK
              go_simp
              refine hK _ _ hS11a ?_
              clear hK K
              simp only [Act.put, List.setIfInBounds_toArray, List.set_cons_zero, List.set_cons_succ]
              exact KV.out
        clear hlkD hlkA
        refine held_one (i := 9) (by kernel_rfl) rfl rfl ?_
        obtain ⟨i0, hi, hz0, hz1, hz2⟩ := info_parts infoItem
        intro K9 hK9
        refine wp_append_ownF _ _ _ 50 rfl (w.heap.size + 6) 53 i0 (.agg #[.int .i64 0, .int .i64 0]) 2 16 Tryz.underlying50 hi hz0 hz1 hz2 rfl (by decide) _ 0 (flatK encIt ([] : List It)) rfl (HB9.out.2.2.2.2.2.1.alloc _) ⟨W9.heap.size, 0, none⟩ 1 1 (encIt (qa, qb)) rfl rfl ?c1 ?c2 ?c3 ?c4 ?c5 ?_
        case c1 => exact it_two W9.drew qa qb
        case c2 => exact encIt_one (qa, qb)
        case c3 => unfold maxLen; omega
        case c4 => omega
        case c5 => have := hbS; have := hsX; first | omega | (simp; omega)
        intro v' w5 hown5 hg5 hfr5
        have hgw : W9.grownBy w5 (Value.slice none 0 0).ownBlock := World.grownBy.trans (show W9.grownBy (W9.drew.alloc _) _ from World.grownBy.trans (grown_drewN (grown_refl W9 _) 1) (World.grownBy_alloc _ _ _)) hg5
        have q1 := (hgw.cell b5x (blk_ne_row B5x HB9.out.2.2.2.2.2.1 (by decide)))
        have q2 := (hgw.cell z5x (blk_ne_row B9x HB9.out.2.2.2.2.2.1 (by decide)))
        refine hK9 _ _ ⟨q1, q2⟩ ?_
        clear hK9 K9
        simp only [Act.put, List.setIfInBounds_toArray, List.set_cons_zero, List.set_cons_succ]
        refine held_one (i := 10) (by kernel_rfl) rfl rfl ?_
        have hm5 : MapV Tryz.prog 3 w5 w.heap.size T.length f9 := HB9.out.2.1.grown hgw (fun e => by have := (HB9.out.2.2.2.2.2.1.lt _ e.symm).1; omega)
        intro K10 hK10
        refine wp_mapUpdateV _ _ _ _ 136 rfl 3 50 (int_keyed Tryz.underlying3) Tryz.underlying136 w.heap.size T.length f9 rfl hm5 (by unfold maxLen; omega) _ v' _ rfl rfl HB.out.2.2.2.2.2.2.2.2 ?_
        intro w6 hm6 hg6
        refine hK10 _ _ ⟨hg6.cell q1 (by simp), hg6.cell q2 (by intro e; injection e with e; simp only at e; omega)⟩ ?_
        clear hK10 K10
        refine wpAnyH_done (by kernel_rfl) ?_ _
        simp only [Act.put, List.setIfInBounds_toArray, List.set_cons_zero, List.set_cons_succ]
        show KeepsFrom w1.heap.size W w6 ∧ KeepD _ W w6 ∧ LeadI _ _ _ _ w6
        refine ⟨(HB9.out.2.2.2.2.2.2.1.trans (KeepsFrom.grown hgw (fun y e => by cases e))).trans (KeepsFrom.of_grownBy hg6 (fun y e => by injection e with e; omega)),
          HB9.out.2.2.2.2.2.2.2.trans ⟨Nat.le_trans hgw.size hg6.size, fun y hy hl => (hg6.block y (Nat.lt_of_lt_of_le hl hgw.size) (by intro e; injection e with e; omega)).trans (hgw.block y hl (fun e => by cases e))⟩, ?_⟩
        have hp := HB9.out.1.pushGrp (by omega) HB9.out.2.2.1 HB9.out.2.2.2.1 HB9.out.2.2.2.2.1 (.inr ⟨HB.out.2.2.2.2.2.2.1, rfl, rfl⟩) hgw HB9.out.2.2.2.2.2.1 hown5
          (fun y hy => (hfr5 y hy).imp id (fun h => by have h2 : (W9.drew.alloc (Obj.cells #[.int .i64 (qa : Int), .int .i64 (qb : Int)] 53)).heap.size ≤ y := h; rw [World.size_alloc] at h2; have : W9.drew.heap.size = W9.heap.size := rfl; omega)) hm6 hg6
        unfold LeadI
        rw [HB.out.2.2.2.1, ordL_snoc, ofsL_snoc, List.length_append]
        have e1 : ordStep (ordL T) ((qa, qb), ⟨1, qs, qo⟩) = ordL T ++ [qo] := by unfold ordStep; simp [HB.out.2.2.2.2.2.2.1]
        have e3 : grpL T qo = [] := Classical.byContradiction fun h => HB.out.2.2.2.2.2.2.1 (HB.out.2.2.2.2.2.2.2.1.2 h)
        have e2 : grpL (T ++ [((qa, qb), ⟨1, qs, qo⟩)]) = fun t => if t = qo then [] ++ [(qa, qb)] else grpL T t := by
          funext t
          rw [grpL_snoc]
          by_cases e : t = qo
          · subst e; simp [e3]
          · simp [e, Ne.symm e]
        rw [e1, e2]
        rw [if_neg HB.out.2.2.2.2.2.2.1] at hp
        simpa using hp
  case done =>
    rintro D W hD hI hK
    rw [List.take_length] at hI
    go_step
    go_step
    exact lead_two g HM.out.2.1 B mb bm sm n s HM.out.2.2.2.2.2.2.1 HM.out.2.2.1 w HM.out.1 HM.out.2.2.2.2.2.2.2.1 HM.out.2.2.2.2.2.2.2.2 hsrt ia ic hvi0 W D hI hK (by omega) _ rfl
/-- lead's contract. -/
theorem lead_all (g : Gr) (hg : Good g) (B mb bm : Nat) (sm : List SM) (n : Nat) (s : SM) (hn : sm[n]? = some s) (hs : Bare s) (w : World) (hm : MkW g B mb bm sm w) (hT : ∀ W', KeepM mb bm w W' → Bru W') (hLB : LB ≤ B) :
    Calls Tryz.prog 36 #[.pointer (some ⟨mb, 0, none⟩), .int .i64 (n : Int)] w (Led g B mb bm sm n s w) :=
  lead_any g hg B mb bm sm n s hn hs w hm hT hLB (fun c o v W ho h => sortI_any c o v W ho h)
end Go.Proofs.YtknpkndiflodbaaGreatDoor.Tb
