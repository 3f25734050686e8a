/-
  PLAIN LAWS: the bits of a word.
  PLAIN LAWS: the bits of a word.
  WALKS: bits.OnesCount64, bits.TrailingZeros64, sets.Count.
-/
import Derived.Test.YtacgnbelcpmjfaaGreatDoorLaws
import Derived.Lib.TrailingZeros
import Derived.Test.YtacgnbelcpmjfaaGreatDoorMake
import Derived.Shelf.Spec.TrailingZeros
import Derived.Laws.Bits128
set_option linter.unusedVariables false
namespace Go.Proofs.YtacgnbelcpmjfaaGreatDoor.Dx
open Go
theorem and256 (a b m c : Nat) (hb : b < 256) (hc : c < 256) : (256 * a + b) &&& (256 * m + c) = 256 * (a &&& m) + (b &&& c) := by
  have h1 : ((256 * a + b) &&& (256 * m + c)) % 256 = b &&& c := by
    have := Nat.and_mod_two_pow (a := 256 * a + b) (b := 256 * m + c) (n := 8)
    rw [show (2 : Nat) ^ 8 = 256 from rfl] at this
    rw [this, Nat.mul_add_mod, Nat.mul_add_mod, Nat.mod_eq_of_lt hb, Nat.mod_eq_of_lt hc]
  have h2 : ((256 * a + b) &&& (256 * m + c)) / 256 = a &&& m := by
    have := Nat.shiftRight_and_distrib (a := 256 * a + b) (b := 256 * m + c) (i := 8)
    rw [Nat.shiftRight_eq_div_pow, Nat.shiftRight_eq_div_pow, Nat.shiftRight_eq_div_pow, show (2 : Nat) ^ 8 = 256 from rfl] at this
    rw [this]
    congr 1 <;> omega
  omega
/-- Eight bytes. -/
def by8 (a b c d e f g h : Nat) : Nat := a + 256 * (b + 256 * (c + 256 * (d + 256 * (e + 256 * (f + 256 * (g + 256 * h))))))
theorem and8 (a b c d e f g h m : Nat) (ha : a < 256) (hb : b < 256) (hc : c < 256) (hd : d < 256) (he : e < 256) (hf : f < 256) (hg : g < 256) (hh : h < 256) (hm : m < 256) :
    by8 a b c d e f g h &&& by8 m m m m m m m m = by8 (a &&& m) (b &&& m) (c &&& m) (d &&& m) (e &&& m) (f &&& m) (g &&& m) (h &&& m) := by
  unfold by8
  have st : ∀ x y p q : Nat, p < 256 → q < 256 → (p + 256 * x) &&& (q + 256 * y) = (p &&& q) + 256 * (x &&& y) := by
    intro x y p q hp hq
    rw [Nat.add_comm p, Nat.add_comm q, and256 _ _ _ _ hp hq, Nat.add_comm]
  rw [st _ _ _ _ ha hm, st _ _ _ _ hb hm, st _ _ _ _ hc hm, st _ _ _ _ hd hm, st _ _ _ _ he hm, st _ _ _ _ hf hm, st _ _ _ _ hg hm]
theorem by8_of (x : Nat) (hx : x < 2 ^ 64) : ∃ a b c d e f g h, x = by8 a b c d e f g h ∧ a < 256 ∧ b < 256 ∧ c < 256 ∧ d < 256 ∧ e < 256 ∧ f < 256 ∧ g < 256 ∧ h < 256 := by
  refine ⟨x % 256, x / 256 % 256, x / 65536 % 256, x / 16777216 % 256, x / 4294967296 % 256, x / 1099511627776 % 256, x / 281474976710656 % 256, x / 72057594037927936, ?_, ?_⟩
  · unfold by8; omega
  · have : (2 : Nat) ^ 64 = 18446744073709551616 := by decide
    omega
def s1 (b : Nat) : Nat := (b / 2 &&& 85) + (b &&& 85)
def s2 (b : Nat) : Nat := (b / 4 &&& 51) + (b &&& 51)
def s3 (b : Nat) : Nat := (b / 16 + b) &&& 15
def pcB (b : Nat) : Nat := s3 (s2 (s1 b))
theorem half_and (b r : Nat) (hb : b < 256) (hr : r < 2) : ((b / 2 + 128 * r) &&& 85) = (b / 2 &&& 85) ∧ s1 b ≤ 170 := by
  have h : (List.range 256).all (fun b => (List.range 2).all (fun r => decide (((b / 2 + 128 * r) &&& 85) = (b / 2 &&& 85) ∧ s1 b ≤ 170))) = true := by decide +kernel
  simpa using List.all_eq_true.1 (List.all_eq_true.1 h b (by simp; omega)) r (by simp; omega)
theorem quart_and (b r : Nat) (hb : b ≤ 170) (hr : r < 4) : ((b / 4 + 64 * r) &&& 51) = (b / 4 &&& 51) := by
  have h : (List.range 171).all (fun b => (List.range 4).all (fun r => decide (((b / 4 + 64 * r) &&& 51) = (b / 4 &&& 51)))) = true := by decide +kernel
  simpa using List.all_eq_true.1 (List.all_eq_true.1 h b (by simp; omega)) r (by simp; omega)
theorem nib (b : Nat) (hb : b < 256) : s2 (s1 b) ≤ 68 ∧ s2 (s1 b) % 16 ≤ 4 ∧ pcB b ≤ 8 ∧ pcB b = ((List.range 8).filter (fun i => b.testBit i)).length := by
  have h : (List.range 256).all (fun b => decide (s2 (s1 b) ≤ 68 ∧ s2 (s1 b) % 16 ≤ 4 ∧ pcB b ≤ 8 ∧ pcB b = ((List.range 8).filter (fun i => b.testBit i)).length)) = true := by decide +kernel
  simpa using List.all_eq_true.1 h b (by simp; omega)
theorem sixt_and (b r : Nat) (hb : b ≤ 68) (hr : r ≤ 4) : ((b / 16 + b + 16 * r) &&& 15) = s3 b := by
  have h : (List.range 69).all (fun b => (List.range 5).all (fun r => decide (((b / 16 + b + 16 * r) &&& 15) = s3 b))) = true := by decide +kernel
  simpa using List.all_eq_true.1 (List.all_eq_true.1 h b (by simp; omega)) r (by simp; omega)
/-- How many bits of a word are 1, as package bits counts them. -/
def ones (x : Nat) : Nat :=
  let x1 := (x / 2 &&& 6148914691236517205) + (x &&& 6148914691236517205)
  let x2 := (x1 / 4 &&& 3689348814741910323) + (x1 &&& 3689348814741910323)
  let x3 := (x2 / 16 + x2) &&& 1085102592571150095
  let x4 := x3 + x3 / 256
  let x5 := x4 + x4 / 65536
  let x6 := x5 + x5 / 4294967296
  x6 % 128
theorem m55 : by8 85 85 85 85 85 85 85 85 = 6148914691236517205 := by decide
theorem m33 : by8 51 51 51 51 51 51 51 51 = 3689348814741910323 := by decide
theorem m0f : by8 15 15 15 15 15 15 15 15 = 1085102592571150095 := by decide
theorem and_lt256 (a m : Nat) (h : m < 256) : a &&& m < 256 := Nat.lt_of_le_of_lt Nat.and_le_right h
theorem step1 (a b c d e f g h : Nat) (ha : a < 256) (hb : b < 256) (hc : c < 256) (hd : d < 256) (he : e < 256) (hf : f < 256) (hg : g < 256) (hh : h < 256) :
    (by8 a b c d e f g h / 2 &&& 6148914691236517205) + (by8 a b c d e f g h &&& 6148914691236517205) = by8 (s1 a) (s1 b) (s1 c) (s1 d) (s1 e) (s1 f) (s1 g) (s1 h) := by
  have e1 : by8 a b c d e f g h / 2 = by8 (a / 2 + 128 * (b % 2)) (b / 2 + 128 * (c % 2)) (c / 2 + 128 * (d % 2)) (d / 2 + 128 * (e % 2)) (e / 2 + 128 * (f % 2)) (f / 2 + 128 * (g % 2)) (g / 2 + 128 * (h % 2)) (h / 2 + 128 * 0) := by
    unfold by8; omega
  rw [e1, ← m55, and8 _ _ _ _ _ _ _ _ _ (by omega) (by omega) (by omega) (by omega) (by omega) (by omega) (by omega) (by omega) (by omega), and8 _ _ _ _ _ _ _ _ _ ha hb hc hd he hf hg hh (by omega),
    (half_and a (b % 2) ha (by omega)).1, (half_and b (c % 2) hb (by omega)).1, (half_and c (d % 2) hc (by omega)).1, (half_and d (e % 2) hd (by omega)).1, (half_and e (f % 2) he (by omega)).1, (half_and f (g % 2) hf (by omega)).1, (half_and g (h % 2) hg (by omega)).1, (half_and h 0 hh (by omega)).1]
  unfold by8 s1; omega
theorem step2 (a b c d e f g h : Nat) (ha : a ≤ 170) (hb : b ≤ 170) (hc : c ≤ 170) (hd : d ≤ 170) (he : e ≤ 170) (hf : f ≤ 170) (hg : g ≤ 170) (hh : h ≤ 170) :
    (by8 a b c d e f g h / 4 &&& 3689348814741910323) + (by8 a b c d e f g h &&& 3689348814741910323) = by8 (s2 a) (s2 b) (s2 c) (s2 d) (s2 e) (s2 f) (s2 g) (s2 h) := by
  have e1 : by8 a b c d e f g h / 4 = by8 (a / 4 + 64 * (b % 4)) (b / 4 + 64 * (c % 4)) (c / 4 + 64 * (d % 4)) (d / 4 + 64 * (e % 4)) (e / 4 + 64 * (f % 4)) (f / 4 + 64 * (g % 4)) (g / 4 + 64 * (h % 4)) (h / 4 + 64 * 0) := by
    unfold by8; omega
  rw [e1, ← m33, and8 _ _ _ _ _ _ _ _ _ (by omega) (by omega) (by omega) (by omega) (by omega) (by omega) (by omega) (by omega) (by omega), and8 _ _ _ _ _ _ _ _ _ (by omega) (by omega) (by omega) (by omega) (by omega) (by omega) (by omega) (by omega) (by omega),
    quart_and a (b % 4) ha (by omega), quart_and b (c % 4) hb (by omega), quart_and c (d % 4) hc (by omega), quart_and d (e % 4) hd (by omega), quart_and e (f % 4) he (by omega), quart_and f (g % 4) hf (by omega), quart_and g (h % 4) hg (by omega), quart_and h 0 hh (by omega)]
  unfold by8 s2; omega
theorem step3 (a b c d e f g h : Nat) (ha : a ≤ 68 ∧ a % 16 ≤ 4) (hb : b ≤ 68 ∧ b % 16 ≤ 4) (hc : c ≤ 68 ∧ c % 16 ≤ 4) (hd : d ≤ 68 ∧ d % 16 ≤ 4) (he : e ≤ 68 ∧ e % 16 ≤ 4) (hf : f ≤ 68 ∧ f % 16 ≤ 4) (hg : g ≤ 68 ∧ g % 16 ≤ 4) (hh : h ≤ 68 ∧ h % 16 ≤ 4) :
    (by8 a b c d e f g h / 16 + by8 a b c d e f g h) &&& 1085102592571150095 = by8 (s3 a) (s3 b) (s3 c) (s3 d) (s3 e) (s3 f) (s3 g) (s3 h) := by
  have e1 : by8 a b c d e f g h / 16 + by8 a b c d e f g h = by8 (a / 16 + a + 16 * (b % 16)) (b / 16 + b + 16 * (c % 16)) (c / 16 + c + 16 * (d % 16)) (d / 16 + d + 16 * (e % 16)) (e / 16 + e + 16 * (f % 16)) (f / 16 + f + 16 * (g % 16)) (g / 16 + g + 16 * (h % 16)) (h / 16 + h + 16 * 0) := by
    unfold by8; omega
  rw [e1, ← m0f, and8 _ _ _ _ _ _ _ _ _ (by omega) (by omega) (by omega) (by omega) (by omega) (by omega) (by omega) (by omega) (by omega),
    sixt_and a (b % 16) ha.1 hb.2, sixt_and b (c % 16) hb.1 hc.2, sixt_and c (d % 16) hc.1 hd.2, sixt_and d (e % 16) hd.1 he.2, sixt_and e (f % 16) he.1 hf.2, sixt_and f (g % 16) hf.1 hg.2, sixt_and g (h % 16) hg.1 hh.2, sixt_and h 0 hh.1 (by omega)]
theorem ones_by8 (a b c d e f g h : Nat) (ha : a < 256) (hb : b < 256) (hc : c < 256) (hd : d < 256) (he : e < 256) (hf : f < 256) (hg : g < 256) (hh : h < 256) :
    ones (by8 a b c d e f g h) = pcB a + pcB b + pcB c + pcB d + pcB e + pcB f + pcB g + pcB h := by
  have na := nib a ha
  have nb := nib b hb
  have nc := nib c hc
  have nd := nib d hd
  have ne := nib e he
  have nf := nib f hf
  have ng := nib g hg
  have nh := nib h hh
  unfold ones
  simp only
  rw [step1 a b c d e f g h ha hb hc hd he hf hg hh, step2 _ _ _ _ _ _ _ _ (half_and a 0 ha (by omega)).2 (half_and b 0 hb (by omega)).2 (half_and c 0 hc (by omega)).2 (half_and d 0 hd (by omega)).2 (half_and e 0 he (by omega)).2 (half_and f 0 hf (by omega)).2 (half_and g 0 hg (by omega)).2 (half_and h 0 hh (by omega)).2,
    step3 _ _ _ _ _ _ _ _ ⟨na.1, na.2.1⟩ ⟨nb.1, nb.2.1⟩ ⟨nc.1, nc.2.1⟩ ⟨nd.1, nd.2.1⟩ ⟨ne.1, ne.2.1⟩ ⟨nf.1, nf.2.1⟩ ⟨ng.1, ng.2.1⟩ ⟨nh.1, nh.2.1⟩]
  have pa := na.2.2.1
  have pb := nb.2.2.1
  have pc := nc.2.2.1
  have pd := nd.2.2.1
  have pe := ne.2.2.1
  have pf := nf.2.2.1
  have pg := ng.2.2.1
  have ph := nh.2.2.1
  clear na nb nc nd ne nf ng nh
  show (_ : Nat) = _
  change _ = s3 (s2 (s1 a)) + s3 (s2 (s1 b)) + s3 (s2 (s1 c)) + s3 (s2 (s1 d)) + s3 (s2 (s1 e)) + s3 (s2 (s1 f)) + s3 (s2 (s1 g)) + s3 (s2 (s1 h))
  change s3 (s2 (s1 a)) ≤ 8 at pa
  change s3 (s2 (s1 b)) ≤ 8 at pb
  change s3 (s2 (s1 c)) ≤ 8 at pc
  change s3 (s2 (s1 d)) ≤ 8 at pd
  change s3 (s2 (s1 e)) ≤ 8 at pe
  change s3 (s2 (s1 f)) ≤ 8 at pf
  change s3 (s2 (s1 g)) ≤ 8 at pg
  change s3 (s2 (s1 h)) ≤ 8 at ph
  generalize s3 (s2 (s1 a)) = p0 at *
  generalize s3 (s2 (s1 b)) = p1 at *
  generalize s3 (s2 (s1 c)) = p2 at *
  generalize s3 (s2 (s1 d)) = p3 at *
  generalize s3 (s2 (s1 e)) = p4 at *
  generalize s3 (s2 (s1 f)) = p5 at *
  generalize s3 (s2 (s1 g)) = p6 at *
  generalize s3 (s2 (s1 h)) = p7 at *
  clear ha hb hc hd he hf hg hh
  have e4 : by8 p0 p1 p2 p3 p4 p5 p6 p7 + by8 p0 p1 p2 p3 p4 p5 p6 p7 / 256 = by8 (p0 + p1) (p1 + p2) (p2 + p3) (p3 + p4) (p4 + p5) (p5 + p6) (p6 + p7) p7 := by unfold by8; omega
  rw [e4]
  have e5 : by8 (p0 + p1) (p1 + p2) (p2 + p3) (p3 + p4) (p4 + p5) (p5 + p6) (p6 + p7) p7 + by8 (p0 + p1) (p1 + p2) (p2 + p3) (p3 + p4) (p4 + p5) (p5 + p6) (p6 + p7) p7 / 65536 = by8 (p0 + p1 + p2 + p3) (p1 + p2 + p3 + p4) (p2 + p3 + p4 + p5) (p3 + p4 + p5 + p6) (p4 + p5 + p6 + p7) (p5 + p6 + p7) (p6 + p7) p7 := by unfold by8; omega
  rw [e5]
  clear e4 e5
  have e6 : by8 (p0 + p1 + p2 + p3) (p1 + p2 + p3 + p4) (p2 + p3 + p4 + p5) (p3 + p4 + p5 + p6) (p4 + p5 + p6 + p7) (p5 + p6 + p7) (p6 + p7) p7 / 4294967296 = (p4 + p5 + p6 + p7) + 256 * (p5 + p6 + p7 + 256 * (p6 + p7 + 256 * p7)) := by unfold by8; omega
  rw [e6]
  unfold by8
  have e7 : ∀ x y z : Nat, x ≤ 32 → y ≤ 32 → (x + 256 * z + y) % 128 = x + y := by intro x y z hx hy; omega
  have e8 : ∀ a z b y : Nat, a + 256 * z + (b + 256 * y) = a + 256 * (z + y) + b := by intro a z b y; omega
  rw [e8, e7 _ _ _ (by omega) (by omega)]
  omega
end Go.Proofs.YtacgnbelcpmjfaaGreatDoor.Dx
set_option linter.unusedVariables false
namespace Go.Proofs.YtacgnbelcpmjfaaGreatDoor.Dx
open Go
def cnt (M n : Nat) : Nat := ((List.range n).filter (fun i => M.testBit i)).length
theorem cnt_succ (M n : Nat) : cnt M (n + 1) = cnt M n + if M.testBit n then 1 else 0 := by
  unfold cnt
  rw [List.range_succ, List.filter_append]
  cases h : M.testBit n <;> simp [h]
theorem cnt_add (M n m : Nat) : cnt M (n + m) = cnt M n + cnt (M / 2 ^ n) m := by
  induction m with
  | zero => rfl
  | succ m ih =>
    rw [← Nat.add_assoc, cnt_succ, ih, cnt_succ, Nat.testBit_div_two_pow, Nat.add_comm m n, Nat.add_assoc]
theorem cnt_mod (M n : Nat) : cnt (M % 2 ^ n) n = cnt M n := by
  unfold cnt
  congr 1
  apply List.filter_congr
  intro i hi
  rw [Nat.testBit_mod_two_pow]
  have : i < n := by simpa using hi
  simp [this]
theorem cnt_byte (b r : Nat) (hb : b < 256) (n : Nat) : cnt (b + 256 * r) (8 + n) = pcB b + cnt r n := by
  rw [cnt_add]
  congr 1
  · rw [← cnt_mod, show (2 : Nat) ^ 8 = 256 from rfl, show (b + 256 * r) % 256 = b by omega]
    exact (nib b hb).2.2.2.symm
  · rw [show (2 : Nat) ^ 8 = 256 from rfl, show (b + 256 * r) / 256 = r by omega]
theorem ones_cnt (x : Nat) (hx : x < 2 ^ 64) : ones x = cnt x 64 := by
  obtain ⟨a, b, c, d, e, f, g, h, rfl, ha, hb, hc, hd, he, hf, hg, hh⟩ := by8_of x hx
  rw [ones_by8 a b c d e f g h ha hb hc hd he hf hg hh]
  unfold by8
  rw [show (64 : Nat) = 8 + (8 + (8 + (8 + (8 + (8 + (8 + (8 + 0))))))) from rfl, cnt_byte a _ ha, cnt_byte b _ hb, cnt_byte c _ hc, cnt_byte d _ hd, cnt_byte e _ he, cnt_byte f _ hf, cnt_byte g _ hg]
  have : cnt h (8 + 0) = pcB h := (nib h hh).2.2.2.symm
  rw [this]
  omega
theorem cnt_words (M : Nat) : (bytesOf M).length = cnt M 64 + cnt (M / 2 ^ 64) 64 + cnt (M / 2 ^ 128) 64 + cnt (M / 2 ^ 192) 64 := by
  have h : (bytesOf M).length = cnt M 256 := by unfold bytesOf bytesTo cnt; rw [List.length_map]
  rw [h, show (256 : Nat) = 64 + (64 + (64 + 64)) from rfl, cnt_add, cnt_add, cnt_add, Nat.div_div_eq_div_mul, Nat.div_div_eq_div_mul]
  rw [show (2 : Nat) ^ 64 * 2 ^ 64 = 2 ^ 128 by decide, show (2 : Nat) ^ 128 * 2 ^ 64 = 2 ^ 192 by decide]
  omega
/-- A word of a set, a number. -/
def wdN (M j : Nat) : Nat := M / 2 ^ (64 * j) % 18446744073709551616
theorem wd_nat (M j : Nat) : wd M j = ((wdN M j : Nat) : Int) := rfl
theorem wdN_lt (M j : Nat) : wdN M j < 2 ^ 64 := Nat.mod_lt _ (by decide)
theorem count_words (M : Nat) : (bytesOf M).length = ones (wdN M 0) + ones (wdN M 1) + ones (wdN M 2) + ones (wdN M 3) := by
  have h : ∀ j, ones (wdN M j) = cnt (M / 2 ^ (64 * j)) 64 := fun j => by
    rw [ones_cnt _ (wdN_lt M j), wdN, ← cnt_mod (M / 2 ^ (64 * j)) 64]
  rw [cnt_words, h, h, h, h]
  simp
theorem and_pow (k A B p q : Nat) (hp : p < 2 ^ k) (hq : q < 2 ^ k) : (2 ^ k * A + p) &&& (2 ^ k * B + q) = 2 ^ k * (A &&& B) + (p &&& q) := by
  have h1 : ((2 ^ k * A + p) &&& (2 ^ k * B + q)) % 2 ^ k = p &&& q := by
    rw [Nat.and_mod_two_pow, Nat.mul_add_mod, Nat.mul_add_mod, Nat.mod_eq_of_lt hp, Nat.mod_eq_of_lt hq]
  have h2 : ((2 ^ k * A + p) &&& (2 ^ k * B + q)) / 2 ^ k = A &&& B := by
    have := Nat.shiftRight_and_distrib (a := 2 ^ k * A + p) (b := 2 ^ k * B + q) (i := k)
    rw [Nat.shiftRight_eq_div_pow, Nat.shiftRight_eq_div_pow, Nat.shiftRight_eq_div_pow] at this
    rw [this, Nat.mul_add_div (Nat.two_pow_pos k), Nat.mul_add_div (Nat.two_pow_pos k), Nat.div_eq_of_lt hp, Nat.div_eq_of_lt hq]
    rfl
  rw [← Nat.div_add_mod ((2 ^ k * A + p) &&& (2 ^ k * B + q)) (2 ^ k), h1, h2]
/-- The lowest bit that is 1, and what is left without it. -/
theorem low_clear (x k m : Nat) (h : x = 2 ^ k * (2 * m + 1)) : x &&& (x - 1) = 2 ^ k * (2 * m) := by
  have hp := Nat.two_pow_pos k
  have e1 : x = 2 ^ k * (2 * m + 1) + 0 := h
  have e2 : x - 1 = 2 ^ k * (2 * m) + (2 ^ k - 1) := by rw [h, Nat.mul_add, Nat.mul_one]; omega
  have e3 : (2 * m + 1) &&& (2 * m) = 2 * m := by
    have := and_pow 1 m m 1 0 (by decide) (by decide)
    simpa using this
  rw [e2]
  conv => lhs; lhs; rw [e1]
  rw [and_pow k _ _ 0 _ hp (by omega), e3]
  simp
theorem filter_first (p q : Nat → Bool) (k : Nat) (hk : p k = true) (hlow : ∀ i, i < k → p i = false) (hq : ∀ i, q i = (p i && decide (i ≠ k))) : ∀ n, k < n → (List.range n).filter p = k :: (List.range n).filter q := by
  intro n
  induction n with
  | zero => intro h; omega
  | succ n ih =>
    intro h
    rw [List.range_succ, List.filter_append, List.filter_append]
    by_cases hkn : k = n
    · subst hkn
      have h1 : (List.range k).filter p = [] := by
        rw [List.filter_eq_nil_iff]; intro i hi; rw [hlow i (by simpa using hi)]; simp
      have h2 : (List.range k).filter q = [] := by
        rw [List.filter_eq_nil_iff]; intro i hi; rw [hq, hlow i (by simpa using hi)]; simp
      rw [h1, h2]
      simp [hk, hq]
    · rw [ih (by omega)]
      have : q n = p n := by rw [hq]; simp; intro _; omega
      simp [List.filter_cons, this]
theorem bits_first (x k m n : Nat) (h : x = 2 ^ k * (2 * m + 1)) (hk : k < n) :
    (List.range n).filter (fun i => x.testBit i) = k :: (List.range n).filter (fun i => (2 ^ k * (2 * m)).testBit i) := by
  have ht : ∀ t i, (2 ^ k * t).testBit i = (decide (k ≤ i) && t.testBit (i - k)) := fun t i => by rw [Nat.testBit_two_pow_mul]
  refine filter_first _ _ k ?_ ?_ ?_ n hk
  · rw [h, ht]; simp
  · intro i hi; rw [h, ht]; simp; omega
  · intro i
    rw [h, ht, ht]
    rcases Nat.lt_trichotomy i k with hlt | rfl | hgt
    · have : decide (k ≤ i) = false := by simp; omega
      rw [this]; rfl
    · simp
    · obtain ⟨d, hd⟩ : ∃ d, i - k = d + 1 := ⟨i - k - 1, by omega⟩
      rw [hd, Nat.testBit_succ, Nat.testBit_succ, show (2 * m + 1) / 2 = m by omega, show 2 * m / 2 = m by omega]
      have : decide (i ≠ k) = true := by simp; omega
      rw [this]; simp
theorem bits_none (n : Nat) : (List.range n).filter (fun i => (0 : Nat).testBit i) = [] := by simp
/-- The bytes of word j of a set. -/
def wordBytes (M j : Nat) : List UInt8 := ((List.range 64).filter (fun i => (wdN M j).testBit i)).map (fun i => UInt8.ofNat (64 * j + i))
theorem bytesTo_word (M n : Nat) : ∀ m, bytesTo M (n + m) = bytesTo M n ++ ((List.range m).filter (fun i => M.testBit (n + i))).map (fun i => UInt8.ofNat (n + i)) := by
  intro m
  induction m with
  | zero => simp
  | succ m ih =>
    rw [← Nat.add_assoc, bytesTo_succ, ih, List.range_succ, List.filter_append, List.map_append]
    cases h : M.testBit (n + m) <;> simp [h]
theorem bytesOf_words (M : Nat) : bytesOf M = wordBytes M 0 ++ (wordBytes M 1 ++ (wordBytes M 2 ++ wordBytes M 3)) := by
  have hw : ∀ j, wordBytes M j = ((List.range 64).filter (fun i => M.testBit (64 * j + i))).map (fun i => UInt8.ofNat (64 * j + i)) := by
    intro j
    unfold wordBytes
    congr 1
    apply List.filter_congr
    intro i hi
    have : i < 64 := by simpa using hi
    rw [wdN, show (18446744073709551616 : Nat) = 2 ^ 64 by decide, Nat.testBit_mod_two_pow, Nat.testBit_div_two_pow]
    simp [this, Nat.add_comm]
  unfold bytesOf
  rw [show (256 : Nat) = 0 + 64 + 64 + 64 + 64 from rfl, bytesTo_word, bytesTo_word, bytesTo_word, bytesTo_word, hw, hw, hw, hw]
  simp [bytesTo]
end Go.Proofs.YtacgnbelcpmjfaaGreatDoor.Dx
set_option linter.unusedVariables false
set_option linter.unusedSimpArgs false
namespace Go.Proofs.YtacgnbelcpmjfaaGreatDoor.Dx
open Go.RowKit Go.Proofs Mx

theorem ones_any (x : Nat) (hx : x < 18446744073709551616) (w : World) :
    Calls Tryz.prog 66 #[.int .u64 (x : Int)] w fun e w' => e = .returned (.int .i64 ((ones x : Nat) : Int)) ∧ w = w' := by
  go_enter Tryz.func66, Tryz.ntmps66
  go_wp2
  go_ret
  refine ⟨ret_int ?_, rfl⟩
  obtain ⟨x1, hx1⟩ : ∃ x1, (x / 2 &&& 6148914691236517205) + (x &&& 6148914691236517205) = x1 := ⟨_, rfl⟩
  obtain ⟨x2, hx2⟩ : ∃ x2, (x1 / 4 &&& 3689348814741910323) + (x1 &&& 3689348814741910323) = x2 := ⟨_, rfl⟩
  obtain ⟨x3, hx3⟩ : ∃ x3, (x2 / 16 + x2) &&& 1085102592571150095 = x3 := ⟨_, rfl⟩
  have b1 : x1 ≤ 12297829382473034410 := by
    have := @Nat.and_le_right (x / 2) 6148914691236517205
    have := @Nat.and_le_right x 6148914691236517205
    omega
  have b2 : x2 ≤ 7378697629483820646 := by
    have := @Nat.and_le_right (x1 / 4) 3689348814741910323
    have := @Nat.and_le_right x1 3689348814741910323
    omega
  have b3 : x3 ≤ 1085102592571150095 := by
    have := @Nat.and_le_right (x2 / 16 + x2) 1085102592571150095
    omega
  have hand : ∀ a c : Nat, a < 18446744073709551616 → c < 18446744073709551616 → bits .and .u64 (a : Int) (c : Int) = ((a &&& c : Nat) : Int) := fun a c ha hc => bits_and_u64_nat a c ha hc
  have w1 : IntKind.u64.wrap (bits .and .u64 ((x : Int) / 2) 6148914691236517205 + bits .and .u64 (x : Int) 6148914691236517205) = (x1 : Int) := by
    have h1 := hand (x / 2) 6148914691236517205 (by omega) (by omega)
    have h2 := hand x 6148914691236517205 (by omega) (by omega)
    rw [show ((x : Int) / 2) = ((x / 2 : Nat) : Int) by omega, show (6148914691236517205 : Int) = ((6148914691236517205 : Nat) : Int) from rfl, h1, h2, IntKind.wrap_u64]
    omega
  rw [w1]
  have w2 : IntKind.u64.wrap (bits .and .u64 ((x1 : Int) / 4) 3689348814741910323 + bits .and .u64 (x1 : Int) 3689348814741910323) = (x2 : Int) := by
    have h1 := hand (x1 / 4) 3689348814741910323 (by omega) (by omega)
    have h2 := hand x1 3689348814741910323 (by omega) (by omega)
    rw [show ((x1 : Int) / 4) = ((x1 / 4 : Nat) : Int) by omega, show (3689348814741910323 : Int) = ((3689348814741910323 : Nat) : Int) from rfl, h1, h2, IntKind.wrap_u64]
    omega
  rw [w2]
  have w3 : bits .and .u64 (IntKind.u64.wrap ((x2 : Int) / 16 + (x2 : Int))) 1085102592571150095 = (x3 : Int) := by
    have h1 := hand (x2 / 16 + x2) 1085102592571150095 (by omega) (by omega)
    rw [show IntKind.u64.wrap ((x2 : Int) / 16 + (x2 : Int)) = ((x2 / 16 + x2 : Nat) : Int) by rw [IntKind.wrap_u64]; omega, show (1085102592571150095 : Int) = ((1085102592571150095 : Nat) : Int) from rfl, h1, hx3]
  rw [w3]
  have hones : ones x = (x3 + x3 / 256 + (x3 + x3 / 256) / 65536 + (x3 + x3 / 256 + (x3 + x3 / 256) / 65536) / 4294967296) % 128 := by
    unfold ones
    simp only
    rw [hx1, hx2, hx3]
  rw [hones, i64_and127]
  clear hones w1 w2 w3 hand hx1 hx2 hx3 b1 b2
  rw [show IntKind.u64.wrap ((x3 : Int) + (x3 : Int) / 256) = ((x3 + x3 / 256 : Nat) : Int) by rw [IntKind.wrap_u64]; omega]
  have c4 : x3 + x3 / 256 ≤ 2000000000000000000 := by omega
  generalize x3 + x3 / 256 = x4 at c4 ⊢
  rw [show IntKind.u64.wrap ((x4 : Int) + (x4 : Int) / 65536) = ((x4 + x4 / 65536 : Nat) : Int) by rw [IntKind.wrap_u64]; omega]
  have c5 : x4 + x4 / 65536 ≤ 3000000000000000000 := by omega
  generalize x4 + x4 / 65536 = x5 at c5 ⊢
  rw [show IntKind.u64.wrap ((x5 : Int) + (x5 : Int) / 4294967296) = ((x5 + x5 / 4294967296 : Nat) : Int) by rw [IntKind.wrap_u64]; omega]
  have c6 : x5 + x5 / 4294967296 ≤ 4000000000000000000 := by omega
  generalize x5 + x5 / 4294967296 = x6 at c6 ⊢
  unfold wrap64
  omega
/-- The table of the lowest bits, as its initialiser lays it. -/
def Bru (w : World) : Prop := ∀ j, j < 64 → w.cell? ⟨2, j, none⟩ = some (.int .u8 (Lib.deBruijn64tab.getD j 0))
theorem Bru.below {w w' : World} {B : Nat} (h : Bru w) (hb : Below B w w') (hB : LB ≤ B) : Bru w' := fun j hj =>
  (hb.cell (p := ⟨2, j, none⟩) (Nat.lt_of_lt_of_le (show 2 < LB by decide) hB)).trans (h j hj)
set_option maxHeartbeats 1000000 in
theorem tz_core (x k idx : Nat) (w : World) (hx0 : ((x : Int) == 0) = false)
    (key : IntKind.u64.wrap (bits BinOp.and IntKind.u64 (x : Int) (IntKind.u64.wrap (-(x : Int))) * 285870213051353865) / 288230376151711744 = (idx : Int))
    (hi : idx < 64) (hk : k < 64) (hcell : w.cell? ⟨2, idx, none⟩ = some (.int .u8 k)) :
    Calls Tryz.prog 83 #[.int .u64 (x : Int)] w fun e w' => e = .returned (.int .i64 k) ∧ w = w' := by
  go_enter Tryz.func83, Tryz.ntmps83
  go_wp2_with (simp only [key])
  go_ret
  exact ⟨rfl, rfl⟩
theorem tz_any (x : Nat) (hx : x < 18446744073709551616) (hx0 : x ≠ 0) (w : World) (hT : Bru w) :
    Calls Tryz.prog 83 #[.int .u64 (x : Int)] w fun e w' => e = .returned (.int .i64 (Lib.ctz 64 x)) ∧ w = w' := by
  obtain ⟨hlow, hk⟩ := Lib.lowest_bit 64 x hx0 hx
  obtain ⟨hi, htab⟩ := Lib.deBruijn64_at _ hk
  have hi' : Lib.ctz 64 x < 64 := hk
  have hcell := hT _ (show _ < 64 from hi)
  rw [htab] at hcell
  exact tz_core x _ _ w (by simp; omega) (tz64_key x _ hx hx0 hlow) hi hk hcell
theorem ix0 (a b c d : Value) (w : World) : (Instr.index 33 (.agg #[a, b, c, d]) (.int .i64 0)).run Tryz.prog w = .ok a w := by kernel_rfl
theorem ix1 (a b c d : Value) (w : World) : (Instr.index 33 (.agg #[a, b, c, d]) (.int .i64 1)).run Tryz.prog w = .ok b w := by kernel_rfl
theorem ix2 (a b c d : Value) (w : World) : (Instr.index 33 (.agg #[a, b, c, d]) (.int .i64 2)).run Tryz.prog w = .ok c w := by kernel_rfl
theorem ix3 (a b c d : Value) (w : World) : (Instr.index 33 (.agg #[a, b, c, d]) (.int .i64 3)).run Tryz.prog w = .ok d w := by kernel_rfl
def onesUp (M : Nat) : Nat → Nat
  | 0 => 0
  | j + 1 => onesUp M j + ones (wdN M j)
theorem ones_le (x : Nat) : ones x ≤ 127 := by
  unfold ones
  simp only
  omega
theorem onesUp_le (M : Nat) (j : Nat) : onesUp M j ≤ 127 * j := by
  induction j with
  | zero => exact Nat.le_refl _
  | succ j ih => have := ones_le (wdN M j); rw [onesUp]; omega
theorem onesUp_four (M : Nat) : onesUp M 4 = (bytesOf M).length := by
  rw [count_words]; simp [onesUp]
set_option maxRecDepth 100000 in
set_option maxHeartbeats 1000000 in
theorem count_any (M : Nat) (w : World) :
    Calls Tryz.prog 51 #[setV M] w fun e w' => e = .returned (.int .i64 ((bytesOf M).length : Int)) ∧ Below w.heap.size w w' := by
  rw [show setV M = .agg #[.int .u64 ((wdN M 0 : Nat) : Int), .int .u64 ((wdN M 1 : Nat) : Int), .int .u64 ((wdN M 2 : Nat) : Int), .int .u64 ((wdN M 3 : Nat) : Int)] from rfl]
  have h0 := wdN_lt M 0
  have h1 := wdN_lt M 1
  have h2 := wdN_lt M 2
  have h3 := wdN_lt M 3
  rw [show (2 : Nat) ^ 64 = 18446744073709551616 by decide] at h0 h1 h2 h3
  have hones := fun j (hj : wdN M j < 18446744073709551616) => ones_any (wdN M j) hj
  have H := Lib.hid (And.intro (hones 0 h0) (And.intro (hones 1 h1) (And.intro (hones 2 h2) (hones 3 h3))))
  have hf := onesUp_four M
  rw [← hf]
  have HF := Lib.hid hf
  have i0 := ix0
  have i1 := ix1
  have i2 := ix2
  have i3 := ix3
  clear hones hf
  go_enter Tryz.func51, Tryz.ntmps51
  go_wp2_with fail
  go_loopw [3, 7] (fun vn vi wr => ∃ i : Nat, i ≤ 4 ∧ vi = .int .i64 i ∧ vn = .int .i64 ((onesUp M i : Nat) : Int) ∧ Below w.heap.size w wr) (fun _ vi _ => 4 - (intOf vi).toNat)
  case atStart => exact ⟨0, by omega, rfl, rfl, (Below.refl _ _).alloc (Nat.le_refl _) _⟩
  case round =>
    obtain ⟨i, hi, rfl, rfl, hb⟩ := hrel
    have HB := Lib.hid hb
    clear hb h0 h1 h2 h3
    rcases (show i = 0 ∨ i = 1 ∨ i = 2 ∨ i = 3 ∨ i = 4 by omega) with rfl | rfl | rfl | rfl | rfl
    · have b1 := onesUp_le M 0
      have b2 := ones_le (wdN M 0)
      go_wp2_with fail
      refine (H.out.1 _).mono ?_
      rintro e w1 ⟨rfl, rfl⟩
      go_wp2_with fail
      go_roundw
      case rel => exact ⟨1, by omega, rfl, by rw [show onesUp M 1 = onesUp M 0 + ones (wdN M 0) from rfl]; go_num, HB.out⟩
      case measure => simp [intOf]
    · have b1 := onesUp_le M 1
      have b2 := ones_le (wdN M 1)
      go_wp2_with fail
      refine (H.out.2.1 _).mono ?_
      rintro e w1 ⟨rfl, rfl⟩
      go_wp2_with fail
      go_roundw
      case rel => exact ⟨2, by omega, rfl, by rw [show onesUp M 2 = onesUp M 1 + ones (wdN M 1) from rfl]; go_num, HB.out⟩
      case measure => simp [intOf]
    · have b1 := onesUp_le M 2
      have b2 := ones_le (wdN M 2)
      go_wp2_with fail
      refine (H.out.2.2.1 _).mono ?_
      rintro e w1 ⟨rfl, rfl⟩
      go_wp2_with fail
      go_roundw
      case rel => exact ⟨3, by omega, rfl, by rw [show onesUp M 3 = onesUp M 2 + ones (wdN M 2) from rfl]; go_num, HB.out⟩
      case measure => simp [intOf]
    · have b1 := onesUp_le M 3
      have b2 := ones_le (wdN M 3)
      go_wp2_with fail
      refine (H.out.2.2.2 _).mono ?_
      rintro e w1 ⟨rfl, rfl⟩
      go_wp2_with fail
      go_roundw
      case rel => exact ⟨4, by omega, rfl, by rw [show onesUp M 4 = onesUp M 3 + ones (wdN M 3) from rfl]; go_num, HB.out⟩
      case measure => simp [intOf]
    · go_wp2_with fail
      go_ret
      exact ⟨rfl, HB.out⟩
end Go.Proofs.YtacgnbelcpmjfaaGreatDoor.Dx
