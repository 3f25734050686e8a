/-
  PLAIN LAWS: the bits of a word.
  PLAIN LAWS: the bits of a word.
-/
import Derived.Test.YtmkidbenndhhjaaDoorBack
import Derived.Lib.TrailingZeros
set_option linter.unusedVariables false
namespace Go.Proofs.YtmkidbenndhhjaaDoor.Dx
open Go
theorem and256 (a b m c : Nat) (hb : b < 256) (hc : c < 256) : (256 * a + b) &&& (256 * m + c) = 256 * (a &&& m) + (b &&& c) := by
  have h1 : ((256 * a + b) &&& (256 * m + c)) % 256 = b &&& c := by
    have := Nat.and_mod_two_pow (a := 256 * a + b) (b := 256 * m + c) (n := 8)
    rw [show (2 : Nat) ^ 8 = 256 from rfl] at this
    rw [this, Nat.mul_add_mod, Nat.mul_add_mod, Nat.mod_eq_of_lt hb, Nat.mod_eq_of_lt hc]
  have h2 : ((256 * a + b) &&& (256 * m + c)) / 256 = a &&& m := by
    have := Nat.shiftRight_and_distrib (a := 256 * a + b) (b := 256 * m + c) (i := 8)
    rw [Nat.shiftRight_eq_div_pow, Nat.shiftRight_eq_div_pow, Nat.shiftRight_eq_div_pow, show (2 : Nat) ^ 8 = 256 from rfl] at this
    rw [this]
    congr 1 <;> omega
  omega
/-- Eight bytes. -/
def by8 (a b c d e f g h : Nat) : Nat := a + 256 * (b + 256 * (c + 256 * (d + 256 * (e + 256 * (f + 256 * (g + 256 * h))))))
theorem and8 (a b c d e f g h m : Nat) (ha : a < 256) (hb : b < 256) (hc : c < 256) (hd : d < 256) (he : e < 256) (hf : f < 256) (hg : g < 256) (hh : h < 256) (hm : m < 256) :
    by8 a b c d e f g h &&& by8 m m m m m m m m = by8 (a &&& m) (b &&& m) (c &&& m) (d &&& m) (e &&& m) (f &&& m) (g &&& m) (h &&& m) := by
  unfold by8
  have st : ∀ x y p q : Nat, p < 256 → q < 256 → (p + 256 * x) &&& (q + 256 * y) = (p &&& q) + 256 * (x &&& y) := by
    intro x y p q hp hq
    rw [Nat.add_comm p, Nat.add_comm q, and256 _ _ _ _ hp hq, Nat.add_comm]
  rw [st _ _ _ _ ha hm, st _ _ _ _ hb hm, st _ _ _ _ hc hm, st _ _ _ _ hd hm, st _ _ _ _ he hm, st _ _ _ _ hf hm, st _ _ _ _ hg hm]
theorem by8_of (x : Nat) (hx : x < 2 ^ 64) : ∃ a b c d e f g h, x = by8 a b c d e f g h ∧ a < 256 ∧ b < 256 ∧ c < 256 ∧ d < 256 ∧ e < 256 ∧ f < 256 ∧ g < 256 ∧ h < 256 := by
  refine ⟨x % 256, x / 256 % 256, x / 65536 % 256, x / 16777216 % 256, x / 4294967296 % 256, x / 1099511627776 % 256, x / 281474976710656 % 256, x / 72057594037927936, ?_, ?_⟩
  · unfold by8; omega
  · have : (2 : Nat) ^ 64 = 18446744073709551616 := by decide
    omega
def s1 (b : Nat) : Nat := (b / 2 &&& 85) + (b &&& 85)
def s2 (b : Nat) : Nat := (b / 4 &&& 51) + (b &&& 51)
def s3 (b : Nat) : Nat := (b / 16 + b) &&& 15
def pcB (b : Nat) : Nat := s3 (s2 (s1 b))
theorem half_and (b r : Nat) (hb : b < 256) (hr : r < 2) : ((b / 2 + 128 * r) &&& 85) = (b / 2 &&& 85) ∧ s1 b ≤ 170 := by
  have h : (List.range 256).all (fun b => (List.range 2).all (fun r => decide (((b / 2 + 128 * r) &&& 85) = (b / 2 &&& 85) ∧ s1 b ≤ 170))) = true := by decide +kernel
  simpa using List.all_eq_true.1 (List.all_eq_true.1 h b (by simp; omega)) r (by simp; omega)
theorem quart_and (b r : Nat) (hb : b ≤ 170) (hr : r < 4) : ((b / 4 + 64 * r) &&& 51) = (b / 4 &&& 51) := by
  have h : (List.range 171).all (fun b => (List.range 4).all (fun r => decide (((b / 4 + 64 * r) &&& 51) = (b / 4 &&& 51)))) = true := by decide +kernel
  simpa using List.all_eq_true.1 (List.all_eq_true.1 h b (by simp; omega)) r (by simp; omega)
theorem nib (b : Nat) (hb : b < 256) : s2 (s1 b) ≤ 68 ∧ s2 (s1 b) % 16 ≤ 4 ∧ pcB b ≤ 8 ∧ pcB b = ((List.range 8).filter (fun i => b.testBit i)).length := by
  have h : (List.range 256).all (fun b => decide (s2 (s1 b) ≤ 68 ∧ s2 (s1 b) % 16 ≤ 4 ∧ pcB b ≤ 8 ∧ pcB b = ((List.range 8).filter (fun i => b.testBit i)).length)) = true := by decide +kernel
  simpa using List.all_eq_true.1 h b (by simp; omega)
theorem sixt_and (b r : Nat) (hb : b ≤ 68) (hr : r ≤ 4) : ((b / 16 + b + 16 * r) &&& 15) = s3 b := by
  have h : (List.range 69).all (fun b => (List.range 5).all (fun r => decide (((b / 16 + b + 16 * r) &&& 15) = s3 b))) = true := by decide +kernel
  simpa using List.all_eq_true.1 (List.all_eq_true.1 h b (by simp; omega)) r (by simp; omega)
/-- How many bits of a word are 1, as package bits counts them. -/
def ones (x : Nat) : Nat :=
  let x1 := (x / 2 &&& 6148914691236517205) + (x &&& 6148914691236517205)
  let x2 := (x1 / 4 &&& 3689348814741910323) + (x1 &&& 3689348814741910323)
  let x3 := (x2 / 16 + x2) &&& 1085102592571150095
  let x4 := x3 + x3 / 256
  let x5 := x4 + x4 / 65536
  let x6 := x5 + x5 / 4294967296
  x6 % 128
theorem m55 : by8 85 85 85 85 85 85 85 85 = 6148914691236517205 := by decide
theorem m33 : by8 51 51 51 51 51 51 51 51 = 3689348814741910323 := by decide
theorem m0f : by8 15 15 15 15 15 15 15 15 = 1085102592571150095 := by decide
theorem and_lt256 (a m : Nat) (h : m < 256) : a &&& m < 256 := Nat.lt_of_le_of_lt Nat.and_le_right h
theorem step1 (a b c d e f g h : Nat) (ha : a < 256) (hb : b < 256) (hc : c < 256) (hd : d < 256) (he : e < 256) (hf : f < 256) (hg : g < 256) (hh : h < 256) :
    (by8 a b c d e f g h / 2 &&& 6148914691236517205) + (by8 a b c d e f g h &&& 6148914691236517205) = by8 (s1 a) (s1 b) (s1 c) (s1 d) (s1 e) (s1 f) (s1 g) (s1 h) := by
  have e1 : by8 a b c d e f g h / 2 = by8 (a / 2 + 128 * (b % 2)) (b / 2 + 128 * (c % 2)) (c / 2 + 128 * (d % 2)) (d / 2 + 128 * (e % 2)) (e / 2 + 128 * (f % 2)) (f / 2 + 128 * (g % 2)) (g / 2 + 128 * (h % 2)) (h / 2 + 128 * 0) := by
    unfold by8; omega
  rw [e1, ← m55, and8 _ _ _ _ _ _ _ _ _ (by omega) (by omega) (by omega) (by omega) (by omega) (by omega) (by omega) (by omega) (by omega), and8 _ _ _ _ _ _ _ _ _ ha hb hc hd he hf hg hh (by omega),
    (half_and a (b % 2) ha (by omega)).1, (half_and b (c % 2) hb (by omega)).1, (half_and c (d % 2) hc (by omega)).1, (half_and d (e % 2) hd (by omega)).1, (half_and e (f % 2) he (by omega)).1, (half_and f (g % 2) hf (by omega)).1, (half_and g (h % 2) hg (by omega)).1, (half_and h 0 hh (by omega)).1]
  unfold by8 s1; omega
theorem step2 (a b c d e f g h : Nat) (ha : a ≤ 170) (hb : b ≤ 170) (hc : c ≤ 170) (hd : d ≤ 170) (he : e ≤ 170) (hf : f ≤ 170) (hg : g ≤ 170) (hh : h ≤ 170) :
    (by8 a b c d e f g h / 4 &&& 3689348814741910323) + (by8 a b c d e f g h &&& 3689348814741910323) = by8 (s2 a) (s2 b) (s2 c) (s2 d) (s2 e) (s2 f) (s2 g) (s2 h) := by
  have e1 : by8 a b c d e f g h / 4 = by8 (a / 4 + 64 * (b % 4)) (b / 4 + 64 * (c % 4)) (c / 4 + 64 * (d % 4)) (d / 4 + 64 * (e % 4)) (e / 4 + 64 * (f % 4)) (f / 4 + 64 * (g % 4)) (g / 4 + 64 * (h % 4)) (h / 4 + 64 * 0) := by
    unfold by8; omega
  rw [e1, ← m33, and8 _ _ _ _ _ _ _ _ _ (by omega) (by omega) (by omega) (by omega) (by omega) (by omega) (by omega) (by omega) (by omega), and8 _ _ _ _ _ _ _ _ _ (by omega) (by omega) (by omega) (by omega) (by omega) (by omega) (by omega) (by omega) (by omega),
    quart_and a (b % 4) ha (by omega), quart_and b (c % 4) hb (by omega), quart_and c (d % 4) hc (by omega), quart_and d (e % 4) hd (by omega), quart_and e (f % 4) he (by omega), quart_and f (g % 4) hf (by omega), quart_and g (h % 4) hg (by omega), quart_and h 0 hh (by omega)]
  unfold by8 s2; omega
theorem step3 (a b c d e f g h : Nat) (ha : a ≤ 68 ∧ a % 16 ≤ 4) (hb : b ≤ 68 ∧ b % 16 ≤ 4) (hc : c ≤ 68 ∧ c % 16 ≤ 4) (hd : d ≤ 68 ∧ d % 16 ≤ 4) (he : e ≤ 68 ∧ e % 16 ≤ 4) (hf : f ≤ 68 ∧ f % 16 ≤ 4) (hg : g ≤ 68 ∧ g % 16 ≤ 4) (hh : h ≤ 68 ∧ h % 16 ≤ 4) :
    (by8 a b c d e f g h / 16 + by8 a b c d e f g h) &&& 1085102592571150095 = by8 (s3 a) (s3 b) (s3 c) (s3 d) (s3 e) (s3 f) (s3 g) (s3 h) := by
  have e1 : by8 a b c d e f g h / 16 + by8 a b c d e f g h = by8 (a / 16 + a + 16 * (b % 16)) (b / 16 + b + 16 * (c % 16)) (c / 16 + c + 16 * (d % 16)) (d / 16 + d + 16 * (e % 16)) (e / 16 + e + 16 * (f % 16)) (f / 16 + f + 16 * (g % 16)) (g / 16 + g + 16 * (h % 16)) (h / 16 + h + 16 * 0) := by
    unfold by8; omega
  rw [e1, ← m0f, and8 _ _ _ _ _ _ _ _ _ (by omega) (by omega) (by omega) (by omega) (by omega) (by omega) (by omega) (by omega) (by omega),
    sixt_and a (b % 16) ha.1 hb.2, sixt_and b (c % 16) hb.1 hc.2, sixt_and c (d % 16) hc.1 hd.2, sixt_and d (e % 16) hd.1 he.2, sixt_and e (f % 16) he.1 hf.2, sixt_and f (g % 16) hf.1 hg.2, sixt_and g (h % 16) hg.1 hh.2, sixt_and h 0 hh.1 (by omega)]
theorem ones_by8 (a b c d e f g h : Nat) (ha : a < 256) (hb : b < 256) (hc : c < 256) (hd : d < 256) (he : e < 256) (hf : f < 256) (hg : g < 256) (hh : h < 256) :
    ones (by8 a b c d e f g h) = pcB a + pcB b + pcB c + pcB d + pcB e + pcB f + pcB g + pcB h := by
  have na := nib a ha
  have nb := nib b hb
  have nc := nib c hc
  have nd := nib d hd
  have ne := nib e he
  have nf := nib f hf
  have ng := nib g hg
  have nh := nib h hh
  unfold ones
  simp only
  rw [step1 a b c d e f g h ha hb hc hd he hf hg hh, step2 _ _ _ _ _ _ _ _ (half_and a 0 ha (by omega)).2 (half_and b 0 hb (by omega)).2 (half_and c 0 hc (by omega)).2 (half_and d 0 hd (by omega)).2 (half_and e 0 he (by omega)).2 (half_and f 0 hf (by omega)).2 (half_and g 0 hg (by omega)).2 (half_and h 0 hh (by omega)).2,
    step3 _ _ _ _ _ _ _ _ ⟨na.1, na.2.1⟩ ⟨nb.1, nb.2.1⟩ ⟨nc.1, nc.2.1⟩ ⟨nd.1, nd.2.1⟩ ⟨ne.1, ne.2.1⟩ ⟨nf.1, nf.2.1⟩ ⟨ng.1, ng.2.1⟩ ⟨nh.1, nh.2.1⟩]
  have pa := na.2.2.1
  have pb := nb.2.2.1
  have pc := nc.2.2.1
  have pd := nd.2.2.1
  have pe := ne.2.2.1
  have pf := nf.2.2.1
  have pg := ng.2.2.1
  have ph := nh.2.2.1
  clear na nb nc nd ne nf ng nh
  show (_ : Nat) = _
  change _ = s3 (s2 (s1 a)) + s3 (s2 (s1 b)) + s3 (s2 (s1 c)) + s3 (s2 (s1 d)) + s3 (s2 (s1 e)) + s3 (s2 (s1 f)) + s3 (s2 (s1 g)) + s3 (s2 (s1 h))
  change s3 (s2 (s1 a)) ≤ 8 at pa
  change s3 (s2 (s1 b)) ≤ 8 at pb
  change s3 (s2 (s1 c)) ≤ 8 at pc
  change s3 (s2 (s1 d)) ≤ 8 at pd
  change s3 (s2 (s1 e)) ≤ 8 at pe
  change s3 (s2 (s1 f)) ≤ 8 at pf
  change s3 (s2 (s1 g)) ≤ 8 at pg
  change s3 (s2 (s1 h)) ≤ 8 at ph
  generalize s3 (s2 (s1 a)) = p0 at *
  generalize s3 (s2 (s1 b)) = p1 at *
  generalize s3 (s2 (s1 c)) = p2 at *
  generalize s3 (s2 (s1 d)) = p3 at *
  generalize s3 (s2 (s1 e)) = p4 at *
  generalize s3 (s2 (s1 f)) = p5 at *
  generalize s3 (s2 (s1 g)) = p6 at *
  generalize s3 (s2 (s1 h)) = p7 at *
  clear ha hb hc hd he hf hg hh
  have e4 : by8 p0 p1 p2 p3 p4 p5 p6 p7 + by8 p0 p1 p2 p3 p4 p5 p6 p7 / 256 = by8 (p0 + p1) (p1 + p2) (p2 + p3) (p3 + p4) (p4 + p5) (p5 + p6) (p6 + p7) p7 := by unfold by8; omega
  rw [e4]
  have e5 : by8 (p0 + p1) (p1 + p2) (p2 + p3) (p3 + p4) (p4 + p5) (p5 + p6) (p6 + p7) p7 + by8 (p0 + p1) (p1 + p2) (p2 + p3) (p3 + p4) (p4 + p5) (p5 + p6) (p6 + p7) p7 / 65536 = by8 (p0 + p1 + p2 + p3) (p1 + p2 + p3 + p4) (p2 + p3 + p4 + p5) (p3 + p4 + p5 + p6) (p4 + p5 + p6 + p7) (p5 + p6 + p7) (p6 + p7) p7 := by unfold by8; omega
  rw [e5]
  clear e4 e5
  have e6 : by8 (p0 + p1 + p2 + p3) (p1 + p2 + p3 + p4) (p2 + p3 + p4 + p5) (p3 + p4 + p5 + p6) (p4 + p5 + p6 + p7) (p5 + p6 + p7) (p6 + p7) p7 / 4294967296 = (p4 + p5 + p6 + p7) + 256 * (p5 + p6 + p7 + 256 * (p6 + p7 + 256 * p7)) := by unfold by8; omega
  rw [e6]
  unfold by8
  have e7 : ∀ x y z : Nat, x ≤ 32 → y ≤ 32 → (x + 256 * z + y) % 128 = x + y := by intro x y z hx hy; omega
  have e8 : ∀ a z b y : Nat, a + 256 * z + (b + 256 * y) = a + 256 * (z + y) + b := by intro a z b y; omega
  rw [e8, e7 _ _ _ (by omega) (by omega)]
  omega
end Go.Proofs.YtmkidbenndhhjaaDoor.Dx
set_option linter.unusedVariables false
namespace Go.Proofs.YtmkidbenndhhjaaDoor.Dx
open Go
def cnt (M n : Nat) : Nat := ((List.range n).filter (fun i => M.testBit i)).length
theorem cnt_succ (M n : Nat) : cnt M (n + 1) = cnt M n + if M.testBit n then 1 else 0 := by
  unfold cnt
  rw [List.range_succ, List.filter_append]
  cases h : M.testBit n <;> simp [h]
theorem cnt_add (M n m : Nat) : cnt M (n + m) = cnt M n + cnt (M / 2 ^ n) m := by
  induction m with
  | zero => rfl
  | succ m ih =>
    rw [← Nat.add_assoc, cnt_succ, ih, cnt_succ, Nat.testBit_div_two_pow, Nat.add_comm m n, Nat.add_assoc]
theorem cnt_mod (M n : Nat) : cnt (M % 2 ^ n) n = cnt M n := by
  unfold cnt
  congr 1
  apply List.filter_congr
  intro i hi
  rw [Nat.testBit_mod_two_pow]
  have : i < n := by simpa using hi
  simp [this]
theorem cnt_byte (b r : Nat) (hb : b < 256) (n : Nat) : cnt (b + 256 * r) (8 + n) = pcB b + cnt r n := by
  rw [cnt_add]
  congr 1
  · rw [← cnt_mod, show (2 : Nat) ^ 8 = 256 from rfl, show (b + 256 * r) % 256 = b by omega]
    exact (nib b hb).2.2.2.symm
  · rw [show (2 : Nat) ^ 8 = 256 from rfl, show (b + 256 * r) / 256 = r by omega]
theorem ones_cnt (x : Nat) (hx : x < 2 ^ 64) : ones x = cnt x 64 := by
  obtain ⟨a, b, c, d, e, f, g, h, rfl, ha, hb, hc, hd, he, hf, hg, hh⟩ := by8_of x hx
  rw [ones_by8 a b c d e f g h ha hb hc hd he hf hg hh]
  unfold by8
  rw [show (64 : Nat) = 8 + (8 + (8 + (8 + (8 + (8 + (8 + (8 + 0))))))) from rfl, cnt_byte a _ ha, cnt_byte b _ hb, cnt_byte c _ hc, cnt_byte d _ hd, cnt_byte e _ he, cnt_byte f _ hf, cnt_byte g _ hg]
  have : cnt h (8 + 0) = pcB h := (nib h hh).2.2.2.symm
  rw [this]
  omega
theorem cnt_words (M : Nat) : (bytesOf M).length = cnt M 64 + cnt (M / 2 ^ 64) 64 + cnt (M / 2 ^ 128) 64 + cnt (M / 2 ^ 192) 64 := by
  have h : (bytesOf M).length = cnt M 256 := by unfold bytesOf bytesTo cnt; rw [List.length_map]
  rw [h, show (256 : Nat) = 64 + (64 + (64 + 64)) from rfl, cnt_add, cnt_add, cnt_add, Nat.div_div_eq_div_mul, Nat.div_div_eq_div_mul]
  rw [show (2 : Nat) ^ 64 * 2 ^ 64 = 2 ^ 128 by decide, show (2 : Nat) ^ 128 * 2 ^ 64 = 2 ^ 192 by decide]
  omega
/-- A word of a set, a number. -/
def wdN (M j : Nat) : Nat := M / 2 ^ (64 * j) % 18446744073709551616
theorem wd_nat (M j : Nat) : wd M j = ((wdN M j : Nat) : Int) := rfl
theorem wdN_lt (M j : Nat) : wdN M j < 2 ^ 64 := Nat.mod_lt _ (by decide)
theorem count_words (M : Nat) : (bytesOf M).length = ones (wdN M 0) + ones (wdN M 1) + ones (wdN M 2) + ones (wdN M 3) := by
  have h : ∀ j, ones (wdN M j) = cnt (M / 2 ^ (64 * j)) 64 := fun j => by
    rw [ones_cnt _ (wdN_lt M j), wdN, ← cnt_mod (M / 2 ^ (64 * j)) 64]
  rw [cnt_words, h, h, h, h]
  simp
theorem and_pow (k A B p q : Nat) (hp : p < 2 ^ k) (hq : q < 2 ^ k) : (2 ^ k * A + p) &&& (2 ^ k * B + q) = 2 ^ k * (A &&& B) + (p &&& q) := by
  have h1 : ((2 ^ k * A + p) &&& (2 ^ k * B + q)) % 2 ^ k = p &&& q := by
    rw [Nat.and_mod_two_pow, Nat.mul_add_mod, Nat.mul_add_mod, Nat.mod_eq_of_lt hp, Nat.mod_eq_of_lt hq]
  have h2 : ((2 ^ k * A + p) &&& (2 ^ k * B + q)) / 2 ^ k = A &&& B := by
    have := Nat.shiftRight_and_distrib (a := 2 ^ k * A + p) (b := 2 ^ k * B + q) (i := k)
    rw [Nat.shiftRight_eq_div_pow, Nat.shiftRight_eq_div_pow, Nat.shiftRight_eq_div_pow] at this
    rw [this, Nat.mul_add_div (Nat.two_pow_pos k), Nat.mul_add_div (Nat.two_pow_pos k), Nat.div_eq_of_lt hp, Nat.div_eq_of_lt hq]
    rfl
  rw [← Nat.div_add_mod ((2 ^ k * A + p) &&& (2 ^ k * B + q)) (2 ^ k), h1, h2]
/-- The lowest bit that is 1, and what is left without it. -/
theorem low_clear (x k m : Nat) (h : x = 2 ^ k * (2 * m + 1)) : x &&& (x - 1) = 2 ^ k * (2 * m) := by
  have hp := Nat.two_pow_pos k
  have e1 : x = 2 ^ k * (2 * m + 1) + 0 := h
  have e2 : x - 1 = 2 ^ k * (2 * m) + (2 ^ k - 1) := by rw [h, Nat.mul_add, Nat.mul_one]; omega
  have e3 : (2 * m + 1) &&& (2 * m) = 2 * m := by
    have := and_pow 1 m m 1 0 (by decide) (by decide)
    simpa using this
  rw [e2]
  conv => lhs; lhs; rw [e1]
  rw [and_pow k _ _ 0 _ hp (by omega), e3]
  simp
theorem filter_first (p q : Nat → Bool) (k : Nat) (hk : p k = true) (hlow : ∀ i, i < k → p i = false) (hq : ∀ i, q i = (p i && decide (i ≠ k))) : ∀ n, k < n → (List.range n).filter p = k :: (List.range n).filter q := by
  intro n
  induction n with
  | zero => intro h; omega
  | succ n ih =>
    intro h
    rw [List.range_succ, List.filter_append, List.filter_append]
    by_cases hkn : k = n
    · subst hkn
      have h1 : (List.range k).filter p = [] := by
        rw [List.filter_eq_nil_iff]; intro i hi; rw [hlow i (by simpa using hi)]; simp
      have h2 : (List.range k).filter q = [] := by
        rw [List.filter_eq_nil_iff]; intro i hi; rw [hq, hlow i (by simpa using hi)]; simp
      rw [h1, h2]
      simp [hk, hq]
    · rw [ih (by omega)]
      have : q n = p n := by rw [hq]; simp; intro _; omega
      simp [List.filter_cons, this]
theorem bits_first (x k m n : Nat) (h : x = 2 ^ k * (2 * m + 1)) (hk : k < n) :
    (List.range n).filter (fun i => x.testBit i) = k :: (List.range n).filter (fun i => (2 ^ k * (2 * m)).testBit i) := by
  have ht : ∀ t i, (2 ^ k * t).testBit i = (decide (k ≤ i) && t.testBit (i - k)) := fun t i => by rw [Nat.testBit_two_pow_mul]
  refine filter_first _ _ k ?_ ?_ ?_ n hk
  · rw [h, ht]; simp
  · intro i hi; rw [h, ht]; simp; omega
  · intro i
    rw [h, ht, ht]
    rcases Nat.lt_trichotomy i k with hlt | rfl | hgt
    · have : decide (k ≤ i) = false := by simp; omega
      rw [this]; rfl
    · simp
    · obtain ⟨d, hd⟩ : ∃ d, i - k = d + 1 := ⟨i - k - 1, by omega⟩
      rw [hd, Nat.testBit_succ, Nat.testBit_succ, show (2 * m + 1) / 2 = m by omega, show 2 * m / 2 = m by omega]
      have : decide (i ≠ k) = true := by simp; omega
      rw [this]; simp
theorem bits_none (n : Nat) : (List.range n).filter (fun i => (0 : Nat).testBit i) = [] := by simp
/-- The bytes of word j of a set. -/
def wordBytes (M j : Nat) : List UInt8 := ((List.range 64).filter (fun i => (wdN M j).testBit i)).map (fun i => UInt8.ofNat (64 * j + i))
theorem bytesTo_word (M n : Nat) : ∀ m, bytesTo M (n + m) = bytesTo M n ++ ((List.range m).filter (fun i => M.testBit (n + i))).map (fun i => UInt8.ofNat (n + i)) := by
  intro m
  induction m with
  | zero => simp
  | succ m ih =>
    rw [← Nat.add_assoc, bytesTo_succ, ih, List.range_succ, List.filter_append, List.map_append]
    cases h : M.testBit (n + m) <;> simp [h]
theorem bytesOf_words (M : Nat) : bytesOf M = wordBytes M 0 ++ (wordBytes M 1 ++ (wordBytes M 2 ++ wordBytes M 3)) := by
  have hw : ∀ j, wordBytes M j = ((List.range 64).filter (fun i => M.testBit (64 * j + i))).map (fun i => UInt8.ofNat (64 * j + i)) := by
    intro j
    unfold wordBytes
    congr 1
    apply List.filter_congr
    intro i hi
    have : i < 64 := by simpa using hi
    rw [wdN, show (18446744073709551616 : Nat) = 2 ^ 64 by decide, Nat.testBit_mod_two_pow, Nat.testBit_div_two_pow]
    simp [this, Nat.add_comm]
  unfold bytesOf
  rw [show (256 : Nat) = 0 + 64 + 64 + 64 + 64 from rfl, bytesTo_word, bytesTo_word, bytesTo_word, bytesTo_word, hw, hw, hw, hw]
  simp [bytesTo]
end Go.Proofs.YtmkidbenndhhjaaDoor.Dx
