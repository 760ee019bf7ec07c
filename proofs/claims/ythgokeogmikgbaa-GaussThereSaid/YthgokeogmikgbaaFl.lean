import GoSem.Core.Float
import Derived.Laws.FloatArith
import Derived.Laws.ComplexArith
/-! Whole numbers as floats (float64): what the machine's floats do with small whole numbers is exact. -/
namespace Go.Proofs.Ythgokeogmikgbaa.Fl
open Ieee Go
set_option linter.unusedVariables false
set_option linter.unusedSimpArgs false

theorem log2_pow (m j : Nat) (hm : 0 < m) : (m * 2 ^ j).log2 = m.log2 + j := by
  have h1 : 0 < m * 2 ^ j := Nat.mul_pos hm (Nat.two_pow_pos j)
  rw [Nat.log2_eq_iff (by omega)]
  have h2 := (Nat.log2_eq_iff (n := m) (k := m.log2) (by omega)).1 rfl
  rw [Nat.pow_add, show m.log2 + j + 1 = (m.log2 + 1) + j by omega, Nat.pow_add]
  exact ⟨Nat.mul_le_mul_right _ h2.1, Nat.mul_lt_mul_of_pos_right h2.2 (Nat.two_pow_pos j)⟩
theorem cut_exact (way : Toward) (neg : Bool) (x j : Nat) : way.cut neg (x * 2 ^ j) j = x := by
  unfold Toward.cut
  have hx : x = 0 ∨ min j ((x * 2 ^ j).log2 + 2) = j := by
    rcases Nat.eq_zero_or_pos x with h | h
    · exact .inl h
    · right; rw [log2_pow x j h]; omega
  have hg : 0 < 1 <<< min j ((x * 2 ^ j).log2 + 2) := by rw [Nat.shiftLeft_eq]; have := Nat.two_pow_pos (min j ((x * 2 ^ j).log2 + 2)); omega
  have h0 : x * 2 ^ j / (1 <<< min j ((x * 2 ^ j).log2 + 2)) = x ∧ x * 2 ^ j % (1 <<< min j ((x * 2 ^ j).log2 + 2)) = 0 := by
    rcases hx with rfl | h
    · simp
    · rw [h, Nat.shiftLeft_eq, Nat.one_mul]
      exact ⟨Nat.mul_div_cancel _ (Nat.two_pow_pos j), Nat.mul_mod_left _ _⟩
  generalize 1 <<< min j ((x * 2 ^ j).log2 + 2) = gap at *
  dsimp only
  rw [h0.1, h0.2]
  have hb : ¬ gap < 2 * 0 := by omega
  have he : (gap == 2 * 0) = false := by simp; omega
  cases way <;> simp [he]
theorem two_pow_52 : (2 : Nat) ^ 52 = 4503599627370496 := by decide
theorem two_pow_63 : (2 : Nat) ^ 63 = 9223372036854775808 := by decide
theorem lg_lt {m : Nat} (hm : 0 < m) (h : m < 2 ^ 30) : m.log2 < 30 := (Nat.log2_lt (by omega)).2 h
/-- The rung of a whole number. -/
def rung (m : Nat) : Nat := (m.log2 + 1022) * 2 ^ 52 + m * 2 ^ (52 - m.log2)
theorem kept_in {m : Nat} (hm : 0 < m) (h : m < 2 ^ 30) : 2 ^ 52 ≤ m * 2 ^ (52 - m.log2) ∧ m * 2 ^ (52 - m.log2) < 2 ^ 53 := by
  have h2 := (Nat.log2_eq_iff (n := m) (k := m.log2) (by omega)).1 rfl
  have hl := lg_lt hm h
  have e1 : 2 ^ 52 = 2 ^ m.log2 * 2 ^ (52 - m.log2) := by rw [← Nat.pow_add]; congr 1; omega
  have e2 : 2 ^ 53 = 2 ^ (m.log2 + 1) * 2 ^ (52 - m.log2) := by rw [← Nat.pow_add]; congr 1; omega
  rw [e1, e2]
  exact ⟨Nat.mul_le_mul_right _ h2.1, Nat.mul_lt_mul_of_pos_right h2.2 (Nat.two_pow_pos _)⟩
theorem rung_in {m : Nat} (hm : 0 < m) (h : m < 2 ^ 30) : rung m < double.infRung := by
  have h1 := kept_in hm h
  have hl := lg_lt hm h
  have e : double.infRung = 2047 * 2 ^ 52 := by decide
  have e53 : (2 : Nat) ^ 53 = 2 * 2 ^ 52 := by decide
  rw [e]
  unfold rung
  rw [e53] at h1
  generalize m * 2 ^ (52 - m.log2) = x at *
  rw [two_pow_52] at *
  omega
theorem least : double.leastPlace = -1074 := by decide
theorem nearest_pow (s : Bool) (m j : Nat) (hm : 0 < m) (h : m < 2 ^ 30) (hj : j ≤ 1074) : double.nearest s (m * 2 ^ j) (-(j : Int)) = double.word s (rung m) := by
  have hl := lg_lt hm h
  have hr := rung_in hm h
  unfold Format.nearest
  rw [if_neg (Nat.pos_iff_ne_zero.1 (Nat.mul_pos hm (Nat.two_pow_pos j)))]
  have e1 : max (-(j : Int) + ((m * 2 ^ j).log2 : Int) - (double.fractionBits : Int)) double.leastPlace = (m.log2 : Int) - 52 := by
    rw [log2_pow m j hm, least, show (double.fractionBits : Int) = 52 from rfl]
    omega
  dsimp only
  rw [e1, least]
  have hk : Toward.even.cut s ((m * 2 ^ j) <<< (-(j : Int) - ((m.log2 : Int) - 52)).toNat) ((m.log2 : Int) - 52 - -(j : Int)).toNat = m * 2 ^ (52 - m.log2) := by
    rcases Nat.le_total (j + m.log2) 52 with c | c
    · rw [show (-(j : Int) - ((m.log2 : Int) - 52)).toNat = 52 - m.log2 - j by omega, show ((m.log2 : Int) - 52 - -(j : Int)).toNat = 0 by omega, Nat.shiftLeft_eq]
      have := cut_exact .even s (m * 2 ^ j * 2 ^ (52 - m.log2 - j)) 0
      rw [Nat.pow_zero, Nat.mul_one] at this
      rw [this, Nat.mul_assoc, ← Nat.pow_add]
      congr 2; omega
    · rw [show (-(j : Int) - ((m.log2 : Int) - 52)).toNat = 0 by omega, show ((m.log2 : Int) - 52 - -(j : Int)).toNat = j + m.log2 - 52 by omega, Nat.shiftLeft_eq, Nat.pow_zero, Nat.mul_one]
      rw [show m * 2 ^ j = m * 2 ^ (52 - m.log2) * 2 ^ (j + m.log2 - 52) by rw [Nat.mul_assoc, ← Nat.pow_add]; congr 2; omega]
      exact cut_exact .even s _ _
  rw [hk, show ((m.log2 : Int) - 52 - -1074).toNat = m.log2 + 1022 by omega]
  have : min ((m.log2 + 1022) * double.binade + m * 2 ^ (52 - m.log2)) double.infRung = rung m := Nat.min_eq_left (Nat.le_of_lt hr)
  rw [this]
theorem read_word (s : Bool) (m : Nat) (hm : 0 < m) (h : m < 2 ^ 30) : double.read (double.word s (rung m)) = .number s (m * 2 ^ (52 - m.log2)) (-((52 - m.log2 : Nat) : Int)) := by
  have hl := lg_lt hm h
  have hk := kept_in hm h
  have hr := rung_in hm h
  have e63 : double.signWeight = 9223372036854775808 := by decide
  have eb : double.binade = 4503599627370496 := by decide
  have ei : double.infRung = 2047 * 4503599627370496 := by decide
  have hlt : rung m < 9223372036854775808 := by rw [ei] at hr; omega
  have e53 : (2 : Nat) ^ 53 = 9007199254740992 := by decide
  unfold Format.read Format.word
  rw [e63, eb, least]
  have hneg : ((if s = true then 9223372036854775808 + rung m else rung m) / 9223372036854775808 % 2 == 1) = s := by
    cases s
    · simp only [Bool.false_eq_true, if_false]; rw [Nat.div_eq_of_lt hlt]; rfl
    · simp only [if_true]; rw [show (9223372036854775808 + rung m) / 9223372036854775808 = 1 by omega]; rfl
  have hmod : (if s = true then 9223372036854775808 + rung m else rung m) % 9223372036854775808 = rung m := by
    cases s
    · simp only [Bool.false_eq_true, if_false]; exact Nat.mod_eq_of_lt hlt
    · simp only [if_true]; omega
  dsimp only
  rw [hneg, hmod]
  have hd : rung m = (m.log2 + 1022) * 4503599627370496 + m * 2 ^ (52 - m.log2) := by unfold rung; rw [two_pow_52]
  rw [two_pow_52, e53] at hk
  generalize m * 2 ^ (52 - m.log2) = x at hd hk ⊢
  rw [ei] at hr ⊢
  clear e63 eb ei e53 hneg hmod
  rw [if_neg (by omega), if_pos hr, show rung m % 4503599627370496 = x - 4503599627370496 by omega, show rung m / 4503599627370496 = m.log2 + 1023 by omega]
  rw [show 4503599627370496 + (x - 4503599627370496) = x by omega, show -1074 + ((m.log2 + 1023 - 1 : Nat) : Int) = -((52 - m.log2 : Nat) : Int) by omega]
/-- A whole number as a float. -/
def fl (n : Int) : Nat := FloatKind.f64.nearest n
theorem fl_eq (n : Int) : fl n = double.nearest (decide (n < 0)) n.natAbs 0 := rfl
theorem nearest_zero (s : Bool) (p : Int) : double.nearest s 0 p = double.word s 0 := by unfold Format.nearest; rw [if_pos rfl]
theorem fl_zero : fl 0 = 0 := by decide
theorem nearest_fl (n : Int) (hn : n.natAbs < 2 ^ 30) (j : Nat) (hj : j ≤ 1074) : double.nearest (decide (n < 0)) (n.natAbs * 2 ^ j) (-(j : Int)) = fl n := by
  rw [fl_eq]
  rcases Nat.eq_zero_or_pos n.natAbs with h | h
  · rw [h, Nat.zero_mul, nearest_zero, nearest_zero]
  · rw [nearest_pow _ _ j h hn hj]
    have := nearest_pow (decide (n < 0)) n.natAbs 0 h hn (by omega)
    rw [Nat.pow_zero, Nat.mul_one] at this
    exact this.symm
theorem read_fl (n : Int) (hn : n.natAbs < 2 ^ 30) : ∃ j : Nat, j ≤ 1074 ∧ double.read (fl n) = .number (decide (n < 0)) (n.natAbs * 2 ^ j) (-(j : Int)) := by
  rcases Nat.eq_zero_or_pos n.natAbs with h | h
  · obtain rfl : n = 0 := by omega
    obtain ⟨j, hj⟩ : ∃ j : Nat, j = 1074 := ⟨_, rfl⟩
    refine ⟨j, by omega, ?_⟩
    rw [fl_zero, show (0 : Int).natAbs = 0 from rfl, Nat.zero_mul, hj]
    decide
  · refine ⟨52 - n.natAbs.log2, by omega, ?_⟩
    have := nearest_fl n hn 0 (by omega)
    rw [Nat.pow_zero, Nat.mul_one] at this
    rw [← this, show (-((0 : Nat) : Int)) = -((0 : Nat) : Int) from rfl]
    have h2 := nearest_pow (decide (n < 0)) n.natAbs 0 h hn (by omega)
    rw [Nat.pow_zero, Nat.mul_one] at h2
    rw [h2, read_word _ _ h hn]
theorem signed_pow (n : Int) (j k : Nat) : signed (decide (n < 0)) (n.natAbs * 2 ^ j) k = n * ((2 ^ (j + k) : Nat) : Int) := by
  unfold signed
  rw [Nat.shiftLeft_eq, Nat.mul_assoc, ← Nat.pow_add]
  generalize 2 ^ (j + k) = p
  by_cases h : n < 0
  · rw [if_pos (by simpa using h)]
    obtain ⟨m, rfl⟩ : ∃ m : Nat, n = -(m : Int) := ⟨n.natAbs, by omega⟩
    simp [Int.neg_mul]
  · rw [if_neg (by simpa using h)]
    obtain ⟨m, rfl⟩ : ∃ m : Nat, n = (m : Int) := ⟨n.natAbs, by omega⟩
    simp
theorem signed_pow' (n : Int) (j k : Nat) : signed (!decide (n < 0)) (n.natAbs * 2 ^ j) k = (-n) * ((2 ^ (j + k) : Nat) : Int) := by
  have h : signed (!decide (n < 0)) (n.natAbs * 2 ^ j) k = -signed (decide (n < 0)) (n.natAbs * 2 ^ j) k := by
    unfold signed
    by_cases h : n < 0 <;> simp [h]
  rw [h, signed_pow, Int.neg_mul]
theorem total_eq (c : Int) (k : Nat) (b : Bool) (hb : c = 0 → b = false) : (Datum.number (if c * ((2 ^ k : Nat) : Int) = 0 then b else decide (c * ((2 ^ k : Nat) : Int) < 0)) (c * ((2 ^ k : Nat) : Int)).natAbs (-(k : Int))) = .number (decide (c < 0)) (c.natAbs * 2 ^ k) (-(k : Int)) := by
  have hp : 0 < ((2 ^ k : Nat) : Int) := by have := Nat.two_pow_pos k; omega
  rw [Int.natAbs_mul, Int.natAbs_natCast]
  congr 1
  by_cases h : c = 0
  · subst h; simp [hb rfl]
  · have h1 : c * ((2 ^ k : Nat) : Int) ≠ 0 := fun e => by rcases Int.mul_eq_zero.1 e with e | e <;> omega
    rw [if_neg h1]
    apply decide_eq_decide.2
    constructor
    · intro h2
      rcases Int.lt_trichotomy c 0 with h3 | h3 | h3
      · exact h3
      · exact absurd h3 h
      · exact absurd (Int.mul_pos h3 hp) (by omega)
    · intro h2
      exact Int.mul_neg_of_neg_of_pos h2 hp
theorem add_fl (a b : Int) (ha : a.natAbs < 2 ^ 29) (hb : b.natAbs < 2 ^ 29) : double.add (fl a) (fl b) = some (fl (a + b)) := by
  have e29 : (2 : Nat) ^ 30 = 2 * 2 ^ 29 := by decide
  obtain ⟨i, hi, h1⟩ := read_fl a (by omega)
  obtain ⟨j, hj, h2⟩ := read_fl b (by omega)
  unfold Format.add
  rw [h1, h2]
  unfold Datum.sum
  dsimp only
  have hm : min (-(i : Int)) (-(j : Int)) = -((max i j : Nat) : Int) := by omega
  rw [hm, show (-(i : Int) - -((max i j : Nat) : Int)).toNat = max i j - i by omega, show (-(j : Int) - -((max i j : Nat) : Int)).toNat = max i j - j by omega]
  rw [signed_pow, signed_pow, show i + (max i j - i) = max i j by omega, show j + (max i j - j) = max i j by omega, ← Int.add_mul]
  rw [total_eq (a + b) (max i j) _ (by intro h; by_cases h3 : a < 0 <;> by_cases h4 : b < 0 <;> simp [h3, h4] <;> omega)]
  show some (double.nearest _ _ _) = _
  rw [nearest_fl (a + b) (by omega) (max i j) (by omega)]
theorem sub_fl (a b : Int) (ha : a.natAbs < 2 ^ 29) (hb : b.natAbs < 2 ^ 29) : double.sub (fl a) (fl b) = some (fl (a - b)) := by
  have e29 : (2 : Nat) ^ 30 = 2 * 2 ^ 29 := by decide
  obtain ⟨i, hi, h1⟩ := read_fl a (by omega)
  obtain ⟨j, hj, h2⟩ := read_fl b (by omega)
  unfold Format.sub
  rw [h1, h2]
  unfold Datum.opposite Datum.sum
  dsimp only
  have hm : min (-(i : Int)) (-(j : Int)) = -((max i j : Nat) : Int) := by omega
  rw [hm, show (-(i : Int) - -((max i j : Nat) : Int)).toNat = max i j - i by omega, show (-(j : Int) - -((max i j : Nat) : Int)).toNat = max i j - j by omega]
  rw [signed_pow, signed_pow', show i + (max i j - i) = max i j by omega, show j + (max i j - j) = max i j by omega, ← Int.add_mul]
  rw [total_eq (a + -b) (max i j) _ (by intro h; by_cases h3 : a < 0 <;> by_cases h4 : b < 0 <;> simp [h3, h4] <;> omega)]
  show some (double.nearest _ _ _) = _
  rw [nearest_fl (a + -b) (by omega) (max i j) (by omega), Int.sub_eq_add_neg]
theorem order_fl (a b : Int) (ha : a.natAbs < 2 ^ 30) (hb : b.natAbs < 2 ^ 30) : double.order (fl a) (fl b) = some (compare a b) := by
  obtain ⟨i, hi, h1⟩ := read_fl a ha
  obtain ⟨j, hj, h2⟩ := read_fl b hb
  unfold Format.order
  rw [h1, h2]
  unfold Datum.order
  dsimp only
  have hm : min (-(i : Int)) (-(j : Int)) = -((max i j : Nat) : Int) := by omega
  rw [hm, show (-(i : Int) - -((max i j : Nat) : Int)).toNat = max i j - i by omega, show (-(j : Int) - -((max i j : Nat) : Int)).toNat = max i j - j by omega]
  rw [signed_pow, signed_pow, show i + (max i j - i) = max i j by omega, show j + (max i j - j) = max i j by omega]
  have hp : 0 < ((2 ^ max i j : Nat) : Int) := by have := Nat.two_pow_pos (max i j); omega
  generalize ((2 ^ max i j : Nat) : Int) = p at hp
  congr 1
  rcases Int.lt_trichotomy a b with h | h | h
  · rw [Int.compare_eq_lt.2 h, Int.compare_eq_lt.2 (Int.mul_lt_mul_of_pos_right h hp)]
  · subst h; simp
  · rw [Int.compare_eq_gt.2 h, Int.compare_eq_gt.2 (Int.mul_lt_mul_of_pos_right h hp)]
theorem integral_fl (way : Toward) (a : Int) (ha : a.natAbs < 2 ^ 30) : (double.read (fl a)).integral way = .number (decide (a < 0)) a.natAbs 0 := by
  obtain ⟨i, hi, h1⟩ := read_fl a ha
  rw [h1]
  unfold Datum.integral
  dsimp only
  rw [show (-(i : Int)).toNat = 0 by omega, show (- -(i : Int)).toNat = i by omega, Nat.shiftLeft_eq, Nat.pow_zero, Nat.mul_one, cut_exact]
theorem toInt_fl (a : Int) (ha : a.natAbs < 2 ^ 30) : (double.read (fl a)).toInt .zero = some a := by
  unfold Datum.toInt
  rw [integral_fl .zero a ha]
  have := signed_pow a 0 0
  simp only [Nat.pow_zero, Nat.mul_one, Nat.add_zero, Int.natCast_one, Int.mul_one] at this
  dsimp only
  rw [this]
end Go.Proofs.Ythgokeogmikgbaa.Fl
