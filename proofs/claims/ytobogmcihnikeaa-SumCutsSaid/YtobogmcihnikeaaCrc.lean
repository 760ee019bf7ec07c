namespace Go.Proofs.Ytobogmcihnikeaa.Crc

/-- One bit's step. -/
def S (n : Nat) : Nat := if n % 2 = 1 then (n / 2) ^^^ 2197175160 else n / 2
def it : Nat → Nat → Nat
  | 0, n => n
  | m + 1, n => it m (S n)
theorem it_add (a b n : Nat) : it (a + b) n = it b (it a n) := by
  induction a generalizing n with
  | zero => rw [Nat.zero_add]; rfl
  | succ a ih => rw [Nat.succ_add]; exact ih (S n)
theorem it_succ (m n : Nat) : it (m + 1) n = S (it m n) := it_add m 1 n

theorem xor_odd (a b : Nat) : (a ^^^ b) % 2 = (a % 2 + b % 2) % 2 := by
  have h := Nat.testBit_xor a b 0
  simp only [Nat.testBit_zero] at h
  rcases Nat.mod_two_eq_zero_or_one a with ha | ha <;> rcases Nat.mod_two_eq_zero_or_one b with hb | hb <;> rcases Nat.mod_two_eq_zero_or_one (a ^^^ b) with hc | hc <;> simp_all
theorem S_xor (a b : Nat) : S (a ^^^ b) = S a ^^^ S b := by
  unfold S
  rw [xor_odd, Nat.xor_div_two]
  rcases Nat.mod_two_eq_zero_or_one a with ha | ha <;> rcases Nat.mod_two_eq_zero_or_one b with hb | hb <;> simp only [ha, hb]
  · simp
  · simp [Nat.xor_assoc]
  · simp only [if_true, Nat.zero_ne_one, if_false]
    rw [Nat.xor_assoc, Nat.xor_comm (b / 2), ← Nat.xor_assoc]
  · simp only [Nat.reduceAdd, Nat.reduceMod, if_true, Nat.zero_ne_one, if_false]
    have e : (a / 2 ^^^ 2197175160) ^^^ (b / 2 ^^^ 2197175160) = (a / 2 ^^^ b / 2) ^^^ (2197175160 ^^^ 2197175160) := by
      rw [Nat.xor_assoc, ← Nat.xor_assoc 2197175160 (b / 2), Nat.xor_comm 2197175160 (b / 2), Nat.xor_assoc (b / 2), ← Nat.xor_assoc]
    rw [e, Nat.xor_self, Nat.xor_zero]
theorem it_xor (m a b : Nat) : it m (a ^^^ b) = it m a ^^^ it m b := by
  induction m generalizing a b with
  | zero => rfl
  | succ m ih => show it m (S (a ^^^ b)) = _; rw [S_xor, ih]; rfl
theorem S_double (y : Nat) : S (2 * y) = y := by unfold S; rw [if_neg (by omega)]; omega
theorem it_shift (m y : Nat) : it m (2 ^ m * y) = y := by
  induction m generalizing y with
  | zero => show 2 ^ 0 * y = y; omega
  | succ m ih => show it m (S (2 ^ (m + 1) * y)) = y; rw [show 2 ^ (m + 1) * y = 2 * (2 ^ m * y) by rw [Nat.pow_succ]; ac_rfl, S_double]; exact ih y
theorem it_zero (m : Nat) : it m 0 = 0 := by have := it_shift m 0; rwa [Nat.mul_zero] at this
theorem S_lt {n : Nat} (h : n < 4294967296) : S n < 4294967296 := by
  unfold S
  split
  · exact Nat.xor_lt_two_pow (n := 32) (by omega) (by decide)
  · omega
theorem it_lt {n : Nat} (m : Nat) (h : n < 4294967296) : it m n < 4294967296 := by
  induction m generalizing n with
  | zero => exact h
  | succ m ih => exact ih (S_lt h)
theorem S_pos {n : Nat} (h : n < 4294967296) (h0 : 0 < n) : 0 < S n := by
  unfold S
  split
  · rcases Nat.eq_zero_or_pos (n / 2 ^^^ 2197175160) with e | e
    · have e2 : n / 2 = 2197175160 := by
        have := congrArg (· ^^^ 2197175160) e
        simp only [Nat.xor_assoc, Nat.xor_self, Nat.xor_zero, Nat.zero_xor] at this
        exact this
      omega
    · exact e
  · omega
theorem it_pos {n : Nat} (m : Nat) (h : n < 4294967296) (h0 : 0 < n) : 0 < it m n := by
  induction m generalizing n with
  | zero => exact h0
  | succ m ih => exact ih (S_lt h) (S_pos h h0)

/-- The number of a text: its first byte is the lowest. -/
def num : List Nat → Nat
  | [] => 0
  | x :: l => x ^^^ (256 * num l)
/-- The register behind a text. -/
def reg : Nat → List Nat → Nat
  | c, [] => c
  | c, x :: l => reg (it 8 (c ^^^ x)) l
theorem reg_append (c : Nat) (a b : List Nat) : reg c (a ++ b) = reg (reg c a) b := by
  induction a generalizing c with
  | nil => rfl
  | cons x a ih => exact ih _
theorem reg_lt {c : Nat} (l : List Nat) (h : c < 4294967296) (hl : ∀ x ∈ l, x < 256) : reg c l < 4294967296 := by
  induction l generalizing c with
  | nil => exact h
  | cons x l ih =>
    exact ih (it_lt 8 (Nat.xor_lt_two_pow (n := 32) h (Nat.lt_trans (hl x (by simp)) (by decide)))) fun y hy => hl y (by simp [hy])
theorem reg_num (c : Nat) (l : List Nat) : reg c l = it (8 * l.length) (c ^^^ num l) := by
  induction l generalizing c with
  | nil => show c = c ^^^ 0; rw [Nat.xor_zero]
  | cons x l ih =>
    show reg (it 8 (c ^^^ x)) l = it (8 * (l.length + 1)) (c ^^^ (x ^^^ (256 * num l)))
    rw [ih, show 8 * (l.length + 1) = 8 + 8 * l.length by omega, it_add, ← Nat.xor_assoc, it_xor 8 (c ^^^ x), show 256 * num l = 2 ^ 8 * num l from rfl, it_shift]
def full : Nat := 4294967295
/-- The sum of a text. -/
def crc (l : List Nat) : Nat := reg full l ^^^ full
theorem crc_lt {l : List Nat} (hl : ∀ x ∈ l, x < 256) : crc l < 4294967296 := Nat.xor_lt_two_pow (n := 32) (reg_lt l (by decide) hl) (by decide)

theorem crc_xor (a b : List Nat) (h : a.length = b.length) : crc a ^^^ crc b = it (8 * a.length) (num a ^^^ num b) := by
  unfold crc
  have e : ∀ x y f : Nat, (x ^^^ f) ^^^ (y ^^^ f) = x ^^^ y := fun x y f => by
    rw [Nat.xor_comm y f, Nat.xor_assoc, ← Nat.xor_assoc f f y, Nat.xor_self, Nat.zero_xor]
  have e' : ∀ x y f : Nat, (f ^^^ x) ^^^ (f ^^^ y) = x ^^^ y := fun x y f => by
    rw [Nat.xor_comm f x, Nat.xor_comm f y]; exact e x y f
  rw [e, reg_num, reg_num, ← h, ← it_xor, e']
/-- Sums are equal just if what they differ by comes to nothing. -/
theorem crc_ne {a b : List Nat} (h : a.length = b.length) (s d : Nat) (hd : num a ^^^ num b = 2 ^ s * d) (hs : s ≤ 8 * a.length) (h0 : 0 < d) (h1 : d < 4294967296) : crc a ≠ crc b := by
  intro he
  have := crc_xor a b h
  rw [he, Nat.xor_self, hd, show 8 * a.length = s + (8 * a.length - s) by omega, it_add, it_shift] at this
  have := it_pos (8 * a.length - s) h1 h0
  omega
theorem crc_linear (a b c d : List Nat) (hb : b.length = a.length) (hc : c.length = a.length) (hd : d.length = a.length) (h : num d = num a ^^^ num b ^^^ num c) : crc d = crc a ^^^ crc b ^^^ crc c := by
  unfold crc
  rw [reg_num, reg_num, reg_num, reg_num, hb, hc, hd, h]
  generalize 8 * a.length = m
  rw [show full ^^^ (num a ^^^ num b ^^^ num c) = (full ^^^ num a) ^^^ (full ^^^ num b) ^^^ (full ^^^ num c) by
    have e : ∀ f x y z : Nat, (f ^^^ x) ^^^ (f ^^^ y) ^^^ (f ^^^ z) = f ^^^ (x ^^^ y ^^^ z) := fun f x y z => by
      rw [Nat.xor_comm f x, Nat.xor_assoc x f (f ^^^ y), ← Nat.xor_assoc f f y, Nat.xor_self, Nat.zero_xor, ← Nat.xor_assoc (x ^^^ y) f z, Nat.xor_comm (x ^^^ y) f, Nat.xor_assoc]
    exact (e _ _ _ _).symm]
  rw [it_xor, it_xor]
  have e : ∀ f x y z : Nat, (x ^^^ f) ^^^ (y ^^^ f) ^^^ (z ^^^ f) = (x ^^^ y ^^^ z) ^^^ f := fun f x y z => by
    rw [Nat.xor_comm y f, Nat.xor_assoc x f (f ^^^ y), ← Nat.xor_assoc f f y, Nat.xor_self, Nat.zero_xor, ← Nat.xor_assoc]
  exact (e _ _ _ _).symm
theorem pow_mul_xor (i a b : Nat) : 2 ^ i * (a ^^^ b) = 2 ^ i * a ^^^ 2 ^ i * b := by
  have h := Nat.shiftLeft_xor_distrib (i := i) (a := a) (b := b)
  simp only [Nat.shiftLeft_eq] at h
  rw [Nat.mul_comm, Nat.mul_comm _ a, Nat.mul_comm _ b]
  exact h
theorem num_set (l : List Nat) : ∀ (p y : Nat) (h : p < l.length), num (l.set p (l[p] ^^^ y)) = num l ^^^ (2 ^ (8 * p) * y) := by
  induction l with
  | nil => intro p y h; simp at h
  | cons x l ih =>
    intro p y h
    cases p with
    | zero =>
      show (x ^^^ y) ^^^ (256 * num l) = (x ^^^ (256 * num l)) ^^^ (2 ^ 0 * y)
      rw [Nat.pow_zero, Nat.one_mul, Nat.xor_assoc, Nat.xor_comm y, ← Nat.xor_assoc]
    | succ p =>
      have hp : p < l.length := by simpa using h
      show x ^^^ (256 * num (l.set p (l[p] ^^^ y))) = (x ^^^ (256 * num l)) ^^^ (2 ^ (8 * (p + 1)) * y)
      rw [ih p y hp, show (256 : Nat) = 2 ^ 8 from rfl, pow_mul_xor, Nat.xor_assoc, show 2 ^ (8 * (p + 1)) * y = 2 ^ 8 * (2 ^ (8 * p) * y) by rw [show 8 * (p + 1) = 8 + 8 * p by omega, Nat.pow_add, Nat.mul_assoc]]
theorem mod_step (x k : Nat) : x % 2 ^ (k + 1) = if x.testBit k = true then x % 2 ^ k ^^^ 2 ^ k else x % 2 ^ k := by
  apply Nat.eq_of_testBit_eq
  intro i
  split
  · rename_i h
    rw [Nat.testBit_xor, Nat.testBit_mod_two_pow, Nat.testBit_mod_two_pow, Nat.testBit_two_pow]
    rcases Nat.lt_trichotomy i k with hi | hi | hi
    · simp [hi, Nat.lt_succ_of_lt hi, Nat.ne_of_gt hi]
    · subst hi; simp [h]
    · simp [Nat.not_lt.2 (Nat.le_of_lt hi), Nat.not_lt.2 hi, Nat.ne_of_lt hi]
  · rename_i h
    rw [Nat.testBit_mod_two_pow, Nat.testBit_mod_two_pow]
    rcases Nat.lt_trichotomy i k with hi | hi | hi
    · simp [hi, Nat.lt_succ_of_lt hi]
    · subst hi; simp [h]
    · simp [Nat.not_lt.2 (Nat.le_of_lt hi), Nat.not_lt.2 hi]
/-- Xored together byte by byte. -/
theorem num_xor3 : ∀ (a b c d : List Nat), b.length = a.length → c.length = a.length → d.length = a.length →
    (∀ i, ∀ (h : i < a.length) (hb : i < b.length) (hc : i < c.length) (hd : i < d.length), d[i] = a[i] ^^^ b[i] ^^^ c[i]) → num d = num a ^^^ num b ^^^ num c := by
  intro a
  induction a with
  | nil =>
    intro b c d hb hc hd _
    simp only [List.length_nil, List.length_eq_zero_iff] at hb hc hd
    subst hb hc hd
    rfl
  | cons x a ih =>
    intro b c d hb hc hd h
    cases b with
    | nil => simp at hb
    | cons y b =>
      cases c with
      | nil => simp at hc
      | cons z c =>
        cases d with
        | nil => simp at hd
        | cons t d =>
          simp only [List.length_cons, Nat.add_right_cancel_iff] at hb hc hd
          have h0 := h 0 (by simp) (by simp) (by simp) (by simp)
          have h1 := ih b c d hb hc hd fun i hi hib hic hid => by
            have := h (i + 1) (by simpa using hi) (by simpa using hib) (by simpa using hic) (by simpa using hid)
            simpa using this
          show t ^^^ (256 * num d) = (x ^^^ (256 * num a)) ^^^ (y ^^^ (256 * num b)) ^^^ (z ^^^ (256 * num c))
          have h0' : t = x ^^^ y ^^^ z := by simpa using h0
          rw [h1, h0', show (256 : Nat) = 2 ^ 8 from rfl, pow_mul_xor, pow_mul_xor]
          generalize 2 ^ 8 * num a = A
          generalize 2 ^ 8 * num b = B
          generalize 2 ^ 8 * num c = C
          have sw : ∀ p q r s : Nat, (p ^^^ q) ^^^ (r ^^^ s) = (p ^^^ r) ^^^ (q ^^^ s) := fun p q r s => by
            rw [Nat.xor_assoc, ← Nat.xor_assoc q r s, Nat.xor_comm q r, Nat.xor_assoc r q s, ← Nat.xor_assoc]
          rw [sw x A y B, sw (x ^^^ y) (A ^^^ B) z C]
end Go.Proofs.Ytobogmcihnikeaa.Crc
