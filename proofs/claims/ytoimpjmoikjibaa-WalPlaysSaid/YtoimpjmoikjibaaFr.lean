/- chapter 11, plainly: sums of bytes, frames. -/
import Derived.Test.YtoimpjmoikjibaaEvC
import Derived.Laws.BitsAllLaws
import Derived.Test.YtoimpjmoikjibaaPx
namespace Go.Proofs.Ytoimpjmoikjibaa.Crc
/-- One bit's step. -/
def S (n : Nat) : Nat := if n % 2 = 1 then (n / 2) ^^^ 2197175160 else n / 2
def it : Nat → Nat → Nat
  | 0, n => n
  | m + 1, n => it m (S n)
theorem it_add (a b n : Nat) : it (a + b) n = it b (it a n) := by
  induction a generalizing n with
  | zero => rw [Nat.zero_add]; rfl
  | succ a ih => rw [Nat.succ_add]; exact ih (S n)
theorem it_succ (m n : Nat) : it (m + 1) n = S (it m n) := it_add m 1 n
theorem xor_odd (a b : Nat) : (a ^^^ b) % 2 = (a % 2 + b % 2) % 2 := by
  have h := Nat.testBit_xor a b 0
  simp only [Nat.testBit_zero] at h
  rcases Nat.mod_two_eq_zero_or_one a with ha | ha <;> rcases Nat.mod_two_eq_zero_or_one b with hb | hb <;> rcases Nat.mod_two_eq_zero_or_one (a ^^^ b) with hc | hc <;> simp_all
theorem S_xor (a b : Nat) : S (a ^^^ b) = S a ^^^ S b := by
  unfold S
  rw [xor_odd, Nat.xor_div_two]
  rcases Nat.mod_two_eq_zero_or_one a with ha | ha <;> rcases Nat.mod_two_eq_zero_or_one b with hb | hb <;> simp only [ha, hb]
  · simp
  · simp [Nat.xor_assoc]
  · simp only [if_true, Nat.zero_ne_one, if_false]
    rw [Nat.xor_assoc, Nat.xor_comm (b / 2), ← Nat.xor_assoc]
  · simp only [Nat.reduceAdd, Nat.reduceMod, if_true, Nat.zero_ne_one, if_false]
    have e : (a / 2 ^^^ 2197175160) ^^^ (b / 2 ^^^ 2197175160) = (a / 2 ^^^ b / 2) ^^^ (2197175160 ^^^ 2197175160) := by
      rw [Nat.xor_assoc, ← Nat.xor_assoc 2197175160 (b / 2), Nat.xor_comm 2197175160 (b / 2), Nat.xor_assoc (b / 2), ← Nat.xor_assoc]
    rw [e, Nat.xor_self, Nat.xor_zero]
theorem it_xor (m a b : Nat) : it m (a ^^^ b) = it m a ^^^ it m b := by
  induction m generalizing a b with
  | zero => rfl
  | succ m ih => show it m (S (a ^^^ b)) = _; rw [S_xor, ih]; rfl
theorem S_double (y : Nat) : S (2 * y) = y := by unfold S; rw [if_neg (by omega)]; omega
theorem it_shift (m y : Nat) : it m (2 ^ m * y) = y := by
  induction m generalizing y with
  | zero => show 2 ^ 0 * y = y; omega
  | succ m ih => show it m (S (2 ^ (m + 1) * y)) = y; rw [show 2 ^ (m + 1) * y = 2 * (2 ^ m * y) by rw [Nat.pow_succ]; ac_rfl, S_double]; exact ih y
theorem it_zero (m : Nat) : it m 0 = 0 := by have := it_shift m 0; rwa [Nat.mul_zero] at this
theorem S_lt {n : Nat} (h : n < 4294967296) : S n < 4294967296 := by
  unfold S
  split
  · exact Nat.xor_lt_two_pow (n := 32) (by omega) (by decide)
  · omega
theorem it_lt {n : Nat} (m : Nat) (h : n < 4294967296) : it m n < 4294967296 := by
  induction m generalizing n with
  | zero => exact h
  | succ m ih => exact ih (S_lt h)
theorem S_pos {n : Nat} (h : n < 4294967296) (h0 : 0 < n) : 0 < S n := by
  unfold S
  split
  · rcases Nat.eq_zero_or_pos (n / 2 ^^^ 2197175160) with e | e
    · have e2 : n / 2 = 2197175160 := by
        have := congrArg (· ^^^ 2197175160) e
        simp only [Nat.xor_assoc, Nat.xor_self, Nat.xor_zero, Nat.zero_xor] at this
        exact this
      omega
    · exact e
  · omega
theorem it_pos {n : Nat} (m : Nat) (h : n < 4294967296) (h0 : 0 < n) : 0 < it m n := by
  induction m generalizing n with
  | zero => exact h0
  | succ m ih => exact ih (S_lt h) (S_pos h h0)
/-- The number of a text: its first byte is the lowest. -/
def num : List Nat → Nat
  | [] => 0
  | x :: l => x ^^^ (256 * num l)
/-- The register behind a text. -/
def reg : Nat → List Nat → Nat
  | c, [] => c
  | c, x :: l => reg (it 8 (c ^^^ x)) l
theorem reg_append (c : Nat) (a b : List Nat) : reg c (a ++ b) = reg (reg c a) b := by
  induction a generalizing c with
  | nil => rfl
  | cons x a ih => exact ih _
theorem reg_lt {c : Nat} (l : List Nat) (h : c < 4294967296) (hl : ∀ x ∈ l, x < 256) : reg c l < 4294967296 := by
  induction l generalizing c with
  | nil => exact h
  | cons x l ih =>
    exact ih (it_lt 8 (Nat.xor_lt_two_pow (n := 32) h (Nat.lt_trans (hl x (by simp)) (by decide)))) fun y hy => hl y (by simp [hy])
theorem reg_num (c : Nat) (l : List Nat) : reg c l = it (8 * l.length) (c ^^^ num l) := by
  induction l generalizing c with
  | nil => show c = c ^^^ 0; rw [Nat.xor_zero]
  | cons x l ih =>
    show reg (it 8 (c ^^^ x)) l = it (8 * (l.length + 1)) (c ^^^ (x ^^^ (256 * num l)))
    rw [ih, show 8 * (l.length + 1) = 8 + 8 * l.length by omega, it_add, ← Nat.xor_assoc, it_xor 8 (c ^^^ x), show 256 * num l = 2 ^ 8 * num l from rfl, it_shift]
def full : Nat := 4294967295
/-- The sum of a text. -/
def crc (l : List Nat) : Nat := reg full l ^^^ full
theorem crc_lt {l : List Nat} (hl : ∀ x ∈ l, x < 256) : crc l < 4294967296 := Nat.xor_lt_two_pow (n := 32) (reg_lt l (by decide) hl) (by decide)
theorem crc_xor (a b : List Nat) (h : a.length = b.length) : crc a ^^^ crc b = it (8 * a.length) (num a ^^^ num b) := by
  unfold crc
  have e : ∀ x y f : Nat, (x ^^^ f) ^^^ (y ^^^ f) = x ^^^ y := fun x y f => by
    rw [Nat.xor_comm y f, Nat.xor_assoc, ← Nat.xor_assoc f f y, Nat.xor_self, Nat.zero_xor]
  have e' : ∀ x y f : Nat, (f ^^^ x) ^^^ (f ^^^ y) = x ^^^ y := fun x y f => by
    rw [Nat.xor_comm f x, Nat.xor_comm f y]; exact e x y f
  rw [e, reg_num, reg_num, ← h, ← it_xor, e']
/-- Sums are equal just if what they differ by comes to nothing. -/
theorem crc_ne {a b : List Nat} (h : a.length = b.length) (s d : Nat) (hd : num a ^^^ num b = 2 ^ s * d) (hs : s ≤ 8 * a.length) (h0 : 0 < d) (h1 : d < 4294967296) : crc a ≠ crc b := by
  intro he
  have := crc_xor a b h
  rw [he, Nat.xor_self, hd, show 8 * a.length = s + (8 * a.length - s) by omega, it_add, it_shift] at this
  have := it_pos (8 * a.length - s) h1 h0
  omega
theorem crc_linear (a b c d : List Nat) (hb : b.length = a.length) (hc : c.length = a.length) (hd : d.length = a.length) (h : num d = num a ^^^ num b ^^^ num c) : crc d = crc a ^^^ crc b ^^^ crc c := by
  unfold crc
  rw [reg_num, reg_num, reg_num, reg_num, hb, hc, hd, h]
  generalize 8 * a.length = m
  rw [show full ^^^ (num a ^^^ num b ^^^ num c) = (full ^^^ num a) ^^^ (full ^^^ num b) ^^^ (full ^^^ num c) by
    have e : ∀ f x y z : Nat, (f ^^^ x) ^^^ (f ^^^ y) ^^^ (f ^^^ z) = f ^^^ (x ^^^ y ^^^ z) := fun f x y z => by
      rw [Nat.xor_comm f x, Nat.xor_assoc x f (f ^^^ y), ← Nat.xor_assoc f f y, Nat.xor_self, Nat.zero_xor, ← Nat.xor_assoc (x ^^^ y) f z, Nat.xor_comm (x ^^^ y) f, Nat.xor_assoc]
    exact (e _ _ _ _).symm]
  rw [it_xor, it_xor]
  have e : ∀ f x y z : Nat, (x ^^^ f) ^^^ (y ^^^ f) ^^^ (z ^^^ f) = (x ^^^ y ^^^ z) ^^^ f := fun f x y z => by
    rw [Nat.xor_comm y f, Nat.xor_assoc x f (f ^^^ y), ← Nat.xor_assoc f f y, Nat.xor_self, Nat.zero_xor, ← Nat.xor_assoc]
  exact (e _ _ _ _).symm
theorem pow_mul_xor (i a b : Nat) : 2 ^ i * (a ^^^ b) = 2 ^ i * a ^^^ 2 ^ i * b := by
  have h := Nat.shiftLeft_xor_distrib (i := i) (a := a) (b := b)
  simp only [Nat.shiftLeft_eq] at h
  rw [Nat.mul_comm, Nat.mul_comm _ a, Nat.mul_comm _ b]
  exact h
theorem num_set (l : List Nat) : ∀ (p y : Nat) (h : p < l.length), num (l.set p (l[p] ^^^ y)) = num l ^^^ (2 ^ (8 * p) * y) := by
  induction l with
  | nil => intro p y h; simp at h
  | cons x l ih =>
    intro p y h
    cases p with
    | zero =>
      show (x ^^^ y) ^^^ (256 * num l) = (x ^^^ (256 * num l)) ^^^ (2 ^ 0 * y)
      rw [Nat.pow_zero, Nat.one_mul, Nat.xor_assoc, Nat.xor_comm y, ← Nat.xor_assoc]
    | succ p =>
      have hp : p < l.length := by simpa using h
      show x ^^^ (256 * num (l.set p (l[p] ^^^ y))) = (x ^^^ (256 * num l)) ^^^ (2 ^ (8 * (p + 1)) * y)
      rw [ih p y hp, show (256 : Nat) = 2 ^ 8 from rfl, pow_mul_xor, Nat.xor_assoc, show 2 ^ (8 * (p + 1)) * y = 2 ^ 8 * (2 ^ (8 * p) * y) by rw [show 8 * (p + 1) = 8 + 8 * p by omega, Nat.pow_add, Nat.mul_assoc]]
theorem mod_step (x k : Nat) : x % 2 ^ (k + 1) = if x.testBit k = true then x % 2 ^ k ^^^ 2 ^ k else x % 2 ^ k := by
  apply Nat.eq_of_testBit_eq
  intro i
  split
  · rename_i h
    rw [Nat.testBit_xor, Nat.testBit_mod_two_pow, Nat.testBit_mod_two_pow, Nat.testBit_two_pow]
    rcases Nat.lt_trichotomy i k with hi | hi | hi
    · simp [hi, Nat.lt_succ_of_lt hi, Nat.ne_of_gt hi]
    · subst hi; simp [h]
    · simp [Nat.not_lt.2 (Nat.le_of_lt hi), Nat.not_lt.2 hi, Nat.ne_of_lt hi]
  · rename_i h
    rw [Nat.testBit_mod_two_pow, Nat.testBit_mod_two_pow]
    rcases Nat.lt_trichotomy i k with hi | hi | hi
    · simp [hi, Nat.lt_succ_of_lt hi]
    · subst hi; simp [h]
    · simp [Nat.not_lt.2 (Nat.le_of_lt hi), Nat.not_lt.2 hi]
/-- Xored together byte by byte. -/
theorem num_xor3 : ∀ (a b c d : List Nat), b.length = a.length → c.length = a.length → d.length = a.length →
    (∀ i, ∀ (h : i < a.length) (hb : i < b.length) (hc : i < c.length) (hd : i < d.length), d[i] = a[i] ^^^ b[i] ^^^ c[i]) → num d = num a ^^^ num b ^^^ num c := by
  intro a
  induction a with
  | nil =>
    intro b c d hb hc hd _
    simp only [List.length_nil, List.length_eq_zero_iff] at hb hc hd
    subst hb hc hd
    rfl
  | cons x a ih =>
    intro b c d hb hc hd h
    cases b with
    | nil => simp at hb
    | cons y b =>
      cases c with
      | nil => simp at hc
      | cons z c =>
        cases d with
        | nil => simp at hd
        | cons t d =>
          simp only [List.length_cons, Nat.add_right_cancel_iff] at hb hc hd
          have h0 := h 0 (by simp) (by simp) (by simp) (by simp)
          have h1 := ih b c d hb hc hd fun i hi hib hic hid => by
            have := h (i + 1) (by simpa using hi) (by simpa using hib) (by simpa using hic) (by simpa using hid)
            simpa using this
          show t ^^^ (256 * num d) = (x ^^^ (256 * num a)) ^^^ (y ^^^ (256 * num b)) ^^^ (z ^^^ (256 * num c))
          have h0' : t = x ^^^ y ^^^ z := by simpa using h0
          rw [h1, h0', show (256 : Nat) = 2 ^ 8 from rfl, pow_mul_xor, pow_mul_xor]
          generalize 2 ^ 8 * num a = A
          generalize 2 ^ 8 * num b = B
          generalize 2 ^ 8 * num c = C
          have sw : ∀ p q r s : Nat, (p ^^^ q) ^^^ (r ^^^ s) = (p ^^^ r) ^^^ (q ^^^ s) := fun p q r s => by
            rw [Nat.xor_assoc, ← Nat.xor_assoc q r s, Nat.xor_comm q r, Nat.xor_assoc r q s, ← Nat.xor_assoc]
          rw [sw x A y B, sw (x ^^^ y) (A ^^^ B) z C]
end Go.Proofs.Ytoimpjmoikjibaa.Crc
namespace Go.Proofs.Ytoimpjmoikjibaa.Pure
open Go.RowKit Go.Proofs.Ytoimpjmoikjibaa.Crc Go.Proofs.YtoimpjmoikjibaaW.PrintWords Go.Proofs.YtoimpjmoikjibaaW.PrintLast Go.Proofs.YtoimpjmoikjibaaW.PrintMore
set_option linter.unusedVariables false
set_option linter.unusedSimpArgs false
/-- A list of bytes. -/
def B (l : List Int) : Prop := ∀ x ∈ l, 0 ≤ x ∧ x < 256
def nt (l : List Int) : List Nat := l.map Int.toNat
theorem B_nil : B [] := fun x h => by simp at h
theorem B_append {a b : List Int} (ha : B a) (hb : B b) : B (a ++ b) := fun x h => by
  rcases List.mem_append.1 h with h | h
  · exact ha x h
  · exact hb x h
theorem B_cons {x : Int} {l : List Int} (hx : 0 ≤ x ∧ x < 256) (hl : B l) : B (x :: l) := fun y h => by
  rcases List.mem_cons.1 h with rfl | h
  · exact hx
  · exact hl y h
theorem B_take {l : List Int} (h : B l) (n : Nat) : B (l.take n) := fun x hx => h x (List.mem_of_mem_take hx)
theorem B_drop {l : List Int} (h : B l) (n : Nat) : B (l.drop n) := fun x hx => h x (List.mem_of_mem_drop hx)
theorem B_wf {l : List Int} (h : ∀ x ∈ l, (Lit.int .u8 x).wf = true) : B l := fun x hx => by
  have := h x hx
  simp only [Lit.wf, decide_eq_true_eq, Bool.and_eq_true] at this
  rw [show IntKind.u8.min = 0 from rfl, show IntKind.u8.max = 255 from rfl] at this
  omega
theorem nt_lt {l : List Int} (h : B l) : ∀ x ∈ nt l, x < 256 := fun x hx => by
  obtain ⟨y, hy, rfl⟩ := List.mem_map.1 hx
  have := h y hy
  omega
theorem sum_lt (s : Nat) (hs : s < 4294967296) {l : List Int} (hl : B l) : reg (s ^^^ full) (nt l) ^^^ full < 4294967296 :=
  Nat.xor_lt_two_pow (n := 32) (reg_lt _ (Nat.xor_lt_two_pow (n := 32) hs (by decide)) (nt_lt hl)) (by decide)
theorem rd_at {l : List Int} {i : Nat} (h : i < l.length) : rd l (i : Int) = l[i] := by
  unfold rd
  rw [Int.toNat_natCast, List.getD_eq_getElem?_getD, List.getElem?_eq_getElem h]
  rfl
theorem bit_step (c : Nat) (hc : c < 4294967296) :
    Go.bits .xor .u32 ((c : Int) / 2) (Go.bits .and .u32 2197175160 ((-(Go.bits .and .u32 (c : Int) 1)) % 4294967296)) = ((Crc.S c : Nat) : Int) := by
  have h1 : Go.bits .and .u32 (c : Int) 1 = ((c % 2 : Nat) : Int) := by
    have := u32_and_nat c 1 hc (by decide)
    rw [Nat.and_one_is_mod] at this
    exact this
  rw [h1]
  have h2 : ((c : Int) / 2) = ((c / 2 : Nat) : Int) := by omega
  rw [h2]
  rcases Nat.mod_two_eq_zero_or_one c with e | e
  · rw [e, show (-((0 : Nat) : Int)) % 4294967296 = ((0 : Nat) : Int) from rfl]
    have h3 : Go.bits .and .u32 2197175160 ((0 : Nat) : Int) = ((0 : Nat) : Int) := by
      have := u32_and_nat 2197175160 0 (by decide) (by decide)
      rwa [Nat.and_zero] at this
    rw [h3, u32_xor_nat _ _ (by omega) (by decide), Nat.xor_zero]
    unfold Crc.S
    rw [if_neg (by omega)]
  · rw [e, show (-((1 : Nat) : Int)) % 4294967296 = ((4294967295 : Nat) : Int) from rfl]
    have h3 : Go.bits .and .u32 2197175160 ((4294967295 : Nat) : Int) = ((2197175160 : Nat) : Int) := by
      have := u32_and_nat 2197175160 4294967295 (by decide) (by decide)
      rwa [show (2197175160 &&& 4294967295 : Nat) = 2197175160 by decide] at this
    rw [h3, u32_xor_nat _ _ (by omega) (by decide)]
    unfold Crc.S
    rw [if_pos e]
theorem nt_append (a b : List Int) : nt (a ++ b) = nt a ++ nt b := by simp [nt]
theorem xff (x : Nat) : x ^^^ full ^^^ full = x := by rw [Nat.xor_assoc, Nat.xor_self, Nat.xor_zero]
theorem and1_i64 (a : Nat) (h : a < 2 ^ 62) : Go.bits .and .i64 (a : Int) 1 = ((a % 2 : Nat) : Int) := by
  have := (bits_nat .i64 62 (by decide) (fun n h0 h1 => by rw [IntKind.wrap_i64]; omega) a 1 h (by decide)).1
  rw [Nat.and_one_is_mod] at this
  exact this
theorem xor_i64 (a b : Nat) (ha : a < 2 ^ 62) (hb : b < 2 ^ 62) : Go.bits .xor .i64 (a : Int) (b : Int) = ((a ^^^ b : Nat) : Int) := by
  have hp : (2 : Nat) ^ 62 ≤ 2 ^ IntKind.i64.bits := by decide
  have ha' : a % 2 ^ IntKind.i64.bits = a := Nat.mod_eq_of_lt (Nat.lt_of_lt_of_le ha hp)
  have hb' : b % 2 ^ IntKind.i64.bits = b := Nat.mod_eq_of_lt (Nat.lt_of_lt_of_le hb hp)
  simp only [bits, BitVec.ofInt_natCast, BitVec.toNat_xor, BitVec.toNat_ofNat, ha', hb']
  have hx := Nat.xor_lt_two_pow ha hb
  rw [IntKind.wrap_i64]
  have : (2 : Nat) ^ 62 = 4611686018427387904 := by decide
  omega
theorem nt_set (l : List Int) (p : Nat) (v : Nat) : nt (l.set p (v : Int)) = (nt l).set p v := by simp [nt, List.map_set]
theorem nt_length (l : List Int) : (nt l).length = l.length := by simp [nt]
theorem nt_at {l : List Int} {p : Nat} (h : p < l.length) : (nt l)[p]'(by rw [nt_length]; exact h) = (l[p]).toNat := by simp [nt]
theorem B_set {l : List Int} (h : B l) (p : Nat) {v : Int} (hv : 0 ≤ v ∧ v < 256) : B (l.set p v) := fun x hx => by
  rcases List.mem_or_eq_of_mem_set hx with h' | h'
  · exact h x h'
  · rw [h']; exact hv
def four (n : Nat) : List Int := [((n % 256 : Nat) : Int), ((n / 256 % 256 : Nat) : Int), ((n / 65536 % 256 : Nat) : Int), ((n / 16777216 % 256 : Nat) : Int)]
theorem four_B (n : Nat) : B (four n) := B_cons (by omega) (B_cons (by omega) (B_cons (by omega) (B_cons (by omega) B_nil)))
theorem four_len (n : Nat) : (four n).length = 4 := rfl
/-- The number that the first four bytes are. -/
def num4 (l : List Int) : Nat := (l.getD 0 0).toNat + 256 * (l.getD 1 0).toNat + 65536 * (l.getD 2 0).toNat + 16777216 * (l.getD 3 0).toNat
theorem num4_four (n : Nat) (h : n < 4294967296) (r : List Int) : num4 (four n ++ r) = n := by
  unfold num4 four
  simp
  omega
theorem B_getD {l : List Int} (h : B l) (i : Nat) : 0 ≤ l.getD i 0 ∧ l.getD i 0 < 256 := by
  rw [List.getD_eq_getElem?_getD]
  by_cases hi : i < l.length
  · rw [List.getElem?_eq_getElem hi]; exact h _ (List.getElem_mem hi)
  · rw [List.getElem?_eq_none (by omega)]; decide
theorem num4_lt {l : List Int} (h : B l) : num4 l < 4294967296 := by
  have h0 := B_getD h 0
  have h1 := B_getD h 1
  have h2 := B_getD h 2
  have h3 := B_getD h 3
  unfold num4
  omega
theorem four_num4 {l : List Int} (h : B l) (hn : 4 ≤ l.length) : four (num4 l) = l.take 4 := by
  match l, hn with
  | a :: b :: c :: d :: r, _ =>
    have h0 := h a (by simp)
    have h1 := h b (by simp)
    have h2 := h c (by simp)
    have h3 := h d (by simp)
    unfold num4 four
    simp
    omega
theorem four_inj {a b : Nat} (ha : a < 4294967296) (hb : b < 4294967296) (h : four a = four b) : a = b := by
  have h1 := num4_four a ha []
  have h2 := num4_four b hb []
  rw [h] at h1
  omega
theorem or_i64 (a b : Nat) (ha : a < 2 ^ 62) (hb : b < 2 ^ 62) : Go.bits .or .i64 (a : Int) (b : Int) = ((a ||| b : Nat) : Int) :=
  (bits_nat .i64 62 (by decide) (fun n h0 h1 => by rw [IntKind.wrap_i64]; omega) a b ha hb).2
theorem nat_or_add (i x y : Nat) (hx : x < 2 ^ i) : x ||| (y * 2 ^ i) = x + y * 2 ^ i := by
  rw [Nat.or_comm, Nat.add_comm]
  exact nat_join i (y * 2 ^ i) x (Nat.mul_mod_left _ _) hx
/-- A payload's frame. -/
def frame (p : List Int) : List Int := four p.length ++ (p ++ four (crc (nt (four p.length ++ p))))
theorem frame_len (p : List Int) : (frame p).length = p.length + 8 := by
  unfold frame
  simp [four_len]
  omega
theorem frame_B {p : List Int} (h : B p) : B (frame p) := B_append (four_B _) (B_append h (four_B _))
/-- What a frame is read as. -/
def opened (l : List Int) : List Int × Int × Int :=
  if l.length < 4 then ([], 0, 13) else
  if num4 l > 65536 then ([], 0, 11) else
  if l.length < num4 l + 8 then ([], 0, 13) else
  if crc (nt (l.take (num4 l + 4))) = num4 (l.drop (num4 l + 4)) then ((l.take (num4 l + 4)).drop 4, ((num4 l + 8 : Nat) : Int), 0) else ([], 0, 12)
theorem opened_frame (p r : List Int) (h : B p) (hn : p.length ≤ 65536) : opened (frame p ++ r) = (p, ((p.length + 8 : Nat) : Int), 0) := by
  have e : frame p ++ r = four p.length ++ (p ++ (four (crc (nt (four p.length ++ p))) ++ r)) := by
    unfold frame
    simp only [List.append_assoc]
  have hl : (frame p ++ r).length = p.length + 8 + r.length := by rw [List.length_append, frame_len]
  have h4 : num4 (frame p ++ r) = p.length := by
    rw [e]
    exact num4_four _ (by omega) _
  have ht : (frame p ++ r).take (p.length + 4) = four p.length ++ p := by
    rw [e, ← List.append_assoc, List.take_left' (by simp [four_len]; omega)]
  have hd : (frame p ++ r).drop (p.length + 4) = four (crc (nt (four p.length ++ p))) ++ r := by
    rw [e, ← List.append_assoc, List.drop_left' (by simp [four_len]; omega)]
  unfold opened
  rw [hl, h4, if_neg (by omega), if_neg (by omega), if_neg (by omega), ht, hd, num4_four _ (crc_lt (nt_lt (B_append (four_B _) h))), if_pos rfl, List.drop_left' (by rfl)]
theorem frame_eq {l : List Int} (h : B l) (hn : num4 l + 8 ≤ l.length) : frame ((l.take (num4 l + 4)).drop 4) = l.take (num4 l + 8) ↔ crc (nt (l.take (num4 l + 4))) = num4 (l.drop (num4 l + 4)) := by
  have hlen : ((l.take (num4 l + 4)).drop 4).length = num4 l := by rw [List.length_drop, List.length_take]; omega
  have e1 : four (num4 l) ++ (l.take (num4 l + 4)).drop 4 = l.take (num4 l + 4) := by
    rw [four_num4 h (by omega)]
    have := List.take_append_drop 4 (l.take (num4 l + 4))
    rwa [List.take_take, Nat.min_eq_left (by omega)] at this
  have e2 : l.take (num4 l + 8) = l.take (num4 l + 4) ++ (l.drop (num4 l + 4)).take 4 := by
    rw [show num4 l + 8 = (num4 l + 4) + 4 by omega, List.take_add]
  unfold frame
  rw [hlen, ← List.append_assoc, e1, e2, List.append_cancel_left_eq, ← four_num4 (B_drop h _) (by rw [List.length_drop]; omega)]
  exact ⟨fun e => four_inj (crc_lt (nt_lt (B_take h _))) (num4_lt (B_drop h _)) e, fun e => by rw [e]⟩
theorem num4_take {l : List Int} (n : Nat) (hn : 4 ≤ n) : num4 (l.take n) = num4 l := by
  unfold num4
  simp only [List.getD_eq_getElem?_getD, List.getElem?_take]
  rw [if_pos (by omega), if_pos (by omega), if_pos (by omega), if_pos (by omega)]
theorem opened_B {l : List Int} (h : B l) : B (opened l).1 := by
  unfold opened
  split
  · exact B_nil
  split
  · exact B_nil
  split
  · exact B_nil
  split
  · exact B_drop (B_take h _) _
  · exact B_nil
theorem opened_len (l : List Int) : (opened l).1.length ≤ l.length := by
  unfold opened
  split
  · simp
  split
  · simp
  split
  · simp
  split
  · simp; omega
  · simp
theorem opened_size (l : List Int) (h : (opened l).2.2 = 0) : ∃ n : Nat, (opened l).2.1 = (n : Int) ∧ 8 ≤ n ∧ n ≤ l.length := by
  unfold opened at h ⊢
  split at h
  · cases h
  split at h
  · cases h
  split at h
  · cases h
  split at h
  · rename_i c1 c2 c3 c4
    rw [if_neg c1, if_neg c2, if_neg c3, if_pos c4]
    exact ⟨_, rfl, by omega, by omega⟩
  · cases h
theorem opened_nil : opened [] = ([], 0, 13) := rfl
end Go.Proofs.Ytoimpjmoikjibaa.Pure
namespace Go.Proofs.Ytoimpjmoikjibaa.Pure
open Go.RowKit Go.Proofs.Ytoimpjmoikjibaa.P Go.Proofs.Ytoimpjmoikjibaa.Crc Go.Proofs.YtoimpjmoikjibaaW.PrintWords Go.Proofs.YtoimpjmoikjibaaW.PrintLast Go.Proofs.YtoimpjmoikjibaaW.PrintMore
set_option linter.unusedVariables false
set_option linter.unusedSimpArgs false
theorem More_bits (l : List Int) (n i r : Int) (j : Nat) : ∀ (c : Nat), c < 4294967296 → j ≤ 8 →
    Ev (fun k => sum_More.l0 k ((it j c : Nat) : Int) l n (wrap64 (i + 1))) r → Ev (fun k => sum_More.l1 k (c : Int) l n i (8 - (j : Int))) r := by
  induction j with
  | zero =>
    intro c hc _ h
    refine Ev.step (fun k => ?_) h
    rw [sum_More.l1, if_neg (by omega)]
    rfl
  | succ j ih =>
    intro c hc hj h
    refine Ev.step (f := fun k => sum_More.l1 k ((Crc.S c : Nat) : Int) l n i (8 - (j : Int))) (fun k => ?_) (ih (Crc.S c) (Crc.S_lt hc) (by omega) h)
    rw [sum_More.l1, if_pos (by omega), bit_step c hc]
    rw [show wrap64 (8 - ((j + 1 : Nat) : Int) + 1) = 8 - (j : Int) by unfold wrap64; omega]
theorem More_loop (l : List Int) (hl : B l) (hn : l.length ≤ 140737488355328) (d : Nat) : ∀ (c i : Nat), c < 4294967296 → i + d = l.length →
    Ev (fun k => sum_More.l0 k (c : Int) l (l.length : Int) (i : Int)) ((reg c (nt (l.drop i)) ^^^ full : Nat) : Int) := by
  induction d with
  | zero =>
    intro c i hc hi
    refine Ev.step (f := fun _ => some _) (fun k => ?_) (Ev.now _)
    rw [sum_More.l0, if_neg (by omega), List.drop_of_length_le (by omega)]
    have h := u32_xor_nat c 4294967295 hc (by decide)
    have hlt := Nat.xor_lt_two_pow (n := 32) hc (show full < 4294967296 by decide)
    rw [show ((4294967295 : Nat) : Int) = 4294967295 from rfl] at h
    rw [h, w64 (by omega) (by have : (2 : Nat) ^ 32 = 4294967296 := by decide
                              show (((c ^^^ full : Nat)) : Int) < _
                              omega)]
    rfl
  | succ d ih =>
    intro c i hc hi
    have hlt : i < l.length := by omega
    have hx := hl l[i] (List.getElem_mem hlt)
    have hxr : Go.bits .xor .u32 (c : Int) ((rd l (i : Int)) % 4294967296) = ((c ^^^ (l[i]).toNat : Nat) : Int) := by
      rw [rd_at hlt, show l[i] % 4294967296 = (((l[i]).toNat : Nat) : Int) by omega]
      exact u32_xor_nat _ _ hc (by omega)
    have hc' : c ^^^ (l[i]).toNat < 4294967296 := Nat.xor_lt_two_pow (n := 32) hc (by omega)
    have h := More_bits l (l.length : Int) (i : Int) _ 8 _ hc' (Nat.le_refl _) (by
      rw [show wrap64 ((i : Int) + 1) = ((i + 1 : Nat) : Int) by unfold wrap64; omega]
      exact ih _ (i + 1) (it_lt 8 hc') (by omega))
    refine Ev.step (f := fun k => sum_More.l1 k ((c ^^^ (l[i]).toNat : Nat) : Int) l (l.length : Int) (i : Int) 0) (fun k => ?_) ?_
    · rw [sum_More.l0, if_pos (by omega), if_pos (by omega), if_pos (by omega), hxr]
    · rw [List.drop_eq_getElem_cons hlt]
      exact h
/-- Going on from a sum. -/
theorem More_ev (s : Nat) (hs : s < 4294967296) (l : List Int) (hl : B l) (hn : l.length ≤ 140737488355328) :
    Ev (fun k => sum_More.f k (s : Int) l) ((reg (s ^^^ full) (nt l) ^^^ full : Nat) : Int) := by
  have h := More_loop l hl hn l.length (s ^^^ full) 0 (Nat.xor_lt_two_pow (n := 32) hs (by decide)) (by omega)
  rw [List.drop_zero] at h
  refine Ev.congr (fun k => ?_) h
  unfold sum_More.f
  rw [show (s : Int) % 4294967296 = (s : Int) by omega, show (4294967295 : Int) = ((4294967295 : Nat) : Int) from rfl, u32_xor_nat s 4294967295 hs (by decide)]
  rfl
theorem Of_loop (ls : List (List Int)) (hl : ∀ l ∈ ls, B l) (hn : ∀ l ∈ ls, l.length ≤ 140737488355328) (hm : ls.length ≤ 140737488355328) (d : Nat) : ∀ (s i : Nat), s < 4294967296 → i + d = ls.length →
    Ev (fun k => sum_Of.l0 k (s : Int) ls (ls.length : Int) (i : Int)) ((reg (s ^^^ full) (nt (ls.drop i).flatten) ^^^ full : Nat) : Int) := by
  induction d with
  | zero =>
    intro s i hs hi
    refine Ev.step (f := fun _ => some _) (fun k => ?_) (Ev.now _)
    rw [sum_Of.l0, if_neg (by omega), List.drop_of_length_le (by omega)]
    show some (s : Int) = some (((s ^^^ full ^^^ full : Nat)) : Int)
    rw [xff]
  | succ d ih =>
    intro s i hs hi
    have hlt : i < ls.length := by omega
    have hr : rd_L1 ls (i : Int) = ls[i] := by
      unfold rd_L1
      rw [Int.toNat_natCast, List.getD_eq_getElem?_getD, List.getElem?_eq_getElem hlt]
      rfl
    have hB := hl ls[i] (List.getElem_mem hlt)
    have h1 := More_ev s hs ls[i] hB (hn _ (List.getElem_mem hlt))
    have h2 := ih (reg (s ^^^ full) (nt ls[i]) ^^^ full) (i + 1) (sum_lt s hs hB) (by omega)
    refine Ev.step (f := fun k => (sum_More.f k (s : Int) ls[i]).bind fun t => sum_Of.l0 k t ls (ls.length : Int) ((i + 1 : Nat) : Int)) (fun k => ?_) ?_
    · rw [sum_Of.l0, if_pos (by omega), if_pos (by omega), if_pos (by omega), hr, show wrap64 ((i : Int) + 1) = ((i + 1 : Nat) : Int) by unfold wrap64; omega]
    · rw [List.drop_eq_getElem_cons hlt, List.flatten_cons, nt_append, reg_append]
      rw [xff] at h2
      exact Ev.bind h1 h2
/-- The sum of all parts. -/
theorem Of_ev (ls : List (List Int)) (hl : ∀ l ∈ ls, B l) (hn : ∀ l ∈ ls, l.length ≤ 140737488355328) (hm : ls.length ≤ 140737488355328) :
    Ev (fun k => sum_Of.f k ls) ((crc (nt ls.flatten) : Nat) : Int) := by
  have h := Of_loop ls hl hn hm ls.length 0 0 (by decide) (by omega)
  rw [List.drop_zero, Nat.zero_xor] at h
  exact h
theorem Of1_ev (l : List Int) (hl : B l) (hn : l.length ≤ 140737488355328) : Ev (fun k => sum_Of.f k [l]) ((crc (nt l) : Nat) : Int) := by
  have h := Of_ev [l] (by simp [hl]) (by simp [hn]) (by simp)
  rwa [List.flatten_singleton] at h
theorem four_f (n : Nat) : sum_four.f (n : Int) = some (four n) := by
  unfold sum_four.f four
  simp only [Option.some.injEq, List.cons.injEq, and_true]
  omega
theorem number_f {l : List Int} (h : B l) (hn : 4 ≤ l.length) : sum_number.f l = some ((num4 l : Nat) : Int) := by
  have g : ∀ i : Nat, rd l (i : Int) = (((l.getD i 0).toNat : Nat) : Int) := fun i => by
    have := B_getD h i
    unfold rd
    rw [Int.toNat_natCast]
    omega
  have h0 := B_getD h 0
  have h1 := B_getD h 1
  have h2 := B_getD h 2
  have h3 := B_getD h 3
  unfold sum_number.f
  rw [if_pos (by omega), if_pos (by omega), if_pos (by omega), if_pos (by omega)]
  have g0 : rd l 0 = _ := g 0
  have g1 : rd l 1 = _ := g 1
  have g2 : rd l 2 = _ := g 2
  have g3 : rd l 3 = _ := g 3
  rw [g0, g1, g2, g3]
  unfold num4
  generalize l.getD 0 0 = a at h0 ⊢
  generalize l.getD 1 0 = b at h1 ⊢
  generalize l.getD 2 0 = c at h2 ⊢
  generalize l.getD 3 0 = d at h3 ⊢
  obtain ⟨a, rfl⟩ := Int.eq_ofNat_of_zero_le h0.1
  obtain ⟨b, rfl⟩ := Int.eq_ofNat_of_zero_le h1.1
  obtain ⟨c, rfl⟩ := Int.eq_ofNat_of_zero_le h2.1
  obtain ⟨d, rfl⟩ := Int.eq_ofNat_of_zero_le h3.1
  simp only [Int.toNat_natCast]
  have w : ∀ x : Nat, x < 4294967296 → wrap64 (x : Int) = (x : Int) := fun x hx => w64 (by omega) (by omega)
  rw [w a (by omega), w b (by omega), w c (by omega), w d (by omega)]
  rw [show (b : Int) * 256 = ((b * 2 ^ 8 : Nat) : Int) by omega, show (c : Int) * 65536 = ((c * 2 ^ 16 : Nat) : Int) by omega, show (d : Int) * 16777216 = ((d * 2 ^ 24 : Nat) : Int) by omega]
  rw [w _ (by omega), w _ (by omega), w _ (by omega), or_i64 _ _ (by omega) (by omega), nat_or_add 8 a b (by omega), or_i64 _ _ (by omega) (by omega), nat_or_add 16 _ c (by omega), or_i64 _ _ (by omega) (by omega), nat_or_add 24 _ d (by omega)]
  congr 1
  omega
theorem rdL {ls : List (List Int)} {i : Nat} (h : i < ls.length) : rd_L1 ls (i : Int) = ls[i] := by
  unfold rd_L1
  rw [Int.toNat_natCast, List.getD_eq_getElem?_getD, List.getElem?_eq_getElem h]
  rfl
theorem concat_put (ls : List (List Int)) (hm : ls.length ≤ 1000) (hs : ls.flatten.length ≤ 140737488355000) (d : Nat) : ∀ i : Nat, i + d = ls.length →
    Ev (fun k => slices_Concat_byte_byte.l1 k (ls.take i).flatten ls (ls.length : Int) (i : Int)) ls.flatten := by
  induction d with
  | zero =>
    intro i hi
    obtain rfl : i = ls.length := by omega
    rw [List.take_length]
    exact Ev.step (f := fun _ => some _) (fun k => by rw [slices_Concat_byte_byte.l1, if_neg (by omega)]) (Ev.now _)
  | succ d ih =>
    intro i hi
    have hlt : i < ls.length := by omega
    have e : (ls.take (i + 1)).flatten = (ls.take i).flatten ++ ls[i] := by
      rw [List.take_succ_eq_append_getElem hlt, List.flatten_append, List.flatten_singleton]
    have hle : (ls.take (i + 1)).flatten.length ≤ ls.flatten.length := by
      conv => rhs; rw [← List.take_append_drop (i + 1) ls, List.flatten_append, List.length_append]
      omega
    rw [e, List.length_append] at hle
    have h := ih (i + 1) (by omega)
    rw [e] at h
    refine Ev.step (fun k => ?_) h
    rw [slices_Concat_byte_byte.l1, if_pos (by omega), if_pos (by omega), if_pos (by omega), rdL hlt, if_pos (by omega), show wrap64 ((i : Int) + 1) = ((i + 1 : Nat) : Int) by unfold wrap64; omega]
theorem concat_sum (ls : List (List Int)) (hm : ls.length ≤ 1000) (hs : ls.flatten.length ≤ 140737488355000) (d : Nat) : ∀ i : Nat, i + d = ls.length →
    Ev (fun k => slices_Concat_byte_byte.l0 k ls (((ls.take i).flatten.length : Nat) : Int) ls (ls.length : Int) (i : Int)) ls.flatten := by
  induction d with
  | zero =>
    intro i hi
    obtain rfl : i = ls.length := by omega
    rw [List.take_length]
    have h := concat_put ls hm hs ls.length 0 (by omega)
    rw [List.take_zero] at h
    refine Ev.step (f := fun k => slices_Concat_byte_byte.l1 k [] ls (ls.length : Int) 0) (fun k => ?_) h
    have hg : Grow_f ((ls.flatten.length : Nat) : Int) = some [] := by
      unfold Grow_f
      rw [if_pos (by omega)]
    rw [slices_Concat_byte_byte.l0, if_neg (by omega), hg]
    rfl
  | succ d ih =>
    intro i hi
    have hlt : i < ls.length := by omega
    have e : (ls.take (i + 1)).flatten = (ls.take i).flatten ++ ls[i] := by
      rw [List.take_succ_eq_append_getElem hlt, List.flatten_append, List.flatten_singleton]
    have hle : (ls.take (i + 1)).flatten.length ≤ ls.flatten.length := by
      conv => rhs; rw [← List.take_append_drop (i + 1) ls, List.flatten_append, List.length_append]
      omega
    rw [e, List.length_append] at hle
    have h := ih (i + 1) (by omega)
    rw [e, List.length_append] at h
    have hw : wrap64 ((((ls.take i).flatten.length : Nat) : Int) + ((ls[i]).length : Int)) = (((ls.take i).flatten.length + (ls[i]).length : Nat) : Int) := by unfold wrap64; omega
    refine Ev.step (fun k => ?_) h
    rw [slices_Concat_byte_byte.l0, if_pos (by omega), if_pos (by omega), if_pos (by omega), rdL hlt, hw, if_neg (by omega), show wrap64 ((i : Int) + 1) = ((i + 1 : Nat) : Int) by unfold wrap64; omega]
theorem concat_ev (ls : List (List Int)) (hm : ls.length ≤ 1000) (hs : ls.flatten.length ≤ 140737488355000) : Ev (fun k => slices_Concat_byte_byte.f k ls) ls.flatten := by
  have h := concat_sum ls hm hs ls.length 0 (by omega)
  exact h
theorem Frame_ev (p : List Int) (h : B p) (hn : p.length ≤ 65536) : Ev (fun k => sum_Frame.f k p) (frame p, 0) := by
  unfold sum_Frame.f
  refine Ev_neg (by omega) ?_
  rw [four_f]
  refine Ev.bind (Ev.now _) ?_
  have h1 := Of_ev [four p.length, p] (by simp [four_B, h]) (by simp [four_len]; omega) (by simp)
  simp only [List.flatten_cons, List.flatten_nil, List.append_nil] at h1
  refine Ev.bind h1 ?_
  simp only [four_f]
  refine Ev.bind (Ev.now _) ?_
  have h2 := concat_ev [four p.length, p, four (crc (nt (four p.length ++ p)))] (by simp) (by simp [four_len]; omega)
  simp only [List.flatten_cons, List.flatten_nil, List.append_nil] at h2
  exact Ev.bind h2 (Ev.now _)
theorem Same_loop (a b : List Int) (hl : a.length = b.length) (hm : a.length ≤ 140737488355328) (d : Nat) : ∀ i : Nat, i + d = a.length → (∀ j, j < i → a.getD j 0 = b.getD j 0) →
    Ev (fun k => slipwayref11_Same.l0 k a b (i : Int)) (decide (a = b)) := by
  induction d with
  | zero =>
    intro i hi hj
    have e : a = b := by
      apply List.ext_getElem hl
      intro j h1 h2
      have := hj j (by omega)
      rwa [List.getD_eq_getElem?_getD, List.getD_eq_getElem?_getD, List.getElem?_eq_getElem h1, List.getElem?_eq_getElem h2] at this
    rw [decide_eq_true e]
    exact Ev.step (f := fun _ => some _) (fun k => by rw [slipwayref11_Same.l0, if_neg (by omega)]) (Ev.now _)
  | succ d ih =>
    intro i hi hj
    have h1 : i < a.length := by omega
    have h2 : i < b.length := by omega
    by_cases c : a[i] = b[i]
    · refine Ev.step (fun k => ?_) (ih (i + 1) (by omega) fun j hj' => ?_)
      · rw [slipwayref11_Same.l0, if_pos (by omega), if_pos (by omega), if_pos (by omega), rd_at h1, rd_at h2, if_pos c, show wrap64 ((i : Int) + 1) = ((i + 1 : Nat) : Int) by unfold wrap64; omega]
      · rcases Nat.lt_or_ge j i with h | h
        · exact hj j h
        · obtain rfl : j = i := by omega
          rw [List.getD_eq_getElem?_getD, List.getD_eq_getElem?_getD, List.getElem?_eq_getElem h1, List.getElem?_eq_getElem h2]
          exact c
    · have e : ¬ a = b := fun e => c (by subst e; rfl)
      rw [decide_eq_false e]
      exact Ev.step (f := fun _ => some _) (fun k => by rw [slipwayref11_Same.l0, if_pos (by omega), if_pos (by omega), if_pos (by omega), rd_at h1, rd_at h2, if_neg c]) (Ev.now _)
theorem Same_ev (a b : List Int) (hm : a.length ≤ 140737488355328) : Ev (fun k => slipwayref11_Same.f k a b) (decide (a = b)) := by
  unfold slipwayref11_Same.f
  by_cases h : a.length = b.length
  · exact Ev_pos (by omega) (Same_loop a b h hm a.length 0 (by omega) (fun j hj => by omega))
  · rw [decide_eq_false (fun e => h (by rw [e]))]
    exact Ev_neg (by omega) (Ev.now _)
theorem Same_self (a : List Int) (hm : a.length ≤ 140737488355328) : Ev (fun k => slipwayref11_Same.f k a a) true := by
  have h := Same_ev a a hm
  rwa [decide_eq_true rfl] at h
theorem Open_ev (l : List Int) (h : B l) (hm : l.length ≤ 140737488355000) : Ev (fun k => sum_Open.f k l) (opened l) := by
  unfold sum_Open.f opened
  by_cases c1 : l.length < 4
  · rw [if_pos c1]; exact Ev_pos (by omega) (Ev.now _)
  rw [if_neg c1]
  refine Ev_neg (by omega) ?_
  rw [number_f h (by omega)]
  refine Ev.bind (Ev.now _) ?_
  by_cases c2 : num4 l > 65536
  · rw [if_pos c2]; exact Ev_pos (by omega) (Ev.now _)
  rw [if_neg c2]
  refine Ev_neg (by omega) ?_
  have w8 : wrap64 (((num4 l : Nat) : Int) + 8) = ((num4 l + 8 : Nat) : Int) := by unfold wrap64; omega
  have w4 : wrap64 (((num4 l : Nat) : Int) + 4) = ((num4 l + 4 : Nat) : Int) := by unfold wrap64; omega
  simp only [w8, w4, Int.toNat_natCast]
  by_cases c3 : l.length < num4 l + 8
  · rw [if_pos c3]; exact Ev_pos (by omega) (Ev.now _)
  rw [if_neg c3]
  refine Ev_neg (by omega) (Ev_pos (by omega) (Ev_pos (by omega) ?_))
  refine Ev.bind (Of1_ev _ (B_take h _) (by rw [List.length_take]; omega)) ?_
  rw [number_f (B_drop h _) (by rw [List.length_drop]; omega)]
  refine Ev.bind (Ev.now _) ?_
  by_cases c4 : crc (nt (l.take (num4 l + 4))) = num4 (l.drop (num4 l + 4))
  · rw [if_pos c4]
    refine Ev_pos (by omega) (Ev_pos (by omega) ?_)
    unfold slices_Clone_byte_byte.f
    rw [if_pos (by rw [List.length_drop, List.length_take]; omega)]
    exact Ev.bind (Ev.now _) (Ev.now _)
  · rw [if_neg c4]
    exact Ev_neg (by omega) (Ev.now _)
theorem ref_odd (c : Nat) (hc : c < 4294967296) : Int.tmod (c : Int) 2 = ((c % 2 : Nat) : Int) ∧ wrap64 (Int.tdiv (c : Int) 2) = ((c / 2 : Nat) : Int) := by
  rw [Int.tmod_eq_emod_of_nonneg (by omega), Int.tdiv_eq_ediv_of_nonneg (by omega)]
  exact ⟨by omega, by unfold wrap64; omega⟩
theorem ref_bits (l : List Int) (i r : Int) (j : Nat) : ∀ (c : Nat), c < 4294967296 → j ≤ 8 →
    Ev (fun k => slipwayref11_Of.l0 k l ((it j c : Nat) : Int) (wrap64 (i + 1))) r → Ev (fun k => slipwayref11_Of.l1 k l (c : Int) i (8 - (j : Int))) r := by
  induction j with
  | zero =>
    intro c hc _ h
    refine Ev.step (fun k => ?_) h
    rw [slipwayref11_Of.l1, if_neg (by omega)]
    rfl
  | succ j ih =>
    intro c hc hj h
    obtain ⟨h1, h2⟩ := ref_odd c hc
    refine Ev.step (f := fun k => slipwayref11_Of.l1 k l ((Crc.S c : Nat) : Int) i (8 - (j : Int))) (fun k => ?_) (ih (Crc.S c) (Crc.S_lt hc) (by omega) h)
    rw [slipwayref11_Of.l1, if_pos (by omega), h1, h2, show wrap64 (8 - ((j + 1 : Nat) : Int) + 1) = 8 - (j : Int) by unfold wrap64; omega]
    unfold Crc.S
    rcases Nat.mod_two_eq_zero_or_one c with e | e
    · rw [e, if_neg (by decide), if_neg (by decide)]
    · rw [e, if_pos (by rfl), if_pos (by rfl), show (2197175160 : Int) = ((2197175160 : Nat) : Int) from rfl, xor_i64 _ _ (by omega) (by decide)]
theorem ref_loop (l : List Int) (hl : B l) (hn : l.length ≤ 140737488355328) (d : Nat) : ∀ (c i : Nat), c < 4294967296 → i + d = l.length →
    Ev (fun k => slipwayref11_Of.l0 k l (c : Int) (i : Int)) ((reg c (nt (l.drop i)) ^^^ full : Nat) : Int) := by
  induction d with
  | zero =>
    intro c i hc hi
    refine Ev.step (f := fun _ => some _) (fun k => ?_) (Ev.now _)
    rw [slipwayref11_Of.l0, if_neg (by omega), List.drop_of_length_le (by omega), show (4294967295 : Int) = ((4294967295 : Nat) : Int) from rfl, xor_i64 _ _ (by omega) (by decide)]
    rfl
  | succ d ih =>
    intro c i hc hi
    have hlt : i < l.length := by omega
    have hx := hl l[i] (List.getElem_mem hlt)
    have hxr : Go.bits .xor .i64 (c : Int) (wrap64 (rd l (i : Int))) = ((c ^^^ (l[i]).toNat : Nat) : Int) := by
      rw [rd_at hlt, w64 (by omega) (by omega), show l[i] = (((l[i]).toNat : Nat) : Int) by omega]
      exact xor_i64 _ _ (by omega) (by omega)
    have hc' : c ^^^ (l[i]).toNat < 4294967296 := Nat.xor_lt_two_pow (n := 32) hc (by omega)
    have h := ref_bits l (i : Int) _ 8 _ hc' (Nat.le_refl _) (by
      rw [show wrap64 ((i : Int) + 1) = ((i + 1 : Nat) : Int) by unfold wrap64; omega]
      exact ih _ (i + 1) (it_lt 8 hc') (by omega))
    refine Ev.step (f := fun k => slipwayref11_Of.l1 k l ((c ^^^ (l[i]).toNat : Nat) : Int) (i : Int) 0) (fun k => ?_) ?_
    · rw [slipwayref11_Of.l0, if_pos (by omega), if_pos (by omega), hxr]
    · rw [List.drop_eq_getElem_cons hlt]
      exact h
/-- The document's sum. -/
theorem ref_ev (l : List Int) (hl : B l) (hn : l.length ≤ 140737488355328) : Ev (fun k => slipwayref11_Of.f k l) ((crc (nt l) : Nat) : Int) := by
  have h := ref_loop l hl hn l.length 4294967295 0 (by decide) (by omega)
  rw [List.drop_zero] at h
  exact h
theorem Four_ev (n : Nat) : Ev (fun k => slipwayref11_Four.f k (n : Int)) (four n) := by
  unfold slipwayref11_Four.f
  refine Ev_pos (by decide) ?_
  have s : ∀ (k : Nat) (m i : Nat) (l : List Int), i < 4 → l.length = 4 → slipwayref11_Four.l0 (k + 1) (m : Int) l (i : Int) = slipwayref11_Four.l0 k ((m / 256 : Nat) : Int) (l.set i ((m % 256 : Nat) : Int)) ((i + 1 : Nat) : Int) := by
    intro k m i l hi hl
    rw [slipwayref11_Four.l0, if_pos (by omega), if_pos (by omega), if_pos (by omega), Int.toNat_natCast, show (m : Int) / 256 = ((m / 256 : Nat) : Int) by omega, show (m : Int) % 256 = ((m % 256 : Nat) : Int) by omega, show wrap64 ((i : Int) + 1) = ((i + 1 : Nat) : Int) by unfold wrap64; omega]
  refine Ev.step (fun k => s k n 0 _ (by decide) rfl) (Ev.step (fun k => s k _ 1 _ (by decide) rfl) (Ev.step (fun k => s k _ 2 _ (by decide) rfl) (Ev.step (fun k => s k _ 3 _ (by decide) rfl) ?_)))
  refine Ev.step (f := fun _ => some (four n)) (fun k => ?_) (Ev.now _)
  rw [slipwayref11_Four.l0, if_neg (by omega)]
  congr 1
  unfold four
  simp only [Nat.div_div_eq_div_mul, Nat.reduceMul]
  rfl
theorem Number_ev {l : List Int} (h : B l) (hn : 4 ≤ l.length) (hm : l.length ≤ 140737488355328) : Ev (fun k => slipwayref11_Number.f k l) ((num4 l : Nat) : Int) := by
  unfold slipwayref11_Number.f
  have s : ∀ (k : Nat) (m i : Nat), i < 4 → m < 4294967296 → slipwayref11_Number.l0 (k + 1) l (m : Int) (i : Int) = slipwayref11_Number.l0 k l ((256 * m + (l.getD i 0).toNat : Nat) : Int) ((i : Int) - 1) := by
    intro k m i hi hmm
    have hb := B_getD h i
    have hr : rd l (i : Int) = (((l.getD i 0).toNat : Nat) : Int) := by
      unfold rd
      rw [Int.toNat_natCast]
      omega
    have e1 : wrap64 (wrap64 (256 * (m : Int)) + wrap64 (((l.getD i 0).toNat : Nat) : Int)) = ((256 * m + (l.getD i 0).toNat : Nat) : Int) := by unfold wrap64; omega
    rw [slipwayref11_Number.l0, if_pos (by omega), if_pos (by omega), if_pos (by omega), hr, e1, show wrap64 ((i : Int) - 1) = (i : Int) - 1 by unfold wrap64; omega]
  have h0 := B_getD h 0
  have h1 := B_getD h 1
  have h2 := B_getD h 2
  have h3 := B_getD h 3
  refine Ev.step (fun k => s k 0 3 (by decide) (by decide)) (Ev.step (fun k => s k _ 2 (by decide) (by omega)) (Ev.step (fun k => s k _ 1 (by decide) (by omega)) (Ev.step (fun k => s k _ 0 (by decide) (by omega)) ?_)))
  refine Ev.step (f := fun _ => some ((num4 l : Nat) : Int)) (fun k => ?_) (Ev.now _)
  rw [slipwayref11_Number.l0, if_neg (by omega)]
  congr 1
  unfold num4
  omega
theorem Join_f (a b : List Int) (h : a.length + b.length < 140737488355328) : slipwayref11_Join.f a b = some (a ++ b) := by
  unfold slipwayref11_Join.f
  simp only [Option.bind_some, List.nil_append, List.length_nil]
  rw [if_pos (by omega), if_pos (by omega)]
theorem RefFrame_ev (p : List Int) (h : B p) (hn : p.length ≤ 140737488300000) : Ev (fun k => slipwayref11_Frame.f k p) (frame p) := by
  unfold slipwayref11_Frame.f
  refine Ev.bind (Four_ev _) ?_
  rw [Join_f _ _ (by rw [four_len]; omega)]
  refine Ev.bind (Ev.now _) (Ev.bind (ref_ev _ (B_append (four_B _) h) (by rw [List.length_append, four_len]; omega)) (Ev.bind (Four_ev _) (Ev_pos (by rw [List.length_append, four_len, four_len]; omega) ?_)))
  unfold frame
  rw [List.append_assoc]
  exact Ev.now _
theorem RefOpen_ev (l : List Int) (h : B l) (hm : l.length ≤ 140737488300000) : Ev (fun k => slipwayref11_Open.f k l) (opened l) := by
  unfold slipwayref11_Open.f opened
  by_cases c1 : l.length < 4
  · rw [if_pos c1]; exact Ev_pos (by omega) (Ev.now _)
  rw [if_neg c1]
  refine Ev_neg (by omega) (Ev_pos (by omega) ?_)
  have hN := Number_ev (B_take h 4) (by rw [List.length_take]; omega) (by rw [List.length_take]; omega)
  rw [num4_take 4 (by decide)] at hN
  refine Ev.bind hN ?_
  by_cases c2 : num4 l > 65536
  · rw [if_pos c2]; exact Ev_pos (by omega) (Ev.now _)
  rw [if_neg c2]
  refine Ev_neg (by omega) ?_
  have w8 : wrap64 (((num4 l : Nat) : Int) + 8) = ((num4 l + 8 : Nat) : Int) := by unfold wrap64; omega
  have w4 : wrap64 (4 + ((num4 l : Nat) : Int)) = ((num4 l + 4 : Nat) : Int) := by unfold wrap64; omega
  simp only [w8, w4, Int.toNat_natCast]
  by_cases c3 : l.length < num4 l + 8
  · rw [if_pos c3]; exact Ev_pos (by omega) (Ev.now _)
  rw [if_neg c3]
  refine Ev_neg (by omega) (Ev_pos (by omega) (Ev_pos (by omega) ?_))
  simp only [Option.bind_some]
  refine Ev.bind (RefFrame_ev _ (B_drop (B_take h _) _) (by rw [List.length_drop, List.length_take]; omega)) (Ev_pos (by omega) (Ev_pos (by omega) ?_))
  refine Ev.bind (Same_ev _ _ (by rw [frame_len, List.length_drop, List.length_take]; omega)) ?_
  by_cases c4 : crc (nt (l.take (num4 l + 4))) = num4 (l.drop (num4 l + 4))
  · rw [if_pos c4, decide_eq_true ((frame_eq h (by omega)).2 c4)]
    exact Ev_pos rfl (Ev.now _)
  · rw [if_neg c4, decide_eq_false (fun e => c4 ((frame_eq h (by omega)).1 e))]
    exact Ev_neg (by decide) (Ev.now _)
end Go.Proofs.Ytoimpjmoikjibaa.Pure
namespace Go.Proofs.Ytoimpjmoikjibaa.Pure
open Go.RowKit Go.Proofs.Ytoimpjmoikjibaa.P Go.Proofs.Ytoimpjmoikjibaa.Crc Go.Proofs.YtoimpjmoikjibaaW.PrintWords Go.Proofs.YtoimpjmoikjibaaW.PrintLast Go.Proofs.YtoimpjmoikjibaaW.PrintMore
set_option linter.unusedVariables false
set_option linter.unusedSimpArgs false
theorem opened_n (l : List Int) (h : (opened l).2.2 = 0) : (opened l).2.1 = (((opened l).1.length + 8 : Nat) : Int) ∧ (opened l).1.length + 8 ≤ l.length := by
  unfold opened at h ⊢
  split at h
  · cases h
  split at h
  · cases h
  split at h
  · cases h
  split at h
  · rename_i c1 c2 c3 c4
    rw [if_neg c1, if_neg c2, if_neg c3, if_pos c4]
    have e : ((l.take (num4 l + 4)).drop 4).length = num4 l := by rw [List.length_drop, List.length_take]; omega
    refine ⟨?_, ?_⟩
    · show ((num4 l + 8 : Nat) : Int) = ((((l.take (num4 l + 4)).drop 4).length + 8 : Nat) : Int)
      rw [e]
    · show ((l.take (num4 l + 4)).drop 4).length + 8 ≤ _
      rw [e]; omega
  · cases h
/-- The records behind a base: frames whose payload begins with 1. -/
def recsW (b : List Int) : List (List Int) × Nat :=
  if h : (opened b).2.2 = 0 ∧ (opened b).1.head? = some 1 then
    ((opened b).1.tail :: (recsW (b.drop ((opened b).1.length + 8))).1, (opened b).1.length + 8 + (recsW (b.drop ((opened b).1.length + 8))).2)
  else ([], 0)
termination_by b.length
decreasing_by all_goals (have := (opened_n b h.1).2; rw [List.length_drop]; omega)
/-- A file's log: the base, the records, where they end; none: it is not whole. -/
def wlog (b : List Int) : Option (List Int × List (List Int) × Nat) :=
  if (opened b).2.2 = 0 ∧ (opened b).1.head? = some 0 then
    some ((opened b).1.tail, (recsW (b.drop ((opened b).1.length + 8))).1, (opened b).1.length + 8 + (recsW (b.drop ((opened b).1.length + 8))).2)
  else none
theorem recsW_pos {b : List Int} (h : (opened b).2.2 = 0 ∧ (opened b).1.head? = some 1) : recsW b = ((opened b).1.tail :: (recsW (b.drop ((opened b).1.length + 8))).1, (opened b).1.length + 8 + (recsW (b.drop ((opened b).1.length + 8))).2) := by
  rw [recsW, dif_pos h]
theorem recsW_neg {b : List Int} (h : ¬ ((opened b).2.2 = 0 ∧ (opened b).1.head? = some 1)) : recsW b = ([], 0) := by
  rw [recsW, dif_neg h]
/-- The document's split. -/
def splitW (b : List Int) : List (List Int) := if h : (opened b).2.2 = 0 then (opened b).1 :: splitW (b.drop ((opened b).1.length + 8)) else []
termination_by b.length
decreasing_by have := (opened_n b h).2; rw [List.length_drop]; omega
theorem splitW_pos {b : List Int} (h : (opened b).2.2 = 0) : splitW b = (opened b).1 :: splitW (b.drop ((opened b).1.length + 8)) := by rw [splitW, dif_pos h]
theorem splitW_neg {b : List Int} (h : ¬ (opened b).2.2 = 0) : splitW b = [] := by rw [splitW, dif_neg h]
def recsOf : List (List Int) → List (List Int) × Nat
  | [] => ([], 0)
  | p :: r => if p.head? = some 1 then (p.tail :: (recsOf r).1, p.length + 8 + (recsOf r).2) else ([], 0)
theorem recsOf_split : ∀ (n : Nat) (b : List Int), b.length ≤ n → recsOf (splitW b) = recsW b := by
  intro n
  induction n with
  | zero =>
    intro b hb
    have : b = [] := List.length_eq_zero_iff.1 (by omega)
    subst this
    rw [splitW_neg (by rw [opened_nil]; decide), recsW_neg (by rw [opened_nil]; intro h; exact absurd h.1 (by decide))]
    rfl
  | succ n ih =>
    intro b hb
    by_cases c : (opened b).2.2 = 0
    · have h8 := (opened_n b c).2
      rw [splitW_pos c, recsOf, ih _ (by rw [List.length_drop]; omega)]
      by_cases d : (opened b).1.head? = some 1
      · rw [if_pos d, recsW_pos ⟨c, d⟩]
      · rw [if_neg d, recsW_neg (fun h => d h.2)]
    · rw [splitW_neg c, recsW_neg (fun h => c h.1)]
      rfl
theorem wlog_split (b : List Int) : wlog b = match splitW b with
    | [] => none
    | p :: r => if p.head? = some 0 then some (p.tail, (recsOf r).1, p.length + 8 + (recsOf r).2) else none := by
  unfold wlog
  by_cases c : (opened b).2.2 = 0
  · rw [splitW_pos c]
    dsimp only
    rw [recsOf_split _ _ (Nat.le_refl _)]
    by_cases d : (opened b).1.head? = some 0
    · rw [if_pos ⟨c, d⟩, if_pos d]
    · rw [if_neg (fun h => d h.2), if_neg d]
  · rw [splitW_neg c, if_neg (fun h => c h.1)]
theorem splitW_len : ∀ (n : Nat) (b : List Int), b.length ≤ n → 8 * (splitW b).length ≤ b.length ∧ ∀ p ∈ splitW b, p.length ≤ b.length := by
  intro n
  induction n with
  | zero =>
    intro b hb
    have : b = [] := List.length_eq_zero_iff.1 (by omega)
    subst this
    rw [splitW_neg (by rw [opened_nil]; decide)]
    exact ⟨by simp, fun p hp => by cases hp⟩
  | succ n ih =>
    intro b hb
    by_cases c : (opened b).2.2 = 0
    · have h8 := (opened_n b c).2
      obtain ⟨h1, h2⟩ := ih (b.drop ((opened b).1.length + 8)) (by rw [List.length_drop]; omega)
      rw [splitW_pos c]
      rw [List.length_drop] at h1 h2
      refine ⟨by rw [List.length_cons]; omega, fun p hp => ?_⟩
      rcases List.mem_cons.1 hp with rfl | hp
      · omega
      · have := h2 p hp; omega
    · rw [splitW_neg c]
      exact ⟨by simp, fun p hp => by cases hp⟩
/-! ### What is printed -/
theorem framed_ev (a : Int) (b : List Int) (ha : 0 ≤ a ∧ a < 256) (hb : B b) (hn : b.length ≤ 65535) : Ev (fun k => wal_framed.f k a b) (frame (a :: b), true) := by
  unfold wal_framed.f
  refine Ev.bind (Ev.now _) (Ev_pos (by simp; omega) ?_)
  exact Ev.bind (Frame_ev ([a] ++ b) (B_cons ha hb) (by simp; omega)) (Ev.now _)
theorem framed_big_ev (a : Int) (b : List Int) (hn : 65535 < b.length) (hm : b.length ≤ 100000000000) : Ev (fun k => wal_framed.f k a b) ([], false) := by
  unfold wal_framed.f
  refine Ev.bind (Ev.now _) (Ev_pos (by simp; omega) ?_)
  have h1 : Ev (fun k => sum_Frame.f k ([a] ++ b)) (([] : List Int), (11 : Int)) := by
    unfold sum_Frame.f
    exact Ev_pos (by simp; omega) (Ev.now _)
  exact Ev.bind h1 (Ev.now _)
theorem refFrame_ev (a : Int) (b : List Int) (hb : B b) (hn : b.length ≤ 140737488200000) : Ev (fun k => slipwayref14_Frame.f k a b) (frame (a % 256 :: b)) := by
  unfold slipwayref14_Frame.f
  rw [Join_f [a % 256] b (by simp; omega)]
  refine Ev.bind (Ev.now _) (Ev.bind (RefFrame_ev ([a % 256] ++ b) (B_cons (by omega) hb) (by simp; omega)) (Ev.now _))
theorem refSame_loop (a b : List (List Int)) (hl : a.length = b.length) (hm : a.length ≤ 1000000000) (hx : ∀ x ∈ a, x.length ≤ 140737488355328) (d : Nat) : ∀ i : Nat, i + d = a.length → (∀ j, j < i → a.getD j [] = b.getD j []) → Ev (fun k => slipwayref14_Same.l0 k a b (i : Int)) (decide (a = b)) := by
  induction d with
  | zero =>
    intro i hi hj
    refine Ev_succ ?_
    simp only [slipwayref14_Same.l0]
    refine Ev_neg (by omega) ?_
    have e : a = b := List.ext_getElem hl fun j h1 h2 => by
      have := hj j (by omega)
      rwa [List.getD_eq_getElem?_getD, List.getD_eq_getElem?_getD, List.getElem?_eq_getElem h1, List.getElem?_eq_getElem h2] at this
    rw [decide_eq_true e]
    exact Ev.now _
  | succ d ih =>
    intro i hi hj
    have h1 : i < a.length := by omega
    have h2 : i < b.length := by omega
    have hw : wrap64 ((i : Int) + 1) = ((i + 1 : Nat) : Int) := by unfold wrap64; omega
    refine Ev_succ ?_
    simp only [slipwayref14_Same.l0]
    refine Ev_pos (by omega) (Ev_pos (by omega) (Ev_pos (by omega) ?_))
    rw [rdL h1, rdL h2, hw]
    refine Ev.bind (Same_ev a[i] b[i] (hx _ (List.getElem_mem h1))) ?_
    by_cases c : a[i] = b[i]
    · rw [decide_eq_true c]
      refine Ev_pos rfl (ih (i + 1) (by omega) fun j hj1 => ?_)
      rcases Nat.lt_or_ge j i with h3 | h3
      · exact hj j h3
      · obtain rfl : j = i := by omega
        rw [List.getD_eq_getElem?_getD, List.getD_eq_getElem?_getD, List.getElem?_eq_getElem h1, List.getElem?_eq_getElem h2]
        exact c
    · rw [decide_eq_false c, decide_eq_false (fun e : a = b => c (by subst e; rfl))]
      exact Ev_neg (by decide) (Ev.now _)
theorem refSame_ev (a b : List (List Int)) (hm : a.length ≤ 1000000000) (hx : ∀ x ∈ a, x.length ≤ 140737488355328) : Ev (fun k => slipwayref14_Same.f k a b) (decide (a = b)) := by
  unfold slipwayref14_Same.f
  by_cases c : a.length = b.length
  · refine Ev_pos (by omega) (refSame_loop a b c hm hx a.length 0 (by omega) fun j hj => by omega)
  · rw [decide_eq_false (fun e : a = b => c (by rw [e]))]
    exact Ev_neg (by omega) (Ev.now _)
theorem refSplit_loop (l : List Int) (h : B l) (hm : l.length ≤ 1000000000) (m : Nat) : ∀ (at_ : Nat) (out : List (List Int)), at_ ≤ l.length → l.length - at_ < m → out.length ≤ at_ →
    ∃ e : Int, Ev (fun k => slipwayref11_Split.l0 k l out (at_ : Int)) (out ++ splitW (l.drop at_), e) := by
  induction m with
  | zero => intro at_ out _ hlt; omega
  | succ m ih =>
    intro at_ out ha hlt ho
    have hR := RefOpen_ev (l.drop at_) (B_drop h at_) (by rw [List.length_drop]; omega)
    by_cases ce : at_ < l.length
    · by_cases c : (opened (l.drop at_)).2.2 = 0
      · obtain ⟨hn, h8⟩ := opened_n _ c
        rw [List.length_drop] at h8
        obtain ⟨n, hn2⟩ : ∃ n, (opened (l.drop at_)).1.length + 8 = n := ⟨_, rfl⟩
        rw [hn2] at hn h8
        have hw : wrap64 ((at_ : Int) + (n : Int)) = ((at_ + n : Nat) : Int) := by unfold wrap64; omega
        obtain ⟨e, he⟩ := ih (at_ + n) (out ++ [(opened (l.drop at_)).1]) (by omega) (by omega) (by simp; omega)
        refine ⟨e, Ev_succ ?_⟩
        simp only [slipwayref11_Split.l0, Int.toNat_natCast]
        refine Ev_pos (by omega) (Ev_pos (by omega) (Ev_pos (by omega) (Ev.bind hR (Ev_pos c (Ev_pos (by omega) ?_)))))
        rw [hn, hw, splitW_pos c, hn2, List.drop_drop]
        rw [List.append_assoc] at he
        exact he
      · refine ⟨(at_ : Int), Ev_succ ?_⟩
        simp only [slipwayref11_Split.l0, Int.toNat_natCast]
        rw [splitW_neg c, List.append_nil]
        exact Ev_pos (by omega) (Ev_pos (by omega) (Ev_pos (by omega) (Ev.bind hR (Ev_neg c (Ev.now _)))))
    · refine ⟨(at_ : Int), Ev_succ ?_⟩
      have e : l.drop at_ = [] := List.drop_of_length_le (by omega)
      simp only [slipwayref11_Split.l0, Int.toNat_natCast]
      rw [e, splitW_neg (by rw [opened_nil]; decide), List.append_nil]
      exact Ev_neg (by omega) (Ev.now _)
theorem head_rd {p : List Int} (k : Int) (h : 0 < p.length) : p.head? = some k ↔ rd p 0 = k := by
  cases p with
  | nil => simp at h
  | cons x r =>
    rw [List.head?_cons, show rd (x :: r) 0 = x from rfl]
    exact ⟨fun h => Option.some.inj h, fun h => by rw [h]⟩
theorem refRead_loop (L : List (List Int)) (hL : L.length ≤ 1000000000) (hx : ∀ p ∈ L, p.length ≤ 1000000000) (base : List Int) (d : Nat) : ∀ (i e : Nat) (recs : List (List Int)), i + d = L.length → recs.length ≤ i → e ≤ 1000000010 * i →
    Ev (fun k => slipwayref14_Read.l0 k L (i : Int) base recs (e : Int)) (base, recs ++ (recsOf (L.drop i)).1, ((e + (recsOf (L.drop i)).2 : Nat) : Int), true) := by
  induction d with
  | zero =>
    intro i e recs hi hr he
    refine Ev_succ ?_
    rw [show L.drop i = [] from List.drop_of_length_le (by omega)]
    simp only [slipwayref14_Read.l0, recsOf, List.append_nil, Nat.add_zero]
    exact Ev_neg (by omega) (Ev.now _)
  | succ d ih =>
    intro i e recs hi hr he
    have h1 : i < L.length := by omega
    have hd : L.drop i = L[i] :: L.drop (i + 1) := (List.drop_eq_getElem_cons h1)
    have hp := hx _ (List.getElem_mem h1)
    refine Ev_succ ?_
    simp only [slipwayref14_Read.l0]
    rw [rdL h1, hd]
    obtain ⟨p, hpp⟩ : ∃ p, L[i] = p := ⟨_, rfl⟩
    rw [hpp] at hp ⊢
    refine Ev_pos (by omega) (Ev_pos (by omega) ?_)
    by_cases c0 : p.length = 0
    · have : p = [] := List.length_eq_zero_iff.1 c0
      subst this
      rw [recsOf, if_neg (by simp)]
      simp only [List.append_nil, Nat.add_zero]
      exact Ev_pos (by simp) (Ev.now _)
    · refine Ev_neg (by omega) (Ev_pos (by omega) ?_)
      by_cases c1 : rd p 0 = 1
      · have hk := (head_rd 1 (by omega)).2 c1
        rw [recsOf, if_pos hk]
        refine Ev_pos c1 (Ev_pos (by omega) (Ev_pos (by omega) ?_))
        have hw : wrap64 ((i : Int) + 1) = ((i + 1 : Nat) : Int) := by unfold wrap64; omega
        have hw2 : wrap64 ((e : Int) + (wrap64 (8 + (p.length : Int)))) = ((e + (p.length + 8) : Nat) : Int) := by unfold wrap64; omega
        rw [hw, hw2, List.drop_one]
        have := ih (i + 1) (e + (p.length + 8)) (recs ++ [p.tail]) (by omega) (by simp; omega) (by omega)
        rw [List.append_assoc] at this
        have e3 : e + (p.length + 8) + (recsOf (L.drop (i + 1))).2 = e + (p.length + 8 + (recsOf (L.drop (i + 1))).2) := by omega
        rw [e3] at this
        exact this
      · have hk : ¬ p.head? = some 1 := fun h => c1 ((head_rd 1 (by omega)).1 h)
        rw [recsOf, if_neg hk]
        simp only [List.append_nil, Nat.add_zero]
        exact Ev_neg c1 (Ev.now _)
def readR (b : List Int) : List Int × List (List Int) × Int × Bool := match wlog b with
  | some x => (x.1, x.2.1, (x.2.2 : Int), true)
  | none => ([], [], 0, false)
theorem refRead_ev (l : List Int) (h : B l) (hm : l.length ≤ 1000000000) : Ev (fun k => slipwayref14_Read.f k l) (readR l) := by
  obtain ⟨e, he⟩ := refSplit_loop l h hm (l.length + 1) 0 [] (by omega) (by omega) (by simp)
  rw [List.nil_append, List.drop_zero] at he
  obtain ⟨hs, hsx⟩ := splitW_len _ l (Nat.le_refl _)
  unfold slipwayref14_Read.f
  refine Ev.bind (show Ev (fun k => slipwayref11_Split.f k l) (splitW l, e) from he) ?_
  unfold readR
  rw [wlog_split]
  cases hL : splitW l with
  | nil =>
    dsimp only
    exact Ev_pos (by simp) (Ev_succ (by simp only [slipwayref14_Read.j0]; exact Ev_pos (by simp) (Ev.now _)))
  | cons p r =>
    rw [hL] at hs hsx
    have hp := hsx p (by simp)
    simp only [List.length_cons] at hs
    dsimp only
    have e0 : rd_L1 (p :: r) 0 = p := rfl
    rw [e0]
    refine Ev_neg (by simp only [List.length_cons]; omega) (Ev_pos (by simp only [List.length_cons]; omega) ?_)
    by_cases c0 : p.length = 0
    · have : p = [] := List.length_eq_zero_iff.1 c0
      subst this
      refine Ev_pos (by simp) (Ev_succ ?_)
      simp only [slipwayref14_Read.j0]
      exact Ev_pos (by simp) (Ev.now _)
    · refine Ev_neg (by omega) (Ev_pos (by omega) ?_)
      by_cases c1 : rd p 0 = 0
      · have hk := (head_rd 0 (by omega)).2 c1
        rw [if_pos hk, c1]
        refine Ev_succ ?_
        simp only [slipwayref14_Read.j0, e0]
        refine Ev_neg (by decide) (Ev_pos (by simp only [List.length_cons]; omega) (Ev_pos (by omega) ?_))
        have hw2 : wrap64 (8 + (p.length : Int)) = ((p.length + 8 : Nat) : Int) := by unfold wrap64; omega
        rw [hw2, List.drop_one]
        have := refRead_loop (p :: r) (by simp only [List.length_cons]; omega) (fun x hx => Nat.le_trans (hsx x hx) hm) p.tail r.length 1 (p.length + 8) [] (by simp only [List.length_cons]; omega) (by simp) (by omega)
        rw [List.nil_append, List.drop_succ_cons, List.drop_zero] at this
        exact this
      · have hk : ¬ p.head? = some 0 := fun h => c1 ((head_rd 0 (by omega)).1 h)
        rw [if_neg hk]
        refine Ev_succ ?_
        simp only [slipwayref14_Read.j0]
        exact Ev_pos (by simpa using c1) (Ev.now _)
end Go.Proofs.Ytoimpjmoikjibaa.Pure
