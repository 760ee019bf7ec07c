/- lattice: sets as numbers, plainly. -/
import Derived.Test.YtplhihakeodadaaDoorLtAnc
import Derived.Sort.WalkA14
namespace Go.Proofs.YtplhihakeodadaaDoor.Sg
open Go Go.RowKit Go.Proofs.YtplhihakeodadaaDoorW.PrintWords Go.Proofs.YtplhihakeodadaaDoorW.PrintLast Go.Proofs.YtplhihakeodadaaDoorW.PrintMore
set_option linter.unusedVariables false
set_option linter.unusedSimpArgs false
theorem bitLen_le {s n : Nat} (hs : s < 2 ^ 64) : Lib.bitLen s ≤ n ↔ s < 2 ^ n := by rw [Go.Proofs.bitLen_eq s hs]; exact Sort.bitsLen_le_iff s n
theorem inside_iff {n s : Nat} {E : List Stp} (hs : s < 2 ^ 64) (hR : rightG (n : Int) E = true) : insideE (n : Int) E s = if s < 2 ^ n then 0 else 20 := by
  unfold insideE
  rw [if_pos hR]
  by_cases c : s < 2 ^ n
  · have := (bitLen_le hs).2 c
    rw [if_neg (by omega), if_pos c]
  · have : ¬ Lib.bitLen s ≤ n := fun h => c ((bitLen_le hs).1 h)
    rw [if_pos (by omega), if_neg c]
theorem shr_zero (s n : Nat) : (((s : Int) / 2 ^ n) != 0) = !decide (s < 2 ^ n) := by
  have e : ((s : Int) / 2 ^ n) = ((s / 2 ^ n : Nat) : Int) := by simp
  rw [e]
  by_cases c : s < 2 ^ n
  · rw [Nat.div_eq_of_lt c, decide_eq_true c]; rfl
  · have h : s / 2 ^ n ≠ 0 := fun h => c ((Nat.div_eq_zero_iff_lt (Nat.two_pow_pos n)).1 h)
    rw [decide_eq_false c]
    simp only [Bool.not_false, bne_iff_ne, ne_eq]
    omega
theorem cl_iff {E : List Stp} {s : Nat} : closedE E s = true ↔ Cl Prod.snd Prod.fst E s := by
  unfold closedE Cl
  rw [List.all_eq_true]
  constructor
  · intro h e he hb
    have := h e he
    rw [hb] at this
    simpa using this
  · intro h e he
    cases hb : s.testBit e.2.toNat with
    | false => rfl
    | true => rw [h e he hb]; rfl
theorem lt_pow_of_bits {x n : Nat} (h : ∀ i, x.testBit i = true → i < n) : x < 2 ^ n := by
  refine Nat.lt_pow_two_of_testBit x fun i hi => ?_
  cases hb : x.testBit i with
  | false => rfl
  | true => exact absurd (h i hb) (by omega)
theorem bit_lt {x n i : Nat} (h : x < 2 ^ n) (hb : x.testBit i = true) : i < n := by
  rcases Nat.lt_or_ge i n with c | c
  · exact c
  · rw [Nat.testBit_lt_two_pow (Nat.lt_of_lt_of_le h (Nat.pow_le_pow_right (by decide) c))] at hb
    cases hb
theorem andN_zero {a b : Nat} (ha : a < 2 ^ 64) : andN a b = 0 ↔ Sub a b := by
  constructor
  · intro h i hi
    have := andN_bit a b i ha
    rw [h, hi, Nat.zero_testBit] at this
    cases hb : b.testBit i with
    | true => rfl
    | false => rw [hb] at this; cases this
  · intro h
    refine Nat.eq_of_testBit_eq fun i => ?_
    rw [andN_bit a b i ha, Nat.zero_testBit]
    cases hi : a.testBit i with
    | false => rfl
    | true => rw [h i hi]; rfl
theorem Sub.eq {a b : Nat} (h : Sub a b) (k : Sub b a) : a = b := by
  refine Nat.eq_of_testBit_eq fun i => ?_
  cases ha : a.testBit i with
  | true => rw [h i ha]
  | false =>
    cases hb : b.testBit i with
    | false => rfl
    | true => rw [k i hb] at ha; cases ha
/-- All nodes. -/
theorem mask_bit (n i : Nat) : (2 ^ n - 1).testBit i = decide (i < n) := Nat.testBit_two_pow_sub_one n i
theorem cl_mask {E : List Stp} {n : Nat} {f t : Stp → Int} (h : ∀ e ∈ E, (t e).toNat < n) : Cl f t E (2 ^ n - 1) := fun e he _ => by rw [mask_bit]; exact decide_eq_true (h e he)
theorem Least.lt_pow {f t : Stp → Int} {E : List Stp} {s d n : Nat} (h : Least f t E s d) (hE : ∀ e ∈ E, (t e).toNat < n) (hs : s < 2 ^ n) : d < 2 ^ n := by
  have := h.least (2 ^ n - 1) (cl_mask hE) (fun i hi => by rw [mask_bit]; exact decide_eq_true (bit_lt hs hi))
  exact lt_pow_of_bits fun i hi => by have := this i hi; rw [mask_bit] at this; exact of_decide_eq_true this
theorem Least.own {f t : Stp → Int} {E : List Stp} {s d : Nat} (h : Least f t E s d) (hc : Cl f t E s) : d = s := (h.least s hc (Sub.refl s)).eq h.sub
theorem right_edges {n : Nat} {E : List Stp} (hR : rightG (n : Int) E = true) : ∀ e ∈ E, e.1.toNat < n ∧ e.2.toNat < n := fun e he => by
  have := (rightG_in hR).2.2.2 e he
  omega
theorem wf_i64 {x : Int} (h : (Lit.int .i64 x).wf = true) : -9223372036854775808 ≤ x ∧ x < 9223372036854775808 := by
  simp only [Lit.wf, decide_eq_true_eq, Bool.and_eq_true] at h
  rw [show IntKind.i64.min = -9223372036854775808 from rfl, show IntKind.i64.max = 9223372036854775807 from rfl] at h
  omega
theorem wf_u64 {x : Int} (h : (Lit.int .u64 x).wf = true) : ∃ n : Nat, x = (n : Int) ∧ n < 2 ^ 64 := by
  simp only [Lit.wf, decide_eq_true_eq, Bool.and_eq_true] at h
  rw [show IntKind.u64.min = 0 from rfl, show IntKind.u64.max = 18446744073709551615 from rfl] at h
  exact ⟨x.toNat, by omega, by omega⟩
end Go.Proofs.YtplhihakeodadaaDoor.Sg
