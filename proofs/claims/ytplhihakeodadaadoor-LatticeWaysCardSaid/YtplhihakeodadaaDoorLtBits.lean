/- lattice: the nodes of a set, as its bits from below. -/
import Derived.Test.YtplhihakeodadaaDoorSgOrdW
namespace Go.Proofs.YtplhihakeodadaaDoor.Sg
open Go Go.RowKit Go.Proofs.YtplhihakeodadaaDoorW.PrintWords Go.Proofs.YtplhihakeodadaaDoorW.PrintLast Go.Proofs.YtplhihakeodadaaDoorW.PrintMore
set_option linter.unusedVariables false
set_option linter.unusedSimpArgs false
/-- The walk halts here, and is gone on with outside. -/
def Halt (p : Prop) : Prop := p
theorem Halt.out {p : Prop} (h : Halt p) : p := h
def nodes (x : Nat) : List Nat := (List.range 64).filter fun i => x.testBit i
theorem nodes_mem (x i : Nat) (hx : x < 2 ^ 64) : i ∈ nodes x ↔ x.testBit i = true := by
  unfold nodes
  rw [List.mem_filter, List.mem_range]
  refine ⟨fun h => h.2, fun h => ⟨?_, h⟩⟩
  rcases Nat.lt_or_ge i 64 with c | c
  · exact c
  · have : x < 2 ^ i := Nat.lt_of_lt_of_le hx (Nat.pow_le_pow_right (by decide) c)
    rw [Nat.testBit_lt_two_pow this] at h
    cases h
theorem nodes_zero : nodes 0 = [] := by simp [nodes]
theorem low_split (x : Nat) (h0 : x ≠ 0) (hx : x < 2 ^ 64) : x = 2 ^ (Lib.ctz 64 x + 1) * (x / 2 ^ (Lib.ctz 64 x + 1)) + 2 ^ Lib.ctz 64 x := by
  obtain ⟨h1, _, h3⟩ := ctz_bit x h0 hx
  have hm : x % 2 ^ (Lib.ctz 64 x + 1) = 2 ^ Lib.ctz 64 x := by
    apply Nat.eq_of_testBit_eq
    intro j
    rw [Nat.testBit_mod_two_pow, Nat.testBit_two_pow]
    rcases Nat.lt_trichotomy j (Lib.ctz 64 x) with c | c | c
    · rw [h3 j c]; simp; omega
    · subst c; rw [h1]; simp
    · have : ¬ j < Lib.ctz 64 x + 1 := by omega
      simp [this]; omega
  have := Nat.div_add_mod x (2 ^ (Lib.ctz 64 x + 1))
  rw [hm] at this
  exact this.symm
/-- The set without its least node. -/
theorem and_pred_bit (x : Nat) (h0 : x ≠ 0) (hx : x < 2 ^ 64) (j : Nat) : (x &&& (x - 1)).testBit j = (x.testBit j && decide (j ≠ Lib.ctz 64 x)) := by
  obtain ⟨h1, _, h3⟩ := ctz_bit x h0 hx
  have hs := low_split x h0 hx
  obtain ⟨k, hk⟩ : ∃ k, Lib.ctz 64 x = k := ⟨_, rfl⟩
  obtain ⟨m, hm⟩ : ∃ m, x / 2 ^ (k + 1) = m := ⟨_, rfl⟩
  rw [hk] at hs h1 h3 ⊢
  rw [hm] at hs
  have hp : 0 < 2 ^ k := Nat.two_pow_pos k
  have hlt : 2 ^ k < 2 ^ (k + 1) := Nat.pow_lt_pow_right (by decide) (by omega)
  have hpr : x - 1 = 2 ^ (k + 1) * m + (2 ^ k - 1) := by omega
  rw [Nat.testBit_and]
  rcases Nat.lt_trichotomy j k with c | c | c
  · rw [h3 j c]; simp
  · subst c
    rw [hpr, Nat.testBit_two_pow_mul_add _ (by omega), if_pos (by omega), Nat.testBit_two_pow_sub_one]
    simp
  · have hj : ¬ j < k + 1 := by omega
    rw [hpr, Nat.testBit_two_pow_mul_add _ (by omega), if_neg hj]
    have e2 : x.testBit j = m.testBit (j - (k + 1)) := by
      rw [hs, Nat.testBit_two_pow_mul_add _ hlt, if_neg hj]
    rw [e2]
    have : j ≠ k := by omega
    simp [this]
theorem nodes_step (x : Nat) (h0 : x ≠ 0) (hx : x < 2 ^ 64) : nodes x = Lib.ctz 64 x :: nodes (x &&& (x - 1)) := by
  obtain ⟨h1, h2, h3⟩ := ctz_bit x h0 hx
  have hb := and_pred_bit x h0 hx
  obtain ⟨k, hk⟩ : ∃ k, Lib.ctz 64 x = k := ⟨_, rfl⟩
  rw [hk] at h1 h2 h3 hb ⊢
  have hr : List.range 64 = List.range k ++ (k :: List.range' (k + 1) (63 - k)) := by
    have e1 : k :: List.range' (k + 1) (63 - k) = List.range' k (64 - k) := by
      rw [show 64 - k = (63 - k) + 1 by omega, List.range'_succ]
    rw [e1, List.range_eq_range', List.range_eq_range', show (64 : Nat) = k + (64 - k) by omega, ← List.range'_append]
    simp
  unfold nodes
  rw [hr, List.filter_append, List.filter_append]
  have f1 : (List.range k).filter (fun i => x.testBit i) = [] := by
    rw [List.filter_eq_nil_iff]
    intro i hi
    rw [List.mem_range] at hi
    rw [h3 i hi]; simp
  have f2 : (List.range k).filter (fun i => (x &&& (x - 1)).testBit i) = [] := by
    rw [List.filter_eq_nil_iff]
    intro i hi
    rw [List.mem_range] at hi
    rw [hb, h3 i hi]; simp
  rw [f1, f2, List.nil_append, List.nil_append, List.filter_cons_of_pos h1, List.filter_cons_of_neg (by rw [hb]; simp)]
  congr 1
  refine List.filter_congr fun i hi => ?_
  rw [List.mem_range'_1] at hi
  have : i ≠ k := by omega
  rw [hb]
  simp [this]
theorem andU (a b : Nat) (ha : a < 2 ^ 64) (hb : b < 2 ^ 64) : bits .and .u64 (a : Int) (b : Int) = ((a &&& b : Nat) : Int) := by
  simp only [bits, BitVec.ofInt_natCast]
  have e : (BitVec.ofNat 64 a &&& BitVec.ofNat 64 b).toNat = a &&& b := by
    rw [BitVec.toNat_and, BitVec.toNat_ofNat, BitVec.toNat_ofNat, Nat.mod_eq_of_lt ha, Nat.mod_eq_of_lt hb]
  have h := (BitVec.ofNat 64 a &&& BitVec.ofNat 64 b).isLt
  show IntKind.u64.wrap (((BitVec.ofNat 64 a &&& BitVec.ofNat 64 b).toNat : Nat) : Int) = _
  rw [e] at h ⊢
  simp only [IntKind.wrap, IntKind.bits, IntKind.signed]
  simp
  omega
end Go.Proofs.YtplhihakeodadaaDoor.Sg
