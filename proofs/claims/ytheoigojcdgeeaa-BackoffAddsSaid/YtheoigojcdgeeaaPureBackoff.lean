import Derived.Test.YtheoigojcdgeeaaEvC
import Derived.Test.YtheoigojcdgeeaaPx
namespace Go.Proofs.Ytheoigojcdgeeaa.Pure
open Go.RowKit Go.Proofs.Ytheoigojcdgeeaa.P Go.Proofs.YtheoigojcdgeeaaW.PrintWords Go.Proofs.YtheoigojcdgeeaaW.PrintLast Go.Proofs.YtheoigojcdgeeaaW.PrintMore
set_option linter.unusedVariables false
set_option linter.unusedSimpArgs false

theorem anchor_ev : Ev (fun k => slipwaylaw16_anchor.f k) true := ⟨200, fun _ hk => if_pos hk⟩
def Right (b c : Int) : Prop := 0 ≤ b ∧ 0 ≤ c ∧ b ≤ 1048576 ∧ c ≤ 1048576
instance (b c : Int) : Decidable (Right b c) := by unfold Right; exact inferInstance
theorem right_p (b c : Int) : backoff_right.f b c = some (decide (Right b c)) := by
  unfold backoff_right.f Right
  rw [mn_eq, mx_eq]
  split
  · congr 1; exact decide_eq_decide.2 (by omega)
  · congr 1; symm; exact decide_eq_false (by omega)
theorem right_d (b c : Int) : slipwaylaw16_right.f b c = some (decide (Right b c)) := by
  unfold slipwaylaw16_right.f Right
  repeat' split
  · congr 1; exact decide_eq_decide.2 (by omega)
  all_goals (congr 1; symm; exact decide_eq_false (by omega))
/-- The wait, of whole numbers from nothing. -/
def W (b c : Nat) (n : Nat) : Nat := min (b * 2 ^ (n - 1)) c
theorem W_cap (b c m n : Nat) (hc : c ≤ 1048576) (hm : 22 ≤ m) (hn : m ≤ n) : W b c n = W b c m := by
  unfold W
  rcases Nat.eq_zero_or_pos b with rfl | hb
  · simp
  · have h1 : 2 ^ 21 ≤ 2 ^ (m - 1) := Nat.pow_le_pow_right (by decide) (by omega)
    have h2 : 2 ^ 21 ≤ 2 ^ (n - 1) := Nat.pow_le_pow_right (by decide) (by omega)
    have h3 : 2 ^ (m - 1) ≤ b * 2 ^ (m - 1) := Nat.le_mul_of_pos_left _ hb
    have h4 : 2 ^ (n - 1) ≤ b * 2 ^ (n - 1) := Nat.le_mul_of_pos_left _ hb
    have h5 : (2 : Nat) ^ 21 = 2097152 := by decide
    omega
theorem len_ev : Ev (fun k => bits_Len.f k 1048576) 21 := Ev.of (fun k => bits_Len.mono 1048576 k) (k := 10) (by kernel_rfl)
theorem shl_nat (b j : Nat) (hb : b ≤ 1048576) (hj : j ≤ 30) : shl .i64 (b : Int) (j : Int) = ((b * 2 ^ j : Nat) : Int) := by
  unfold shl
  rw [Int.toNat_natCast, show min j IntKind.i64.bits = j from Nat.min_eq_left (Nat.le_trans hj (by decide)), IntKind.wrap_i64]
  have h1 : 2 ^ j ≤ 2 ^ 30 := Nat.pow_le_pow_right (by decide) hj
  have h2 : b * 2 ^ j ≤ 1048576 * 2 ^ 30 := Nat.mul_le_mul hb h1
  rw [show (2 : Nat) ^ 30 = 1073741824 by decide] at h2
  have e : (b : Int) * 2 ^ j = ((b * 2 ^ j : Nat) : Int) := by push_cast; rfl
  rw [e]
  omega
theorem mn_nat (a b : Nat) : mn (a : Int) (b : Int) = ((min a b : Nat) : Int) := by rw [mn_eq]; omega
theorem Wait_ev (b c n : Nat) (hb : b ≤ 1048576) (hc : c ≤ 1048576) (h1 : 1 ≤ n) (hn : n < 9223372036854775808) :
    Ev (fun k => backoff_Wait.f k (b : Int) (c : Int) (n : Int)) (((W b c n : Nat) : Int), 0) := by
  unfold backoff_Wait.f
  simp only [right_p, Option.bind_some]
  refine Ev_pos (decide_eq_true ⟨by omega, by omega, by omega, by omega⟩) (Ev_succ ?_)
  simp only [backoff_Wait.j0]
  refine Ev_neg (by rw [decide_eq_false (by omega)]; decide) (Ev.bind len_ev ?_)
  by_cases h : 22 < n
  · refine Ev_pos (by rw [show wrap64 (21 + 1) = 22 by unfold wrap64; omega]; omega) (Ev.bind len_ev ?_)
    refine Ev_pos (by unfold wrap64; omega) (Ev_some ?_)
    rw [show wrap64 (wrap64 (21 + 1) - 1) = ((21 : Nat) : Int) by unfold wrap64; omega, shl_nat b 21 hb (by omega), mn_nat, W_cap b c 22 n hc (by omega) (by omega)]
    rfl
  · refine Ev_neg (by rw [show wrap64 (21 + 1) = 22 by unfold wrap64; omega]; omega) ?_
    have e : wrap64 ((n : Int) - 1) = ((n - 1 : Nat) : Int) := by rw [w64 (by omega) (by omega)]; omega
    rw [e]
    refine Ev_pos (by omega) (Ev_some ?_)
    rw [shl_nat b (n - 1) hb (by omega), mn_nat]
    rfl
theorem Wait_bad (b c n : Int) (h : ¬ (Right b c ∧ 1 ≤ n)) : Ev (fun k => backoff_Wait.f k b c n) (0, 12) := by
  unfold backoff_Wait.f
  simp only [right_p, Option.bind_some]
  by_cases hr : Right b c
  · have h' : ¬ 1 ≤ n := fun x => h ⟨hr, x⟩
    refine Ev_pos (decide_eq_true hr) (Ev_succ ?_)
    simp only [backoff_Wait.j0]
    exact Ev_pos (decide_eq_true (by omega)) (Ev.now _)
  · refine Ev_neg (by rw [decide_eq_false hr]; decide) (Ev_succ ?_)
    simp only [backoff_Wait.j0]
    exact Ev_pos (by first | rfl | trivial) (Ev.now _)
/-- The document's, from a round on. -/
theorem wait_loop (b c n : Nat) (hb : b ≤ 1048576) (hc : c ≤ 1048576) (hn : n < 9223372036854775808) (d : Nat) : ∀ j, 1 ≤ j → j + d = min (max n 1) 30 →
    Ev (fun k => slipwaylaw16_wait.l0 k (c : Int) (n : Int) ((b * 2 ^ (j - 1) : Nat) : Int) (j : Int)) ((W b c n : Nat) : Int) := by
  induction d with
  | zero =>
    intro j hj e
    have hw : ((min (b * 2 ^ (j - 1)) c : Nat) : Int) = ((W b c n : Nat) : Int) := by
      show ((W b c j : Nat) : Int) = _
      rcases Nat.lt_or_ge 30 n with h | h
      · rw [W_cap b c j n hc (by omega) (by omega)]
      · rcases Nat.eq_zero_or_pos n with rfl | h0
        · obtain rfl : j = 1 := by omega
          rfl
        · obtain rfl : j = n := by omega
          rfl
    refine Ev_succ ?_
    simp only [slipwaylaw16_wait.l0]
    by_cases h : (j : Int) < (n : Int)
    · refine Ev_pos h (Ev_neg (by omega) (Ev_some ?_))
      rw [mn_nat, hw]
    · refine Ev_neg h (Ev_some ?_)
      rw [mn_nat, hw]
  | succ d ih =>
    intro j hj e
    refine Ev_succ ?_
    simp only [slipwaylaw16_wait.l0]
    refine Ev_pos (by omega) (Ev_pos (by omega) ?_)
    have h1 : 2 ^ (j - 1) ≤ 2 ^ 29 := Nat.pow_le_pow_right (by decide) (by omega)
    have h2 : b * 2 ^ (j - 1) ≤ 1048576 * 2 ^ 29 := Nat.mul_le_mul hb h1
    have e1 : wrap64 (((b * 2 ^ (j - 1) : Nat) : Int) * 2) = ((b * 2 ^ (j + 1 - 1) : Nat) : Int) := by
      rw [show b * 2 ^ (j + 1 - 1) = b * 2 ^ (j - 1) * 2 by rw [Nat.mul_assoc, ← Nat.pow_succ, show (j - 1).succ = j + 1 - 1 by omega]]
      rw [show (2 : Nat) ^ 29 = 536870912 by decide] at h2
      generalize b * 2 ^ (j - 1) = x at h2
      rw [w64 (by omega) (by omega)]
      omega
    have e2 : wrap64 ((j : Int) + 1) = ((j + 1 : Nat) : Int) := by rw [w64 (by omega) (by omega)]; omega
    rw [e1, e2]
    clear e1 e2 h1 h2
    exact ih (j + 1) (by omega) (by omega)
theorem wait_ev (b c n : Nat) (hb : b ≤ 1048576) (hc : c ≤ 1048576) (hn : n < 9223372036854775808) :
    Ev (fun k => slipwaylaw16_wait.f k (b : Int) (c : Int) (n : Int)) ((W b c n : Nat) : Int) := by
  have h := wait_loop b c n hb hc hn (min (max n 1) 30 - 1) 1 (by omega) (by omega)
  rw [show b * 2 ^ (1 - 1) = b by simp] at h
  exact h
theorem W_le (b c n : Nat) : W b c n ≤ c := Nat.min_le_right _ _
theorem W_mono (b c n : Nat) : W b c n ≤ W b c (n + 1) := by
  unfold W
  have h1 : 2 ^ (n - 1) ≤ 2 ^ (n + 1 - 1) := Nat.pow_le_pow_right (by decide) (by omega)
  have h2 : b * 2 ^ (n - 1) ≤ b * 2 ^ (n + 1 - 1) := Nat.mul_le_mul_left _ h1
  omega
theorem nat_of {x : Int} (h : 0 ≤ x) : ∃ n : Nat, x = (n : Int) := ⟨x.toNat, by omega⟩
theorem BackoffWaits (b : Int) (hb : (Lit.int .i64 b).wf = true) (c : Int) (hc : (Lit.int .i64 c).wf = true) (n : Int) (hn : (Lit.int .i64 n).wf = true) :
    ∃ k, slipwaylaw16_BackoffWaits.f k b c n = some true := by
  refine Ev.rounds (g := fun k => slipwaylaw16_BackoffWaits.f k b c n) ?_
  have hn := wf64 hn
  unfold slipwaylaw16_BackoffWaits.f
  refine Ev.bind anchor_ev (Ev_pos (by first | rfl | trivial) ?_)
  by_cases h : Right b c ∧ 1 ≤ n
  · obtain ⟨⟨h1, h2, h3, h4⟩, h5⟩ := h
    obtain ⟨b, rfl⟩ := nat_of h1
    obtain ⟨c, rfl⟩ := nat_of h2
    obtain ⟨n, rfl⟩ := nat_of (show 0 ≤ n by omega)
    refine Ev.bind (Wait_ev b c n (by omega) (by omega) (by omega) (by omega)) ?_
    simp only [right_d, Option.bind_some]
    refine Ev_pos (decide_eq_true ⟨h1, h2, h3, h4⟩) (Ev_succ ?_)
    simp only [slipwaylaw16_BackoffWaits.j0]
    refine Ev_neg (by rw [decide_eq_false (by omega)]; decide) (Ev_pos (by first | rfl | trivial) (Ev.bind (wait_ev b c n (by omega) (by omega) (by omega)) (Ev_succ ?_)))
    simp only [slipwaylaw16_BackoffWaits.j1]
    refine Ev_neg (by simp) ?_
    by_cases hm : (n : Int) = 9223372036854775807
    · exact Ev_pos hm (Ev.now _)
    · refine Ev_neg hm ?_
      rw [show wrap64 ((n : Int) + 1) = ((n + 1 : Nat) : Int) by rw [w64 (by omega) (by omega)]; omega]
      refine Ev.bind (Wait_ev b c (n + 1) (by omega) (by omega) (by omega) (by omega)) (Ev_pos (by first | rfl | trivial) ?_)
      have m1 := W_mono b c n
      have m2 := W_le b c (n + 1)
      refine Ev_pos (by show ((W b c (n + 1) : Nat) : Int) ≥ ((W b c n : Nat) : Int); omega) (Ev_some (decide_eq_true (by show ((W b c (n + 1) : Nat) : Int) ≤ (c : Int); omega)))
  · refine Ev.bind (Wait_bad b c n h) ?_
    simp only [right_d, Option.bind_some]
    by_cases hr : Right b c
    · have h' : ¬ 1 ≤ n := fun x => h ⟨hr, x⟩
      refine Ev_pos (decide_eq_true hr) (Ev_succ ?_)
      simp only [slipwaylaw16_BackoffWaits.j0]
      refine Ev_pos (decide_eq_true (by omega)) (Ev_pos (by first | rfl | trivial) (Ev.now _))
    · refine Ev_neg (by rw [decide_eq_false hr]; decide) (Ev_succ ?_)
      simp only [slipwaylaw16_BackoffWaits.j0]
      exact Ev_pos (by first | rfl | trivial) (Ev_pos (by first | rfl | trivial) (Ev.now _))
/-- The waits together. -/
def S (b c : Nat) : Nat → Nat
  | 0 => 0
  | n + 1 => S b c n + W b c (n + 1)
theorem S_le (b c n : Nat) : S b c n ≤ n * c := by
  induction n with
  | zero => simp [S]
  | succ n ih =>
    have := W_le b c (n + 1)
    rw [S, Nat.add_mul]
    omega
theorem S_lt (b c n : Nat) (hc : c ≤ 1048576) (hn : n ≤ 1000001) : S b c n ≤ 1048577048576 :=
  Nat.le_trans (S_le b c n) (Nat.le_trans (Nat.mul_le_mul hn hc) (by decide))
theorem Total_loop (b c n : Nat) (hb : b ≤ 1048576) (hc : c ≤ 1048576) (hn : n ≤ 1000000) (d : Nat) : ∀ j, j + d = n →
    Ev (fun k => backoff_Total.l0 k (b : Int) (c : Int) (n : Int) ((S b c j : Nat) : Int) ((j + 1 : Nat) : Int)) (((S b c n : Nat) : Int), 0) := by
  induction d with
  | zero =>
    intro j e
    obtain rfl : j = n := by omega
    refine Ev_succ ?_
    simp only [backoff_Total.l0]
    exact Ev_neg (by omega) (Ev.now _)
  | succ d ih =>
    intro j e
    refine Ev_succ ?_
    simp only [backoff_Total.l0]
    refine Ev_pos (by omega) (Ev.bind (Wait_ev b c (j + 1) hb hc (by omega) (by omega)) ?_)
    have h1 := S_lt b c (j + 1) hc (by omega)
    have e1 : wrap64 (((S b c j : Nat) : Int) + ((W b c (j + 1) : Nat) : Int)) = ((S b c (j + 1) : Nat) : Int) := by
      rw [S] at h1 ⊢
      rw [w64 (by omega) (by omega)]
      omega
    have e2 : wrap64 (((j + 1 : Nat) : Int) + 1) = ((j + 1 + 1 : Nat) : Int) := by rw [w64 (by omega) (by omega)]; omega
    simp only [e1, e2]
    exact ih (j + 1) (by omega)
theorem Total_ev (b c n : Nat) (hb : b ≤ 1048576) (hc : c ≤ 1048576) (hn : n ≤ 1000000) :
    Ev (fun k => backoff_Total.f k (b : Int) (c : Int) (n : Int)) (((S b c n : Nat) : Int), 0) := by
  unfold backoff_Total.f
  simp only [right_p, Option.bind_some]
  refine Ev_pos (decide_eq_true ⟨by omega, by omega, by omega, by omega⟩) (Ev_neg (by omega) (Ev_succ ?_))
  simp only [backoff_Total.j0]
  refine Ev_neg (by rw [decide_eq_false (by omega)]; decide) ?_
  exact Total_loop b c n hb hc hn n 0 (by omega)
theorem Total_bad (b c n : Int) (h : ¬ (Right b c ∧ 0 ≤ n ∧ n ≤ 1000000)) : Ev (fun k => backoff_Total.f k b c n) (0, 12) := by
  unfold backoff_Total.f
  simp only [right_p, Option.bind_some]
  have hj : ∀ x : Bool, x = true → Ev (fun k => backoff_Total.j0 k b c n x) (0, 12) := by
    rintro x rfl
    refine Ev_succ ?_
    simp only [backoff_Total.j0]
    exact Ev_pos (by first | rfl | trivial) (Ev.now _)
  by_cases hr : Right b c
  · have h' : ¬ (0 ≤ n ∧ n ≤ 1000000) := fun x => h ⟨hr, x⟩
    refine Ev_pos (decide_eq_true hr) ?_
    by_cases h0 : n < 0
    · exact Ev_pos h0 (hj _ rfl)
    · exact Ev_neg h0 (hj _ (decide_eq_true (by omega)))
  · exact Ev_neg (by rw [decide_eq_false hr]; decide) (hj _ rfl)
theorem Totals_loop (b c n : Nat) (hb : b ≤ 1048576) (hc : c ≤ 1048576) (hn : n ≤ 1000000) (d : Nat) : ∀ j, j + d = n →
    Ev (fun k => slipwaylaw16_BackoffTotals.l0 k (b : Int) (c : Int) (n : Int) ((S b c n : Nat) : Int) 0 ((S b c j : Nat) : Int) ((j + 1 : Nat) : Int)) true := by
  induction d with
  | zero =>
    intro j e
    obtain rfl : j = n := by omega
    refine Ev_succ ?_
    simp only [slipwaylaw16_BackoffTotals.l0]
    exact Ev_neg (by omega) (Ev_pos (by first | rfl | trivial) (Ev_some (by simp)))
  | succ d ih =>
    intro j e
    refine Ev_succ ?_
    simp only [slipwaylaw16_BackoffTotals.l0]
    refine Ev_pos (by omega) (Ev.bind (wait_ev b c (j + 1) hb hc (by omega)) ?_)
    have h1 := S_lt b c (j + 1) hc (by omega)
    have e1 : wrap64 (((S b c j : Nat) : Int) + ((W b c (j + 1) : Nat) : Int)) = ((S b c (j + 1) : Nat) : Int) := by
      rw [S] at h1 ⊢
      rw [w64 (by omega) (by omega)]
      omega
    have e2 : wrap64 (((j + 1 : Nat) : Int) + 1) = ((j + 1 + 1 : Nat) : Int) := by rw [w64 (by omega) (by omega)]; omega
    simp only [e1, e2]
    exact ih (j + 1) (by omega)
theorem BackoffTotals (b : Int) (hb : (Lit.int .i64 b).wf = true) (c : Int) (hc : (Lit.int .i64 c).wf = true) (n : Int) (hn : (Lit.int .i64 n).wf = true) :
    ∃ k, slipwaylaw16_BackoffTotals.f k b c n = some true := by
  refine Ev.rounds (g := fun k => slipwaylaw16_BackoffTotals.f k b c n) ?_
  unfold slipwaylaw16_BackoffTotals.f
  refine Ev.bind anchor_ev (Ev_pos (by first | rfl | trivial) ?_)
  by_cases hm : 3000 < n ∧ n ≤ 1000000
  · refine Ev_pos (by omega) (Ev_succ ?_)
    simp only [slipwaylaw16_BackoffTotals.j0]
    exact Ev_pos (decide_eq_true hm.2) (Ev.now _)
  have go : ∀ x : Bool, x = false → Ev (fun k => slipwaylaw16_BackoffTotals.j0 k b c n x) true := by
    rintro x rfl
    refine Ev_succ ?_
    simp only [slipwaylaw16_BackoffTotals.j0]
    refine Ev_neg (by decide) ?_
    by_cases h : Right b c ∧ 0 ≤ n ∧ n ≤ 1000000
    · obtain ⟨⟨h1, h2, h3, h4⟩, h5, h6⟩ := h
      obtain ⟨b, rfl⟩ := nat_of h1
      obtain ⟨c, rfl⟩ := nat_of h2
      obtain ⟨n, rfl⟩ := nat_of h5
      refine Ev.bind (Total_ev b c n (by omega) (by omega) (by omega)) ?_
      simp only [right_d, Option.bind_some]
      refine Ev_pos (decide_eq_true ⟨h1, h2, h3, h4⟩) (Ev_neg (by omega) (Ev_succ ?_))
      simp only [slipwaylaw16_BackoffTotals.j1]
      refine Ev_neg (by rw [decide_eq_false (by omega)]; decide) ?_
      exact Totals_loop b c n (by omega) (by omega) (by omega) n 0 (by omega)
    · refine Ev.bind (Total_bad b c n h) ?_
      simp only [right_d, Option.bind_some]
      have hj : ∀ x : Bool, x = true → Ev (fun k => slipwaylaw16_BackoffTotals.j1 k b c n 0 12 x) true := by
        rintro x rfl
        refine Ev_succ ?_
        simp only [slipwaylaw16_BackoffTotals.j1]
        exact Ev_pos (by first | rfl | trivial) (Ev_pos (by first | rfl | trivial) (Ev.now _))
      by_cases hr : Right b c
      · have h' : ¬ (0 ≤ n ∧ n ≤ 1000000) := fun x => h ⟨hr, x⟩
        refine Ev_pos (decide_eq_true hr) ?_
        by_cases h0 : n < 0
        · exact Ev_pos h0 (hj _ rfl)
        · exact Ev_neg h0 (hj _ (decide_eq_true (by omega)))
      · exact Ev_neg (by rw [decide_eq_false hr]; decide) (hj _ rfl)
  by_cases h3 : n > 3000
  · exact Ev_pos h3 (go _ (decide_eq_false (by omega)))
  · exact Ev_neg h3 (go _ rfl)
theorem W_next (b c n : Nat) (h : 1 ≤ n) : W b c (n + 1) = min (2 * W b c n) c := by
  unfold W
  rw [show b * 2 ^ (n + 1 - 1) = 2 * (b * 2 ^ (n - 1)) by rw [show n + 1 - 1 = (n - 1) + 1 by omega, Nat.pow_succ]; rw [← Nat.mul_assoc, Nat.mul_comm]]
  omega
theorem W_zero (b c n : Nat) (h : W b c n = 0) (hc : 0 < c) : b = 0 := by
  unfold W at h
  have h1 : b * 2 ^ (n - 1) = 0 := by omega
  rcases Nat.mul_eq_zero.1 h1 with h2 | h2
  · exact h2
  · exact absurd h2 (Nat.pos_iff_ne_zero.1 (Nat.pow_pos (by decide)))
theorem BackoffAdds (b : Int) (hb : (Lit.int .i64 b).wf = true) (c : Int) (hc : (Lit.int .i64 c).wf = true) (n : Int) (hn : (Lit.int .i64 n).wf = true) :
    ∃ k, slipwaylaw16_BackoffAdds.f k b c n = some true := by
  refine Ev.rounds (g := fun k => slipwaylaw16_BackoffAdds.f k b c n) ?_
  unfold slipwaylaw16_BackoffAdds.f
  refine Ev.bind anchor_ev (Ev_pos (by first | rfl | trivial) ?_)
  simp only [right_d, Option.bind_some]
  have out : ∀ x : Bool, x = true → Ev (fun k => slipwaylaw16_BackoffAdds.j0 k b c n x) true := by
    rintro x rfl
    refine Ev_succ ?_
    simp only [slipwaylaw16_BackoffAdds.j0]
    exact Ev_pos (by first | rfl | trivial) (Ev.now _)
  by_cases hr : Right b c
  · refine Ev_pos (decide_eq_true hr) ?_
    by_cases h0 : n < 0
    · exact Ev_pos h0 (out _ rfl)
    refine Ev_neg h0 ?_
    by_cases h2 : n > 2000
    · exact out _ (decide_eq_true h2)
    rw [decide_eq_false h2]
    obtain ⟨h1, h5, h3, h4⟩ := hr
    clear out hb hc hn
    obtain ⟨b, rfl⟩ := nat_of h1
    obtain ⟨c, rfl⟩ := nat_of h5
    obtain ⟨n, rfl⟩ := nat_of (show 0 ≤ n by omega)
    refine Ev_succ ?_
    simp only [slipwaylaw16_BackoffAdds.j0]
    rw [show wrap64 ((n : Int) + 1) = ((n + 1 : Nat) : Int) by rw [w64 (by omega) (by omega)]; omega, show wrap64 ((n : Int) + 2) = ((n + 2 : Nat) : Int) by rw [w64 (by omega) (by omega)]; omega]
    refine Ev_neg (by decide) (Ev.bind (Total_ev b c n (by omega) (by omega) (by omega)) (Ev.bind (Wait_ev b c (n + 1) (by omega) (by omega) (by omega) (by omega)) (Ev.bind (Total_ev b c (n + 1) (by omega) (by omega) (by omega)) ?_)))
    refine Ev_pos (by first | rfl | trivial) (Ev_pos (by first | rfl | trivial) (Ev_pos (by first | rfl | trivial) ?_))
    have hs := S_lt b c (n + 1) (by omega) (by omega)
    refine Ev_pos (by
      show wrap64 (((S b c n : Nat) : Int) + ((W b c (n + 1) : Nat) : Int)) = ((S b c (n + 1) : Nat) : Int)
      rw [S] at hs ⊢
      rw [w64 (by omega) (by omega)]
      omega) ?_
    clear hs
    refine Ev.bind (Wait_ev b c (n + 2) (by omega) (by omega) (by omega) (by omega)) (Ev_pos (by first | rfl | trivial) ?_)
    have hn1 := W_next b c (n + 1) (by omega)
    have hz := W_zero b c (n + 1)
    have hle := W_le b c (n + 1)
    have hb0 : b = 0 → W b c (n + 1) = 0 := by rintro rfl; simp [W]
    show Ev (fun k => if ((W b c (n + 1) : Nat) : Int) = (c : Int) then _ else _) true
    simp only [show n + 1 + 1 = n + 2 from rfl] at hn1
    generalize W b c (n + 2) = v at *
    generalize W b c (n + 1) = u at *
    by_cases hu : u = c
    · refine Ev_pos (by omega) ?_
      obtain rfl : v = u := by omega
      exact Ev_pos (by simp) (Ev_pos (by first | rfl | trivial) (Ev.now _))
    · refine Ev_neg (by omega) ?_
      by_cases hv : v = u
      · have hb : b = 0 := hz (by omega) (by omega)
        refine Ev_pos (by simp [hv, hb]) (Ev_pos (by simp [hv]) (Ev.now _))
      · have hb : ¬ b = 0 := fun e => hv (by have := hb0 e; omega)
        refine Ev_pos (by rw [beq_eq_false_iff_ne.2 (show ((v : Int)) ≠ (u : Int) by omega), beq_eq_false_iff_ne.2 (show ((b : Int)) ≠ 0 by omega)]; rfl) (Ev_neg (by simp; omega) (Ev_some ?_))
        rw [w64 (by omega) (by omega), mn_eq]
        simp
        omega
  · refine Ev_neg (by rw [decide_eq_false hr]; decide) (out _ rfl)
end Go.Proofs.Ytheoigojcdgeeaa.Pure
