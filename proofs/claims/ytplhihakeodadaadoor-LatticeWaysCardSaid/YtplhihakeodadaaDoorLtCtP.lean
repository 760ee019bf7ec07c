/- lattice: what count counts, plainly: the ways to a set, set by set. -/
import Derived.Test.YtplhihakeodadaaDoorLtAcy
import Derived.Test.YtplhihakeodadaaDoorLtCntM
namespace Go.Proofs.YtplhihakeodadaaDoor.Sg
open Go Go.RowKit Go.Proofs.YtplhihakeodadaaDoor.IMap Go.Proofs.YtplhihakeodadaaDoorW.PrintWords Go.Proofs.YtplhihakeodadaaDoorW.PrintLast Go.Proofs.YtplhihakeodadaaDoorW.PrintMore
set_option linter.unusedVariables false
set_option linter.unusedSimpArgs false
theorem clr_bit (t i j : Nat) : (t ^^^ 2 ^ i).testBit j = (t.testBit j ^^ decide (i = j)) := by rw [Nat.testBit_xor, Nat.testBit_two_pow]
theorem clr_lt {t i : Nat} (h : t.testBit i = true) : t ^^^ 2 ^ i < t := by
  have h1 : t ^^^ 2 ^ i ≤ (t ^^^ 2 ^ i) ||| 2 ^ i := Nat.left_le_or
  have h2 : (t ^^^ 2 ^ i) ||| 2 ^ i = t := by
    refine Nat.eq_of_testBit_eq fun j => ?_
    rw [Nat.testBit_or, clr_bit, Nat.testBit_two_pow]
    by_cases c : i = j
    · subst c; simp [h]
    · simp [c]
  rw [h2] at h1
  rcases Nat.lt_or_eq_of_le h1 with h3 | h3
  · exact h3
  · have h4 := clr_bit t i i
    rw [h3, h] at h4
    simp at h4
theorem clr_add {t i : Nat} (h : t.testBit i = true) : (t ^^^ 2 ^ i) ||| 2 ^ i = t := by
  refine Nat.eq_of_testBit_eq fun j => ?_
  rw [Nat.testBit_or, clr_bit, Nat.testBit_two_pow]
  by_cases c : i = j
  · subst c; simp [h]
  · simp [c]
theorem add_clr {s i : Nat} (h : s.testBit i = false) : (s ||| 2 ^ i) ^^^ 2 ^ i = s := by
  refine Nat.eq_of_testBit_eq fun j => ?_
  rw [clr_bit, Nat.testBit_or, Nat.testBit_two_pow]
  by_cases c : i = j
  · subst c; simp [h]
  · simp [c]
theorem add_bit (s i : Nat) : (s ||| 2 ^ i).testBit i = true := by rw [Nat.testBit_or, Nat.testBit_two_pow]; simp
theorem sum_one {f g : Nat → Nat} {i : Nat} : ∀ {l : List Nat}, l.Nodup → i ∈ l → (∀ j ∈ l, j ≠ i → f j = g j) → (l.map f).sum + g i = (l.map g).sum + f i
  | [], _, h, _ => by simp at h
  | x :: l, hn, h, hj => by
    obtain ⟨h1, h2⟩ := List.nodup_cons.1 hn
    simp only [List.map_cons, List.sum_cons]
    rcases List.mem_cons.1 h with rfl | h
    · have : l.map f = l.map g := List.map_congr_left fun j hjl => hj j (by simp [hjl]) (fun e => h1 (e ▸ hjl))
      rw [this]; omega
    · have := sum_one h2 h fun j hjl => hj j (by simp [hjl])
      have hx := hj x (by simp) (fun e => h1 (e ▸ h))
      omega
theorem sum_same {f g : Nat → Nat} {l : List Nat} (h : ∀ j ∈ l, f j = g j) : (l.map f).sum = (l.map g).sum := by rw [List.map_congr_left h]
theorem sum_le {f g : Nat → Nat} : ∀ {l : List Nat}, (∀ j ∈ l, f j ≤ g j) → (l.map f).sum ≤ (l.map g).sum
  | [], _ => Nat.le_refl _
  | x :: l, h => by
    have := sum_le (l := l) fun j hj => h j (by simp [hj])
    have := h x (by simp)
    simp only [List.map_cons, List.sum_cons]
    omega
theorem sum_const (c : Nat) : ∀ l : List Nat, (l.map fun _ => c).sum = l.length * c
  | [] => by simp
  | x :: l => by rw [List.map_cons, List.sum_cons, sum_const c l, List.length_cons, Nat.succ_mul]; omega
theorem sum_pos {f : Nat → Nat} : ∀ {l : List Nat}, (l.map f).sum ≠ 0 → ∃ j ∈ l, f j ≠ 0
  | [], h => by simp at h
  | x :: l, h => by
    by_cases c : f x = 0
    · rw [List.map_cons, List.sum_cons, c, Nat.zero_add] at h
      obtain ⟨j, hj, h2⟩ := sum_pos h
      exact ⟨j, by simp [hj], h2⟩
    · exact ⟨x, by simp, c⟩
/-- How many of the nodes a set has. -/
def pop (N t : Nat) : Nat := ((List.range N).map fun i => if t.testBit i then 1 else 0).sum
theorem pop_add {N s i : Nat} (hi : i < N) (h : s.testBit i = false) : pop N (s ||| 2 ^ i) = pop N s + 1 := by
  have := sum_one (f := fun j => if (s ||| 2 ^ i).testBit j then 1 else 0) (g := fun j => if s.testBit j then 1 else 0) (i := i) (List.nodup_range (n := N)) (List.mem_range.2 hi) fun j _ hj => by
    simp only [Nat.testBit_or, Nat.testBit_two_pow, decide_eq_false (fun e : i = j => hj e.symm), Bool.or_false]
  simp only [add_bit, h, if_true] at this
  unfold pop
  simpa using this
theorem pop_clr {N t i : Nat} (hi : i < N) (h : t.testBit i = true) : pop N t = pop N (t ^^^ 2 ^ i) + 1 := by
  have := pop_add (s := t ^^^ 2 ^ i) hi (by rw [clr_bit, h]; simp)
  rwa [clr_add h] at this
theorem pop_le (N t : Nat) : pop N t ≤ N := by
  unfold pop
  refine Nat.le_trans (sum_le (g := fun _ => 1) fun j _ => by split <;> omega) ?_
  rw [sum_const]
  simp
theorem pop_zero (N : Nat) : pop N 0 = 0 := by
  unfold pop
  rw [sum_same (g := fun _ => 0) fun j _ => by simp, sum_const]
  simp
section
variable (E : List Stp) (N : Nat)
/-- The ways to a set. -/
def ways (t : Nat) : Nat := (if t = 0 then 1 else 0) + ((List.range N).map fun i => if h : t.testBit i = true then (if rdy E (t ^^^ 2 ^ i) i = true then ways (t ^^^ 2 ^ i) else 0) else 0).sum
termination_by t
decreasing_by exact clr_lt h
/-- Those of them that go by the steps of D. -/
def part (D : Nat → Nat → Bool) (t : Nat) : Nat := (if t = 0 then 1 else 0) + ((List.range N).map fun i => if t.testBit i = true ∧ rdy E (t ^^^ 2 ^ i) i = true ∧ D (t ^^^ 2 ^ i) i = true then ways E N (t ^^^ 2 ^ i) else 0).sum
end
variable {E : List Stp} {N : Nat}
theorem ways_eq (t : Nat) : ways E N t = (if t = 0 then 1 else 0) + ((List.range N).map fun i => if t.testBit i = true ∧ rdy E (t ^^^ 2 ^ i) i = true then ways E N (t ^^^ 2 ^ i) else 0).sum := by
  rw [ways]
  congr 1
  refine sum_same fun i _ => ?_
  by_cases c : t.testBit i = true
  · simp [c]
  · simp [c]
theorem part_le (D : Nat → Nat → Bool) (t : Nat) : part E N D t ≤ ways E N t := by
  rw [ways_eq, part]
  refine Nat.add_le_add_left (sum_le fun i _ => ?_) _
  split
  · rename_i h; rw [if_pos ⟨h.1, h.2.1⟩]; exact Nat.le_refl _
  · exact Nat.zero_le _
theorem part_congr {D D' : Nat → Nat → Bool} (h : ∀ s i, i < N → rdy E s i = true → ways E N s ≠ 0 → D s i = D' s i) (t : Nat) : part E N D t = part E N D' t := by
  unfold part
  congr 1
  refine sum_same fun i hi => ?_
  by_cases c : t.testBit i = true ∧ rdy E (t ^^^ 2 ^ i) i = true
  · by_cases c2 : ways E N (t ^^^ 2 ^ i) = 0
    · rw [c2]; simp
    · rw [h _ i (List.mem_range.1 hi) c.2 c2]
  · rw [if_neg (fun e => c ⟨e.1, e.2.1⟩), if_neg (fun e => c ⟨e.1, e.2.1⟩)]
theorem part_full {D : Nat → Nat → Bool} (t : Nat) (h : ∀ i, i < N → t.testBit i = true → rdy E (t ^^^ 2 ^ i) i = true → ways E N (t ^^^ 2 ^ i) ≠ 0 → D (t ^^^ 2 ^ i) i = true) : part E N D t = ways E N t := by
  rw [ways_eq, part]
  congr 1
  refine sum_same fun i hi => ?_
  by_cases c : t.testBit i = true ∧ rdy E (t ^^^ 2 ^ i) i = true
  · by_cases c2 : ways E N (t ^^^ 2 ^ i) = 0
    · rw [c2]; simp
    · rw [h i (List.mem_range.1 hi) c.1 c.2 c2]; simp
  · rw [if_neg (fun e => c ⟨e.1, e.2.1⟩), if_neg c]
theorem rdy_clear {s i : Nat} (h : rdy E s i = true) : s.testBit i = false := by
  unfold rdy at h
  rw [Bool.and_eq_true] at h
  simpa using h.1
/-- One step more. -/
theorem part_add {D : Nat → Nat → Bool} {s i : Nat} (hi : i < N) (hr : rdy E s i = true) (hD : D s i = false) (t : Nat) :
    part E N (fun a b => D a b || (a == s && b == i)) t = part E N D t + (if t = s ||| 2 ^ i then ways E N s else 0) := by
  have hs := rdy_clear hr
  unfold part
  have := sum_one (f := fun j => if t.testBit j = true ∧ rdy E (t ^^^ 2 ^ j) j = true ∧ (D (t ^^^ 2 ^ j) j || (t ^^^ 2 ^ j == s && j == i)) = true then ways E N (t ^^^ 2 ^ j) else 0) (g := fun j => if t.testBit j = true ∧ rdy E (t ^^^ 2 ^ j) j = true ∧ D (t ^^^ 2 ^ j) j = true then ways E N (t ^^^ 2 ^ j) else 0) (i := i) (List.nodup_range (n := N)) (List.mem_range.2 hi) fun j _ hj => by
    simp only [show (j == i) = false from beq_eq_false_iff_ne.2 hj, Bool.and_false, Bool.or_false]
  by_cases c : t = s ||| 2 ^ i
  · subst c
    simp only [add_bit, add_clr hs, hr, hD, BEq.rfl, Bool.and_self, Bool.or_true, true_and, if_true, Bool.false_eq_true, if_false] at this
    simp only [if_true]
    omega
  · have e : ∀ j, j = i → t.testBit j = true → (t ^^^ 2 ^ j == s) = false := fun j hj hb => by
      subst hj
      rw [beq_eq_false_iff_ne]
      intro h
      exact c (by rw [← h, clr_add hb])
    rw [if_neg c]
    have e2 : (if t.testBit i = true ∧ rdy E (t ^^^ 2 ^ i) i = true ∧ (D (t ^^^ 2 ^ i) i || (t ^^^ 2 ^ i == s && i == i)) = true then ways E N (t ^^^ 2 ^ i) else 0) = (if t.testBit i = true ∧ rdy E (t ^^^ 2 ^ i) i = true ∧ D (t ^^^ 2 ^ i) i = true then ways E N (t ^^^ 2 ^ i) else 0) := by
      by_cases hb : t.testBit i = true
      · rw [e i rfl hb]; simp
      · rw [if_neg (fun h => hb h.1), if_neg (fun h => hb h.1)]
    simp only [e2] at this
    dsimp only at this ⊢
    omega
/-- Its own steps lead to no set twice: a set is left out just where it has no ways. -/
theorem ways_some {t : Nat} (h : ways E N t ≠ 0) : t = 0 ∨ ∃ i, i < N ∧ t.testBit i = true ∧ rdy E (t ^^^ 2 ^ i) i = true ∧ ways E N (t ^^^ 2 ^ i) ≠ 0 := by
  by_cases c : t = 0
  · exact .inl c
  · right
    rw [ways_eq, if_neg c, Nat.zero_add] at h
    obtain ⟨i, hi, h2⟩ := sum_pos h
    by_cases c2 : t.testBit i = true ∧ rdy E (t ^^^ 2 ^ i) i = true
    · rw [if_pos c2] at h2
      exact ⟨i, List.mem_range.1 hi, c2.1, c2.2, h2⟩
    · rw [if_neg c2] at h2
      exact absurd rfl h2
theorem ways_zero : ways E N 0 = 1 := by
  rw [ways_eq, if_pos rfl, sum_same (g := fun _ => 0) fun i _ => by simp, sum_const]
  simp
theorem ways_lt : ∀ (t : Nat), ways E N t ≠ 0 → t < 2 ^ N := by
  intro t
  induction t using Nat.strongRecOn with
  | _ t ih =>
    intro h
    rcases ways_some h with rfl | ⟨i, hi, hb, _, hw⟩
    · exact Nat.two_pow_pos N
    · have := ih _ (clr_lt hb) hw
      rw [← clr_add hb]
      exact Nat.or_lt_two_pow this (Nat.pow_lt_pow_right (by decide) hi)
theorem ways_bound : ∀ (t : Nat), ways E N t ≤ N ^ pop N t := by
  intro t
  induction t using Nat.strongRecOn with
  | _ t ih =>
    by_cases c : ways E N t = 0
    · rw [c]; exact Nat.zero_le _
    · rcases ways_some c with rfl | ⟨i, hi, hb, _, hw⟩
      · rw [ways_zero, pop_zero]; exact Nat.le_refl _
      · have ht : t ≠ 0 := fun e => by rw [e, Nat.zero_testBit] at hb; cases hb
        rw [ways_eq, if_neg ht, Nat.zero_add, pop_clr hi hb, Nat.pow_succ, Nat.mul_comm]
        refine Nat.le_trans (sum_le (g := fun _ => N ^ pop N (t ^^^ 2 ^ i)) fun j hj => ?_) (by rw [sum_const, List.length_range]; exact Nat.le_refl _)
        split
        · rename_i h
          have := ih _ (clr_lt h.1)
          have e : pop N (t ^^^ 2 ^ j) = pop N (t ^^^ 2 ^ i) := by
            have h1 := pop_clr (List.mem_range.1 hj) h.1
            have h2 := pop_clr hi hb
            omega
          rw [← e]; exact this
        · exact Nat.zero_le _
theorem ways_small (hN : N ≤ 10) (t : Nat) : ways E N t ≤ 10000000000 := by
  refine Nat.le_trans (ways_bound t) (Nat.le_trans (Nat.pow_le_pow_left hN _) ?_)
  exact Nat.le_trans (Nat.pow_le_pow_right (by decide) (Nat.le_trans (pop_le N t) hN)) (by decide)
theorem ways_step {s i : Nat} (hi : i < N) (hr : rdy E s i = true) (h : ways E N s ≠ 0) : ways E N (s ||| 2 ^ i) ≠ 0 := by
  have h1 := part_le (E := E) (N := N) (fun a b => (fun _ _ => false) a b || (a == s && b == i)) (s ||| 2 ^ i)
  rw [part_add (D := fun _ _ => false) hi hr rfl, if_pos rfl] at h1
  omega
end Go.Proofs.YtplhihakeodadaaDoor.Sg
