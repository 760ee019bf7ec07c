/- lattice: what count counts, plainly: the ways to a set, set by set. -/
import Derived.Test.YtplhihakeodadaaDoorLtAcy
import Derived.Test.YtplhihakeodadaaDoorLtCntM
namespace Go.Proofs.YtplhihakeodadaaDoor.Sg
open Go Go.RowKit Go.Proofs.YtplhihakeodadaaDoor.IMap Go.Proofs.YtplhihakeodadaaDoorW.PrintWords Go.Proofs.YtplhihakeodadaaDoorW.PrintLast Go.Proofs.YtplhihakeodadaaDoorW.PrintMore
set_option linter.unusedVariables false
set_option linter.unusedSimpArgs false
theorem clr_bit (t i j : Nat) : (t ^^^ 2 ^ i).testBit j = (t.testBit j ^^ decide (i = j)) := by rw [Nat.testBit_xor, Nat.testBit_two_pow]
theorem clr_lt {t i : Nat} (h : t.testBit i = true) : t ^^^ 2 ^ i < t := by
  have h1 : t ^^^ 2 ^ i ≤ (t ^^^ 2 ^ i) ||| 2 ^ i := Nat.left_le_or
  have h2 : (t ^^^ 2 ^ i) ||| 2 ^ i = t := by
    refine Nat.eq_of_testBit_eq fun j => ?_
    rw [Nat.testBit_or, clr_bit, Nat.testBit_two_pow]
    by_cases c : i = j
    · subst c; simp [h]
    · simp [c]
  rw [h2] at h1
  rcases Nat.lt_or_eq_of_le h1 with h3 | h3
  · exact h3
  · have h4 := clr_bit t i i
    rw [h3, h] at h4
    simp at h4
theorem clr_add {t i : Nat} (h : t.testBit i = true) : (t ^^^ 2 ^ i) ||| 2 ^ i = t := by
  refine Nat.eq_of_testBit_eq fun j => ?_
  rw [Nat.testBit_or, clr_bit, Nat.testBit_two_pow]
  by_cases c : i = j
  · subst c; simp [h]
  · simp [c]
theorem add_clr {s i : Nat} (h : s.testBit i = false) : (s ||| 2 ^ i) ^^^ 2 ^ i = s := by
  refine Nat.eq_of_testBit_eq fun j => ?_
  rw [clr_bit, Nat.testBit_or, Nat.testBit_two_pow]
  by_cases c : i = j
  · subst c; simp [h]
  · simp [c]
theorem add_bit (s i : Nat) : (s ||| 2 ^ i).testBit i = true := by rw [Nat.testBit_or, Nat.testBit_two_pow]; simp
theorem sum_one {f g : Nat → Nat} {i : Nat} : ∀ {l : List Nat}, l.Nodup → i ∈ l → (∀ j ∈ l, j ≠ i → f j = g j) → (l.map f).sum + g i = (l.map g).sum + f i
  | [], _, h, _ => by simp at h
  | x :: l, hn, h, hj => by
    obtain ⟨h1, h2⟩ := List.nodup_cons.1 hn
    simp only [List.map_cons, List.sum_cons]
    rcases List.mem_cons.1 h with rfl | h
    · have : l.map f = l.map g := List.map_congr_left fun j hjl => hj j (by simp [hjl]) (fun e => h1 (e ▸ hjl))
      rw [this]; omega
    · have := sum_one h2 h fun j hjl => hj j (by simp [hjl])
      have hx := hj x (by simp) (fun e => h1 (e ▸ h))
      omega
theorem sum_same {f g : Nat → Nat} {l : List Nat} (h : ∀ j ∈ l, f j = g j) : (l.map f).sum = (l.map g).sum := by rw [List.map_congr_left h]
theorem sum_le {f g : Nat → Nat} : ∀ {l : List Nat}, (∀ j ∈ l, f j ≤ g j) → (l.map f).sum ≤ (l.map g).sum
  | [], _ => Nat.le_refl _
  | x :: l, h => by
    have := sum_le (l := l) fun j hj => h j (by simp [hj])
    have := h x (by simp)
    simp only [List.map_cons, List.sum_cons]
    omega
theorem sum_const (c : Nat) : ∀ l : List Nat, (l.map fun _ => c).sum = l.length * c
  | [] => by simp
  | x :: l => by rw [List.map_cons, List.sum_cons, sum_const c l, List.length_cons, Nat.succ_mul]; omega
theorem sum_pos {f : Nat → Nat} : ∀ {l : List Nat}, (l.map f).sum ≠ 0 → ∃ j ∈ l, f j ≠ 0
  | [], h => by simp at h
  | x :: l, h => by
    by_cases c : f x = 0
    · rw [List.map_cons, List.sum_cons, c, Nat.zero_add] at h
      obtain ⟨j, hj, h2⟩ := sum_pos h
      exact ⟨j, by simp [hj], h2⟩
    · exact ⟨x, by simp, c⟩
/-- How many of the nodes a set has. -/
def pop (N t : Nat) : Nat := ((List.range N).map fun i => if t.testBit i then 1 else 0).sum
theorem pop_add {N s i : Nat} (hi : i < N) (h : s.testBit i = false) : pop N (s ||| 2 ^ i) = pop N s + 1 := by
  have := sum_one (f := fun j => if (s ||| 2 ^ i).testBit j then 1 else 0) (g := fun j => if s.testBit j then 1 else 0) (i := i) (List.nodup_range (n := N)) (List.mem_range.2 hi) fun j _ hj => by
    simp only [Nat.testBit_or, Nat.testBit_two_pow, decide_eq_false (fun e : i = j => hj e.symm), Bool.or_false]
  simp only [add_bit, h, if_true] at this
  unfold pop
  simpa using this
theorem pop_clr {N t i : Nat} (hi : i < N) (h : t.testBit i = true) : pop N t = pop N (t ^^^ 2 ^ i) + 1 := by
  have := pop_add (s := t ^^^ 2 ^ i) hi (by rw [clr_bit, h]; simp)
  rwa [clr_add h] at this
theorem pop_le (N t : Nat) : pop N t ≤ N := by
  unfold pop
  refine Nat.le_trans (sum_le (g := fun _ => 1) fun j _ => by split <;> omega) ?_
  rw [sum_const]
  simp
theorem pop_zero (N : Nat) : pop N 0 = 0 := by
  unfold pop
  rw [sum_same (g := fun _ => 0) fun j _ => by simp, sum_const]
  simp
section
variable (E : List Stp) (N : Nat)
/-- The ways to a set. -/
def ways (t : Nat) : Nat := (if t = 0 then 1 else 0) + ((List.range N).map fun i => if h : t.testBit i = true then (if rdy E (t ^^^ 2 ^ i) i = true then ways (t ^^^ 2 ^ i) else 0) else 0).sum
termination_by t
decreasing_by exact clr_lt h
/-- Those of them that go by the steps of D. -/
def part (D : Nat → Nat → Bool) (t : Nat) : Nat := (if t = 0 then 1 else 0) + ((List.range N).map fun i => if t.testBit i = true ∧ rdy E (t ^^^ 2 ^ i) i = true ∧ D (t ^^^ 2 ^ i) i = true then ways E N (t ^^^ 2 ^ i) else 0).sum
end
variable {E : List Stp} {N : Nat}
theorem ways_eq (t : Nat) : ways E N t = (if t = 0 then 1 else 0) + ((List.range N).map fun i => if t.testBit i = true ∧ rdy E (t ^^^ 2 ^ i) i = true then ways E N (t ^^^ 2 ^ i) else 0).sum := by
  rw [ways]
  congr 1
  refine sum_same fun i _ => ?_
  by_cases c : t.testBit i = true
  · simp [c]
  · simp [c]
theorem part_le (D : Nat → Nat → Bool) (t : Nat) : part E N D t ≤ ways E N t := by
  rw [ways_eq, part]
  refine Nat.add_le_add_left (sum_le fun i _ => ?_) _
  split
  · rename_i h; rw [if_pos ⟨h.1, h.2.1⟩]; exact Nat.le_refl _
  · exact Nat.zero_le _
theorem part_congr {D D' : Nat → Nat → Bool} (h : ∀ s i, i < N → rdy E s i = true → ways E N s ≠ 0 → D s i = D' s i) (t : Nat) : part E N D t = part E N D' t := by
  unfold part
  congr 1
  refine sum_same fun i hi => ?_
  by_cases c : t.testBit i = true ∧ rdy E (t ^^^ 2 ^ i) i = true
  · by_cases c2 : ways E N (t ^^^ 2 ^ i) = 0
    · rw [c2]; simp
    · rw [h _ i (List.mem_range.1 hi) c.2 c2]
  · rw [if_neg (fun e => c ⟨e.1, e.2.1⟩), if_neg (fun e => c ⟨e.1, e.2.1⟩)]
theorem part_full {D : Nat → Nat → Bool} (t : Nat) (h : ∀ i, i < N → t.testBit i = true → rdy E (t ^^^ 2 ^ i) i = true → ways E N (t ^^^ 2 ^ i) ≠ 0 → D (t ^^^ 2 ^ i) i = true) : part E N D t = ways E N t := by
  rw [ways_eq, part]
  congr 1
  refine sum_same fun i hi => ?_
  by_cases c : t.testBit i = true ∧ rdy E (t ^^^ 2 ^ i) i = true
  · by_cases c2 : ways E N (t ^^^ 2 ^ i) = 0
    · rw [c2]; simp
    · rw [h i (List.mem_range.1 hi) c.1 c.2 c2]; simp
  · rw [if_neg (fun e => c ⟨e.1, e.2.1⟩), if_neg c]
theorem rdy_clear {s i : Nat} (h : rdy E s i = true) : s.testBit i = false := by
  unfold rdy at h
  rw [Bool.and_eq_true] at h
  simpa using h.1
/-- One step more. -/
theorem part_add {D : Nat → Nat → Bool} {s i : Nat} (hi : i < N) (hr : rdy E s i = true) (hD : D s i = false) (t : Nat) :
    part E N (fun a b => D a b || (a == s && b == i)) t = part E N D t + (if t = s ||| 2 ^ i then ways E N s else 0) := by
  have hs := rdy_clear hr
  unfold part
  have := sum_one (f := fun j => if t.testBit j = true ∧ rdy E (t ^^^ 2 ^ j) j = true ∧ (D (t ^^^ 2 ^ j) j || (t ^^^ 2 ^ j == s && j == i)) = true then ways E N (t ^^^ 2 ^ j) else 0) (g := fun j => if t.testBit j = true ∧ rdy E (t ^^^ 2 ^ j) j = true ∧ D (t ^^^ 2 ^ j) j = true then ways E N (t ^^^ 2 ^ j) else 0) (i := i) (List.nodup_range (n := N)) (List.mem_range.2 hi) fun j _ hj => by
    simp only [show (j == i) = false from beq_eq_false_iff_ne.2 hj, Bool.and_false, Bool.or_false]
  by_cases c : t = s ||| 2 ^ i
  · subst c
    simp only [add_bit, add_clr hs, hr, hD, BEq.rfl, Bool.and_self, Bool.or_true, true_and, if_true, Bool.false_eq_true, if_false] at this
    simp only [if_true]
    omega
  · have e : ∀ j, j = i → t.testBit j = true → (t ^^^ 2 ^ j == s) = false := fun j hj hb => by
      subst hj
      rw [beq_eq_false_iff_ne]
      intro h
      exact c (by rw [← h, clr_add hb])
    rw [if_neg c]
    have e2 : (if t.testBit i = true ∧ rdy E (t ^^^ 2 ^ i) i = true ∧ (D (t ^^^ 2 ^ i) i || (t ^^^ 2 ^ i == s && i == i)) = true then ways E N (t ^^^ 2 ^ i) else 0) = (if t.testBit i = true ∧ rdy E (t ^^^ 2 ^ i) i = true ∧ D (t ^^^ 2 ^ i) i = true then ways E N (t ^^^ 2 ^ i) else 0) := by
      by_cases hb : t.testBit i = true
      · rw [e i rfl hb]; simp
      · rw [if_neg (fun h => hb h.1), if_neg (fun h => hb h.1)]
    simp only [e2] at this
    dsimp only at this ⊢
    omega
/-- Its own steps lead to no set twice: a set is left out just where it has no ways. -/
theorem ways_some {t : Nat} (h : ways E N t ≠ 0) : t = 0 ∨ ∃ i, i < N ∧ t.testBit i = true ∧ rdy E (t ^^^ 2 ^ i) i = true ∧ ways E N (t ^^^ 2 ^ i) ≠ 0 := by
  by_cases c : t = 0
  · exact .inl c
  · right
    rw [ways_eq, if_neg c, Nat.zero_add] at h
    obtain ⟨i, hi, h2⟩ := sum_pos h
    by_cases c2 : t.testBit i = true ∧ rdy E (t ^^^ 2 ^ i) i = true
    · rw [if_pos c2] at h2
      exact ⟨i, List.mem_range.1 hi, c2.1, c2.2, h2⟩
    · rw [if_neg c2] at h2
      exact absurd rfl h2
theorem ways_zero : ways E N 0 = 1 := by
  rw [ways_eq, if_pos rfl, sum_same (g := fun _ => 0) fun i _ => by simp, sum_const]
  simp
theorem ways_lt : ∀ (t : Nat), ways E N t ≠ 0 → t < 2 ^ N := by
  intro t
  induction t using Nat.strongRecOn with
  | _ t ih =>
    intro h
    rcases ways_some h with rfl | ⟨i, hi, hb, _, hw⟩
    · exact Nat.two_pow_pos N
    · have := ih _ (clr_lt hb) hw
      rw [← clr_add hb]
      exact Nat.or_lt_two_pow this (Nat.pow_lt_pow_right (by decide) hi)
theorem ways_bound : ∀ (t : Nat), ways E N t ≤ N ^ pop N t := by
  intro t
  induction t using Nat.strongRecOn with
  | _ t ih =>
    by_cases c : ways E N t = 0
    · rw [c]; exact Nat.zero_le _
    · rcases ways_some c with rfl | ⟨i, hi, hb, _, hw⟩
      · rw [ways_zero, pop_zero]; exact Nat.le_refl _
      · have ht : t ≠ 0 := fun e => by rw [e, Nat.zero_testBit] at hb; cases hb
        rw [ways_eq, if_neg ht, Nat.zero_add, pop_clr hi hb, Nat.pow_succ, Nat.mul_comm]
        refine Nat.le_trans (sum_le (g := fun _ => N ^ pop N (t ^^^ 2 ^ i)) fun j hj => ?_) (by rw [sum_const, List.length_range]; exact Nat.le_refl _)
        split
        · rename_i h
          have := ih _ (clr_lt h.1)
          have e : pop N (t ^^^ 2 ^ j) = pop N (t ^^^ 2 ^ i) := by
            have h1 := pop_clr (List.mem_range.1 hj) h.1
            have h2 := pop_clr hi hb
            omega
          rw [← e]; exact this
        · exact Nat.zero_le _
theorem ways_small (hN : N ≤ 10) (t : Nat) : ways E N t ≤ 10000000000 := by
  refine Nat.le_trans (ways_bound t) (Nat.le_trans (Nat.pow_le_pow_left hN _) ?_)
  exact Nat.le_trans (Nat.pow_le_pow_right (by decide) (Nat.le_trans (pop_le N t) hN)) (by decide)
theorem ways_step {s i : Nat} (hi : i < N) (hr : rdy E s i = true) (h : ways E N s ≠ 0) : ways E N (s ||| 2 ^ i) ≠ 0 := by
  have h1 := part_le (E := E) (N := N) (fun a b => (fun _ _ => false) a b || (a == s && b == i)) (s ||| 2 ^ i)
  rw [part_add (D := fun _ _ => false) hi hr rfl, if_pos rfl] at h1
  omega
end Go.Proofs.YtplhihakeodadaaDoor.Sg
namespace Go.Proofs.YtplhihakeodadaaDoor.Sg
open Go Go.RowKit Go.Proofs.YtplhihakeodadaaDoor.IMap Go.Proofs.YtplhihakeodadaaDoorW.PrintWords Go.Proofs.YtplhihakeodadaaDoorW.PrintLast Go.Proofs.YtplhihakeodadaaDoorW.PrintMore
set_option linter.unusedVariables false
set_option linter.unusedSimpArgs false
variable {E : List Stp} {N : Nat}
theorem pop_mono {s t : Nat} (h : Sub s t) : pop N s ≤ pop N t := sum_le fun i _ => by
  cases hs : s.testBit i with
  | false => simp
  | true => rw [h i hs]; simp
theorem ways_closed (hE : EdgesIn 64 E) : ∀ t, ways E N t ≠ 0 → Cl Prod.snd Prod.fst E t := by
  intro t
  induction t using Nat.strongRecOn with
  | _ t ih =>
    intro h
    rcases ways_some h with rfl | ⟨i, hi, hb, hr, hw⟩
    · exact cl_nil E
    · have := cl_add hE (ih _ (clr_lt hb) hw) hr
      rwa [clr_add hb] at this
theorem closed_chain (hE : EdgesIn 64 E) (hEN : ∀ e ∈ E, e.1.toNat < N ∧ e.2.toNat < N) (hc : ¬ Circ E N) {t : Nat} (ht : t < 2 ^ N) (hcl : Cl Prod.snd Prod.fst E t) : ∀ (k s : Nat), Sub s t → ways E N s ≠ 0 → pop N t ≤ pop N s + k → ways E N t ≠ 0 := by
  intro k
  induction k with
  | zero =>
    intro s hs hw hp
    rcases Classical.em (Sub t s) with c | c
    · rw [c.eq hs]; exact hw
    · exfalso
      obtain ⟨x, hx1, hx2⟩ : ∃ x, t.testBit x = true ∧ s.testBit x = false := by
        rcases Classical.em (∃ x, t.testBit x = true ∧ s.testBit x = false) with c2 | c2
        · exact c2
        · exact absurd (fun i hi => by
            cases hsi : s.testBit i with
            | true => rfl
            | false => exact absurd ⟨i, hi, hsi⟩ c2) c
      have hsub : Sub (s ||| 2 ^ x) t := fun i hi => by
        rw [Nat.testBit_or, Bool.or_eq_true, Nat.testBit_two_pow, decide_eq_true_eq] at hi
        rcases hi with hi | rfl
        · exact hs i hi
        · exact hx1
      have h1 := pop_mono (N := N) hsub
      rw [pop_add (bit_lt ht hx1) hx2] at h1
      omega
  | succ k ih =>
    intro s hs hw hp
    rcases Classical.em (Sub t s) with c | c
    · rw [c.eq hs]; exact hw
    · obtain ⟨x, hx1, hx2⟩ : ∃ x, t.testBit x = true ∧ s.testBit x = false := by
        rcases Classical.em (∃ x, t.testBit x = true ∧ s.testBit x = false) with c2 | c2
        · exact c2
        · exact absurd (fun i hi => by
            cases hsi : s.testBit i with
            | true => rfl
            | false => exact absurd ⟨i, hi, hsi⟩ c2) c
      have hN := bit_lt ht hx1
      have bit : ∀ j, (s ||| ((2 ^ N - 1) ^^^ t)).testBit j = (s.testBit j || (decide (j < N) ^^ t.testBit j)) := fun j => by rw [Nat.testBit_or, Nat.testBit_xor, mask_bit]
      obtain ⟨i, hi, hr⟩ := some_ready hE hEN hc (s ||| ((2 ^ N - 1) ^^^ t)) _ x (Nat.le_refl _) hN (by rw [bit, hx1, hx2, decide_eq_true hN]; rfl)
      obtain ⟨h1, h2⟩ := (rdy_iff hE).1 hr
      rw [bit, Bool.or_eq_false_iff, decide_eq_true hi] at h1
      have hti : t.testBit i = true := by
        have := h1.2
        cases hb : t.testBit i with
        | true => rfl
        | false => rw [hb] at this; cases this
      have hr2 : rdy E s i = true := (rdy_iff hE).2 ⟨h1.1, fun e he h3 => by
        have h4 := h2 e he h3
        have h5 := hcl e he (by rw [show (Prod.snd e).toNat = i from h3]; exact hti)
        rw [bit, show t.testBit e.1.toNat = true from h5, decide_eq_true (hEN e he).1] at h4
        simpa using h4⟩
      refine ih (s ||| 2 ^ i) (fun j hj => ?_) (ways_step hi hr2 hw) (by rw [pop_add hi h1.1]; omega)
      rw [Nat.testBit_or, Bool.or_eq_true, Nat.testBit_two_pow, decide_eq_true_eq] at hj
      rcases hj with hj | rfl
      · exact hs j hj
      · exact hti
/-- The sets with ways are the closed ones. -/
theorem ways_iff (hE : EdgesIn 64 E) (hEN : ∀ e ∈ E, e.1.toNat < N ∧ e.2.toNat < N) (hc : ¬ Circ E N) (t : Nat) : ways E N t ≠ 0 ↔ t < 2 ^ N ∧ Cl Prod.snd Prod.fst E t :=
  ⟨fun h => ⟨ways_lt t h, ways_closed hE t h⟩, fun h => closed_chain hE hEN hc h.1 h.2 _ 0 (fun i hi => by rw [Nat.zero_testBit] at hi; cases hi) (by rw [ways_zero]; decide) (Nat.le_add_left _ _)⟩
theorem part_some {D : Nat → Nat → Bool} {t : Nat} (h : part E N D t ≠ 0) : t = 0 ∨ ∃ i, i < N ∧ t.testBit i = true ∧ rdy E (t ^^^ 2 ^ i) i = true ∧ D (t ^^^ 2 ^ i) i = true := by
  by_cases c : t = 0
  · exact .inl c
  · right
    rw [part, if_neg c, Nat.zero_add] at h
    obtain ⟨i, hi, h2⟩ := sum_pos h
    by_cases c2 : t.testBit i = true ∧ rdy E (t ^^^ 2 ^ i) i = true ∧ D (t ^^^ 2 ^ i) i = true
    · exact ⟨i, List.mem_range.1 hi, c2⟩
    · rw [if_neg c2] at h2
      exact absurd rfl h2
theorem nd_sub : ∀ {l m : List Int}, l.Nodup → (∀ x ∈ l, x ∈ m) → l.length ≤ m.length
  | [], m, _, _ => Nat.zero_le _
  | a :: l, m, hl, h => by
    obtain ⟨h1, h2⟩ := List.nodup_cons.1 hl
    have ha : a ∈ m := h a (by simp)
    have hr := nd_sub (m := m.erase a) h2 fun x hx => (List.mem_erase_of_ne (fun e : x = a => h1 (e ▸ hx))).2 (h x (by simp [hx]))
    rw [List.length_erase_of_mem ha] at hr
    have := List.length_pos_of_mem ha
    simp only [List.length_cons]
    omega
/-- What is known between two steps of count, on its way to the row of level k. -/
structure CInv (E : List Stp) (N k : Nat) (D : Nat → Nat → Bool) (st : Ent × List Int) : Prop where
  nd : (keys st.1).Nodup
  get : ∀ t : Nat, IMap.get st.1 (t : Int) = if part E N D t = 0 then none else some ((part E N D t : Nat) : Int)
  inn : ∀ x ∈ keys st.1, ∃ t : Nat, t < 2 ^ N ∧ x = (t : Int)
  row : ∃ R : List Nat, st.2 = R.map Int.ofNat ∧ R.Nodup ∧ ∀ t, t ∈ R ↔ pop N t = k ∧ part E N D t ≠ 0
theorem CInv.congr {k : Nat} {D D' : Nat → Nat → Bool} {st : Ent × List Int} (h : CInv E N k D st) (hD : ∀ s i, i < N → rdy E s i = true → ways E N s ≠ 0 → D s i = D' s i) : CInv E N k D' st := by
  have e : part E N D = part E N D' := funext fun t => part_congr hD t
  exact ⟨h.nd, by rw [← e]; exact h.get, h.inn, by rw [← e]; exact h.row⟩
theorem CInv.len {k : Nat} {D : Nat → Nat → Bool} {st : Ent × List Int} (h : CInv E N k D st) : st.1.length ≤ 2 ^ N := by
  have := nd_sub (m := (List.range (2 ^ N)).map Int.ofNat) h.nd fun x hx => by
    obtain ⟨t, ht, rfl⟩ := h.inn x hx
    exact List.mem_map.2 ⟨t, List.mem_range.2 ht, rfl⟩
  simpa [keys] using this
theorem CInv.way {k : Nat} {D : Nat → Nat → Bool} {st : Ent × List Int} (h : CInv E N k D st) (t : Nat) : wayOf st.1 (t : Int) = ((part E N D t : Nat) : Int) := by
  unfold wayOf
  rw [h.get]
  by_cases c : part E N D t = 0
  · rw [if_pos c, c]; rfl
  · rw [if_neg c]; rfl
theorem ne_add {s i : Nat} (h : s.testBit i = false) : s ≠ s ||| 2 ^ i := fun e => by
  have := add_bit s i
  rw [← e, h] at this
  cases this
theorem addT_inv {k s i : Nat} {D : Nat → Nat → Bool} {st : Ent × List Int} (hN : N ≤ 10) (h : CInv E N (k + 1) D st) (hi : i < N) (hr : rdy E s i = true) (hD : D s i = false) (hs : s < 2 ^ N) (hp : pop N s = k) (hw : part E N D s = ways E N s) (hw0 : ways E N s ≠ 0) :
    okAdd s st i = true ∧ CInv E N (k + 1) (fun a b => D a b || (a == s && b == i)) (addT s st i) := by
  have hb := rdy_clear hr
  have hadd := part_add hi hr hD
  have hsum : part E N (fun a b => D a b || (a == s && b == i)) (s ||| 2 ^ i) = part E N D (s ||| 2 ^ i) + ways E N s := by rw [hadd, if_pos rfl]
  have hlt : s ||| 2 ^ i < 2 ^ N := Nat.or_lt_two_pow hs (Nat.pow_lt_pow_right (by decide) hi)
  refine ⟨?_, ⟨nodup_put h.nd _ _, fun t => ?_, fun x hx => ?_, ?_⟩⟩
  · unfold okAdd
    rw [decide_eq_true_eq, h.way, h.way, hw]
    have h1 := part_le (E := E) (N := N) (fun a b => D a b || (a == s && b == i)) (s ||| 2 ^ i)
    rw [hsum] at h1
    have h2 := ways_small (E := E) hN (s ||| 2 ^ i)
    omega
  · show IMap.get (IMap.put st.1 _ _) _ = _
    rw [get_put, h.way, h.way, hw, hadd]
    by_cases c : t = s ||| 2 ^ i
    · subst c
      rw [if_pos rfl, if_pos rfl, if_neg (by omega)]
      simp
    · rw [if_neg (by omega), if_neg c, Nat.add_zero]
      exact h.get t
  · rw [show keys (addT s st i).1 = _ from keys_put st.1 _ _] at hx
    by_cases c : ((s ||| 2 ^ i : Nat) : Int) ∈ keys st.1
    · rw [if_pos c] at hx
      exact h.inn x hx
    · rw [if_neg c] at hx
      rcases List.mem_append.1 hx with hx | hx
      · exact h.inn x hx
      · rw [List.mem_singleton] at hx
        exact ⟨_, hlt, hx⟩
  · obtain ⟨R, hR, hnd, hm⟩ := h.row
    unfold addT
    dsimp only
    rw [h.get]
    by_cases c : part E N D (s ||| 2 ^ i) = 0
    · rw [if_pos c]
      refine ⟨R ++ [s ||| 2 ^ i], by simp [hR], ?_, fun t => ?_⟩
      · rw [List.nodup_append]
        refine ⟨hnd, by simp, fun a ha b hb e => ?_⟩
        rw [List.mem_singleton] at hb
        subst hb
        subst e
        exact ((hm _).1 ha).2 c
      · rw [List.mem_append, List.mem_singleton, hm, hadd]
        constructor
        · rintro (⟨h1, h2⟩ | rfl)
          · exact ⟨h1, by omega⟩
          · exact ⟨by rw [pop_add hi hb, hp], by rw [if_pos rfl]; omega⟩
        · rintro ⟨h1, h2⟩
          by_cases c2 : t = s ||| 2 ^ i
          · exact .inr c2
          · rw [if_neg c2] at h2
            exact .inl ⟨h1, h2⟩
    · rw [if_neg c]
      refine ⟨R, hR, hnd, fun t => ?_⟩
      rw [hm, hadd]
      by_cases c2 : t = s ||| 2 ^ i
      · subst c2
        rw [if_pos rfl]
        constructor
        · rintro ⟨h1, h2⟩
          exact ⟨h1, by omega⟩
        · rintro ⟨h1, h2⟩
          exact ⟨h1, c⟩
      · rw [if_neg c2]
        exact Iff.rfl
theorem nodes_inv {k s : Nat} (hN : N ≤ 10) (hs : s < 2 ^ N) (hp : pop N s = k) (hw0 : ways E N s ≠ 0) : ∀ (l : List Nat) (D : Nat → Nat → Bool) (st : Ent × List Int), l.Nodup → (∀ i ∈ l, i < N ∧ rdy E s i = true ∧ D s i = false) → part E N D s = ways E N s → CInv E N (k + 1) D st →
    okNodes s l st = true ∧ CInv E N (k + 1) (fun a b => D a b || (a == s && l.contains b)) (l.foldl (addT s) st)
  | [], D, st, _, _, _, h => ⟨rfl, h.congr fun a b _ _ _ => by simp⟩
  | i :: l, D, st, hn, hl, hw, h => by
    obtain ⟨h1, h2⟩ := List.nodup_cons.1 hn
    obtain ⟨hi, hr, hD⟩ := hl i (by simp)
    obtain ⟨k1, k2⟩ := addT_inv hN h hi hr hD hs hp hw hw0
    obtain ⟨k3, k4⟩ := nodes_inv hN hs hp hw0 l _ _ h2 (fun j hj => by
      obtain ⟨h3, h4, h5⟩ := hl j (by simp [hj])
      refine ⟨h3, h4, ?_⟩
      have hne : j ≠ i := fun e => h1 (e ▸ hj)
      simp [h5, hne]) (by rw [part_add hi hr hD, if_neg (ne_add (rdy_clear hr)), hw, Nat.add_zero]) k2
    refine ⟨by unfold okNodes; rw [k1, k3]; rfl, ?_⟩
    rw [List.foldl_cons]
    refine k4.congr fun a b _ _ _ => ?_
    rw [List.contains_cons]
    cases D a b <;> cases (a == s) <;> cases (b == i) <;> rfl
def Dk (N k : Nat) (dn : List Nat) (a b : Nat) : Bool := decide (pop N a < k) || dn.contains a
theorem nodes_at {s i : Nat} (hN : N ≤ 10) : i ∈ nodes (accR E s N) ↔ i < N ∧ rdy E s i = true := by
  have h := Nat.lt_of_lt_of_le (accR_lt E s N) (Nat.pow_le_pow_right (by decide) (by omega) : 2 ^ N ≤ 2 ^ 64)
  rw [nodes_mem _ _ h, accR_bit, Bool.and_eq_true, decide_eq_true_eq]
theorem row_inv {k : Nat} (hN : N ≤ 10) : ∀ (rest dn : List Nat) (st : Ent × List Int), (dn ++ rest).Nodup → (∀ s ∈ rest, s < 2 ^ N ∧ pop N s = k ∧ ways E N s ≠ 0) → CInv E N (k + 1) (Dk N k dn) st →
    okRow E N (rest.map Int.ofNat) st = true ∧ CInv E N (k + 1) (Dk N k (dn ++ rest)) ((rest.map Int.ofNat).foldl (rowS E N) st)
  | [], dn, st, _, _, h => ⟨rfl, by simpa using h⟩
  | s :: rest, dn, st, hn, hl, h => by
    obtain ⟨hs, hp, hw0⟩ := hl s (by simp)
    have hsd : s ∉ dn := fun hm => by
      rw [List.nodup_append] at hn
      exact hn.2.2 s hm s (by simp) rfl
    obtain ⟨k1, k2⟩ := nodes_inv hN hs hp hw0 (nodes (accR E s N)) (Dk N k dn) st (List.Nodup.sublist List.filter_sublist List.nodup_range) (fun i hi => by
      obtain ⟨h1, h2⟩ := (nodes_at hN).1 hi
      refine ⟨h1, h2, ?_⟩
      unfold Dk
      rw [decide_eq_false (by omega)]
      simp [hsd]) (part_full s fun i hi hb _ _ => by
        unfold Dk
        rw [decide_eq_true (by have := pop_clr hi hb; omega)]
        rfl) h
    have k3 : CInv E N (k + 1) (Dk N k (dn ++ [s])) (rowS E N st (Int.ofNat s)) := by
      refine CInv.congr k2 fun a b hb hr _ => ?_
      unfold Dk
      by_cases c : a = s
      · subst c
        have : (nodes (accR E a N)).contains b = true := by rw [List.contains_iff_mem]; exact (nodes_at hN).2 ⟨hb, hr⟩
        rw [this]
        simp
      · have : (a == s) = false := beq_eq_false_iff_ne.2 c
        simp [this, c]
    obtain ⟨k4, k5⟩ := row_inv hN rest (dn ++ [s]) _ (by simpa using hn) (fun x hx => hl x (by simp [hx])) k3
    have hlen := k3.len
    have h2 : 2 ^ N ≤ 2 ^ 10 := Nat.pow_le_pow_right (by decide) hN
    refine ⟨?_, by simpa using k5⟩
    rw [List.map_cons]
    unfold okRow
    rw [show (Int.ofNat s).toNat = s from rfl, k1, k4, Bool.and_true, Bool.and_true, Bool.and_eq_true, decide_eq_true_eq, decide_eq_true_eq]
    refine ⟨⟨Int.natCast_nonneg s, ?_⟩, by omega⟩
    have : ((2 : Int) ^ N) = (((2 : Nat) ^ N : Nat) : Int) := by simp
    rw [this]
    exact Int.ofNat_lt.2 hs
theorem level_inv {k : Nat} (hN : N ≤ 10) {st : Ent × List Int} (h : CInv E N k (Dk N k []) st) : okRow E N st.2 (st.1, []) = true ∧ CInv E N (k + 1) (Dk N (k + 1) []) (levelS E N st.1 st.2) := by
  obtain ⟨R, hR, hnd, hm⟩ := h.row
  have hfull : ∀ a, pop N a = k → part E N (Dk N k []) a = ways E N a := fun a ha => part_full a fun i hi hb _ _ => by
    unfold Dk
    rw [decide_eq_true (by have := pop_clr hi hb; omega)]
    rfl
  obtain ⟨k1, k2⟩ := row_inv (k := k) hN R [] (st.1, []) (by simpa using hnd) (fun s hs => by
    obtain ⟨h1, h2⟩ := (hm s).1 hs
    have h3 : ways E N s ≠ 0 := by rw [← hfull s h1]; exact h2
    exact ⟨ways_lt s h3, h1, h3⟩) ⟨h.nd, h.get, h.inn, [], rfl, by simp, fun t => by
      constructor
      · intro h; simp at h
      · rintro ⟨h1, h2⟩
        rcases part_some h2 with rfl | ⟨i, hi, hb, _, hd⟩
        · rw [pop_zero] at h1; cases h1
        · have := pop_clr hi hb
          unfold Dk at hd
          simp at hd
          omega⟩
  rw [← hR] at k1 k2
  refine ⟨k1, k2.congr fun a b _ _ hw => ?_⟩
  unfold Dk
  rw [List.nil_append]
  by_cases c : pop N a = k
  · have : a ∈ R := (hm a).2 ⟨c, by rw [hfull a c]; exact hw⟩
    rw [decide_eq_false (by omega), decide_eq_true (by omega)]
    simp [this]
  · have : a ∉ R := fun h => c ((hm a).1 h).1
    rw [show decide (pop N a < k + 1) = decide (pop N a < k) from decide_eq_decide.2 (by omega)]
    simp [this]
theorem run_inv (hN : N ≤ 10) : ∀ (f k : Nat) (st : Ent × List Int), CInv E N k (Dk N k []) st → okRun E N f st.1 st.2 = true ∧ CInv E N (k + f) (Dk N (k + f) []) (runC E N f st.1 st.2)
  | 0, k, st, h => ⟨rfl, h⟩
  | f + 1, k, st, h => by
    obtain ⟨k1, k2⟩ := level_inv hN h
    obtain ⟨k3, k4⟩ := run_inv hN f (k + 1) _ k2
    refine ⟨by unfold okRun; rw [k1, k3]; rfl, ?_⟩
    rw [show k + (f + 1) = k + 1 + f by omega]
    exact k4
theorem cinv_start : CInv E N 0 (Dk N 0 []) ([(0, 1)], [0]) := by
  have e : ∀ t, part E N (Dk N 0 []) t = if t = 0 then 1 else 0 := fun t => by
    rw [part_congr (D' := fun _ _ => false) (fun s i _ _ _ => by simp [Dk]), part, sum_same (g := fun _ => 0) (fun i _ => by simp), sum_const]
    simp
  refine ⟨by simp [keys], fun t => ?_, fun x hx => ⟨0, Nat.two_pow_pos N, by simpa [keys] using hx⟩, [0], rfl, by simp, fun t => ?_⟩
  · rw [e, get_cons]
    by_cases c : t = 0
    · subst c; rfl
    · rw [if_neg (show ¬ ((0 : Int) = (t : Int)) by omega), if_neg c]
      rfl
  · rw [e, List.mem_singleton]
    constructor
    · rintro rfl
      exact ⟨pop_zero N, by simp⟩
    · rintro ⟨_, h⟩
      by_cases c : t = 0
      · exact c
      · rw [if_neg c] at h
        exact absurd rfl h
theorem count_ok (hN : N ≤ 10) : okCount E N = true := (run_inv hN N 0 ([(0, 1)], [0]) cinv_start).1
theorem count_inv (hN : N ≤ 10) : CInv E N (0 + N) (Dk N (0 + N) []) (runC E N N [(0, 1)] [0]) := (run_inv hN N 0 ([(0, 1)], [0]) cinv_start).2
theorem count_full (hN : N ≤ 10) (t : Nat) : part E N (Dk N (0 + N) []) t = ways E N t := part_full t fun i hi hb _ _ => by
  unfold Dk
  rw [decide_eq_true (by have := pop_clr hi hb; have := pop_le N t; omega)]
  rfl
/-- What count's map holds. -/
theorem count_get (hN : N ≤ 10) (t : Nat) : IMap.get (countM E N) (t : Int) = if ways E N t = 0 then none else some ((ways E N t : Nat) : Int) := by
  have := (count_inv (E := E) hN).get t
  rw [count_full hN] at this
  exact this
theorem count_way (hN : N ≤ 10) (t : Nat) : wayOf (countM E N) (t : Int) = ((ways E N t : Nat) : Int) := by
  have := (count_inv (E := E) hN).way t
  rw [count_full hN] at this
  exact this
theorem count_nd (hN : N ≤ 10) : (keys (countM E N)).Nodup := (count_inv (E := E) hN).nd
theorem count_len (hN : N ≤ 10) : (countM E N).length ≤ 1024 := Nat.le_trans (count_inv (E := E) hN).len (Nat.pow_le_pow_right (by decide) hN : 2 ^ N ≤ 2 ^ 10)
theorem count_keys (hN : N ≤ 10) (x : Int) : x ∈ keys (countM E N) ↔ ∃ t : Nat, x = (t : Int) ∧ ways E N t ≠ 0 := by
  constructor
  · intro h
    obtain ⟨t, _, rfl⟩ := (count_inv (E := E) hN).inn x h
    refine ⟨t, rfl, fun h0 => ?_⟩
    have h1 := get_isSome.2 h
    rw [count_get hN, if_pos h0] at h1
    cases h1
  · rintro ⟨t, rfl, h⟩
    refine get_isSome.1 ?_
    rw [count_get hN, if_neg h]
    rfl
theorem count_ne (hN : N ≤ 10) : keys (countM E N) ≠ [] := fun h => by
  have := (count_keys (E := E) hN 0).2 ⟨0, rfl, by rw [ways_zero]; decide⟩
  rw [h] at this
  simp at this
end Go.Proofs.YtplhihakeodadaaDoor.Sg
