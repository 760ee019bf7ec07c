/- lattice: an order goes through just where there is no circle; ready nodes, plainly. -/
import Derived.Test.YtplhihakeodadaaDoorLtFrm
namespace Go.Proofs.YtplhihakeodadaaDoor.Sg
open Go Go.RowKit Go.Proofs.YtplhihakeodadaaDoorW.PrintWords Go.Proofs.YtplhihakeodadaaDoorW.PrintLast Go.Proofs.YtplhihakeodadaaDoorW.PrintMore
set_option linter.unusedVariables false
set_option linter.unusedSimpArgs false
theorem preds_bit (E : List Stp) (i k : Nat) : (preds E i).testBit k = true ↔ ∃ e ∈ E, e.2.toNat = i ∧ e.1.toNat = k := by
  unfold preds
  have gen : ∀ (l : List Stp) (a : Nat), (l.foldl (fun a e => if e.2.toNat = i then a ||| 2 ^ e.1.toNat else a) a).testBit k = true ↔ a.testBit k = true ∨ ∃ e ∈ l, e.2.toNat = i ∧ e.1.toNat = k := by
    intro l
    induction l with
    | nil => intro a; simp
    | cons e l ih =>
      intro a
      rw [List.foldl_cons, ih]
      by_cases c : e.2.toNat = i
      · rw [if_pos c, Nat.testBit_or, Bool.or_eq_true, Nat.testBit_two_pow, decide_eq_true_eq]
        constructor
        · rintro ((h | h) | ⟨e', he, h⟩)
          · exact .inl h
          · exact .inr ⟨e, by simp, c, h⟩
          · exact .inr ⟨e', by simp [he], h⟩
        · rintro (h | ⟨e', he, h1, h2⟩)
          · exact .inl (.inl h)
          · rcases List.mem_cons.1 he with rfl | he
            · exact .inl (.inr h2)
            · exact .inr ⟨e', he, h1, h2⟩
      · rw [if_neg c]
        constructor
        · rintro (h | ⟨e', he, h⟩)
          · exact .inl h
          · exact .inr ⟨e', by simp [he], h⟩
        · rintro (h | ⟨e', he, h1, h2⟩)
          · exact .inl h
          · rcases List.mem_cons.1 he with rfl | he
            · exact absurd h1 c
            · exact .inr ⟨e', he, h1, h2⟩
  rw [gen]
  simp
theorem rdy_iff {E : List Stp} {s i : Nat} (hE : EdgesIn 64 E) : rdy E s i = true ↔ s.testBit i = false ∧ ∀ e ∈ E, e.2.toNat = i → s.testBit e.1.toNat = true := by
  have hp : preds E i < 2 ^ 64 := preds_lt E 64 i fun e he => by have := hE e he; omega
  unfold rdy
  rw [Bool.and_eq_true, beq_iff_eq, andN_zero hp]
  constructor
  · rintro ⟨h1, h2⟩
    exact ⟨by simpa using h1, fun e he h => h2 _ ((preds_bit E i _).2 ⟨e, he, h, rfl⟩)⟩
  · rintro ⟨h1, h2⟩
    refine ⟨by simp [h1], fun k hk => ?_⟩
    obtain ⟨e, he, h3, rfl⟩ := (preds_bit E i k).1 hk
    exact h2 e he h3
theorem rdyE_rdy {E : List Stp} {s i : Nat} (hE : EdgesIn 64 E) : rdyE E s i = rdy E s i := by
  have h1 : rdyE E s i = true ↔ rdy E s i = true := by
    rw [rdy_iff hE]
    unfold rdyE
    rw [Bool.and_eq_true, List.all_eq_true]
    constructor
    · rintro ⟨h1, h2⟩
      refine ⟨by simpa using h1, fun e he h => ?_⟩
      have h3 := h2 e he
      have h4 := (hE e he).2.1
      rw [show (e.2 == (i : Int)) = true by rw [beq_iff_eq]; omega] at h3
      simpa using h3
    · rintro ⟨h1, h2⟩
      refine ⟨by simp [h1], fun e he => ?_⟩
      by_cases c : e.2 = (i : Int)
      · rw [h2 e he (by omega), Bool.or_true]
      · rw [show (e.2 == (i : Int)) = false by rw [beq_eq_false_iff_ne]; exact c]
        rfl
  cases h2 : rdyE E s i with
  | true => exact (h1.1 h2).symm
  | false =>
    cases h3 : rdy E s i with
    | false => rfl
    | true => rw [h1.2 h3] at h2; cases h2
/-- What leads into a closed set lies in it. -/
theorem Reach.into {E : List Stp} {s a y : Nat} (hs : Cl Prod.snd Prod.fst E s) (h : Reach E a y) (hy : s.testBit y = true) : s.testBit a = true := by
  induction h with
  | one e he h1 => rw [← h1]; exact hs e he hy
  | more x e _ he h1 ih => exact ih (by rw [← h1]; exact hs e he hy)
theorem nodup_subN : ∀ {l m : List Nat}, l.Nodup → (∀ x ∈ l, x ∈ m) → l.length ≤ m.length
  | [], m, _, _ => Nat.zero_le _
  | a :: l, m, hl, h => by
    obtain ⟨h1, h2⟩ := List.nodup_cons.1 hl
    have ha : a ∈ m := h a (by simp)
    have hr := nodup_subN (m := m.erase a) h2 fun x hx => (List.mem_erase_of_ne (fun e : x = a => h1 (e ▸ hx))).2 (h x (by simp [hx]))
    rw [List.length_erase_of_mem ha] at hr
    have := List.length_pos_of_mem ha
    simp only [List.length_cons]
    omega
theorem Way.all {N : Nat} {out : List Nat} {s : Nat} (h : Way N out s) (hl : N ≤ out.length) {x : Nat} (hx : x < N) : s.testBit x = true := by
  rw [h.bit, decide_eq_true_eq]
  rcases Decidable.em (x ∈ out) with c | c
  · exact c
  · have h1 : (x :: out).length ≤ N := nodup_len N (x :: out) (List.nodup_cons.2 ⟨c, h.nd⟩) fun y hy => by
      rcases List.mem_cons.1 hy with rfl | hy
      · exact hx
      · exact h.lt y hy
    simp only [List.length_cons] at h1
    omega
theorem Way.some_left {N : Nat} {out : List Nat} {s : Nat} (h : Way N out s) (hl : out.length < N) : ∃ x, x < N ∧ s.testBit x = false := by
  rcases Decidable.em (∃ x, x < N ∧ s.testBit x = false) with c | c
  · exact c
  · exfalso
    have h1 := nodup_subN (l := List.range N) (m := out) List.nodup_range fun x hx => by
      have hx' := List.mem_range.1 hx
      cases hb : s.testBit x with
      | false => exact absurd ⟨x, hx', hb⟩ c
      | true =>
        rw [h.bit] at hb
        exact of_decide_eq_true hb
    rw [List.length_range] at h1
    omega
/-- A set that is closed, with one more that may come, is closed. -/
theorem cl_add {E : List Stp} {s i : Nat} (hE : EdgesIn 64 E) (h : Cl Prod.snd Prod.fst E s) (hr : rdy E s i = true) : Cl Prod.snd Prod.fst E (s ||| 2 ^ i) := fun e he hb => by
  obtain ⟨_, hp⟩ := (rdy_iff hE).1 hr
  rw [Nat.testBit_or, Bool.or_eq_true, Nat.testBit_two_pow, decide_eq_true_eq] at hb
  rw [Nat.testBit_or, Bool.or_eq_true]
  left
  rcases hb with hb | hb
  · exact h e he hb
  · exact hp e he hb.symm
theorem acyc_add {E : List Stp} {s i : Nat} (hE : EdgesIn 64 E) (h : Cl Prod.snd Prod.fst E s) (ha : ∀ x, s.testBit x = true → ¬ Reach E x x) (hr : rdy E s i = true) : ∀ x, (s ||| 2 ^ i).testBit x = true → ¬ Reach E x x := fun x hx => by
  obtain ⟨hi, hp⟩ := (rdy_iff hE).1 hr
  rw [Nat.testBit_or, Bool.or_eq_true, Nat.testBit_two_pow, decide_eq_true_eq] at hx
  rcases hx with hx | rfl
  · exact ha x hx
  · have key : ∀ z, z = i → ¬ Reach E i z := fun z hz hxx => by
      cases hxx with
      | one e he h1 =>
        have := hp e he hz
        rw [h1, hi] at this
        cases this
      | more y e hy he h1 =>
        have h2 := hp e he hz
        rw [h1] at h2
        have := Reach.into h hy h2
        rw [hi] at this
        cases this
    exact key i rfl
theorem order_acyc {E : List Stp} {N : Nat} (hN : N ≤ 64) (hE : EdgesIn 64 E) : ∀ (f : Nat) (out : List Nat) (s : Nat), Way N out s → Cl Prod.snd Prod.fst E s → (∀ x, s.testBit x = true → ¬ Reach E x x) → N ≤ (orderRun E N f out s).length → ∀ x, x < N → ¬ Reach E x x
  | 0, out, s, hw, _, ha, hl, x, hx => ha x (hw.all hl hx)
  | f + 1, out, s, hw, hc, ha, hl, x, hx => by
    unfold orderRun at hl
    by_cases c : accR E s N = 0
    · rw [if_pos c] at hl
      exact ha x (hw.all hl hx)
    · rw [if_neg c] at hl
      obtain ⟨h1, h2⟩ := next_node hN c
      exact order_acyc hN hE f _ _ (hw.step h1 (rdy_clr h2)) (cl_add hE hc h2) (acyc_add hE hc ha h2) hl x hx
theorem countP_lt {p q : Nat → Bool} : ∀ {l : List Nat}, (∀ a ∈ l, p a = true → q a = true) → (∃ a ∈ l, q a = true ∧ p a = false) → l.countP p < l.countP q
  | [], _, h => by obtain ⟨a, ha, _⟩ := h; simp at ha
  | x :: l, h, h2 => by
    have hle : l.countP p ≤ l.countP q := List.countP_mono_left fun a ha => h a (by simp [ha])
    rw [List.countP_cons, List.countP_cons]
    obtain ⟨a, ha, hq, hp⟩ := h2
    rcases List.mem_cons.1 ha with rfl | ha
    · simp [hq, hp]; omega
    · have := countP_lt (l := l) (fun a ha => h a (by simp [ha])) ⟨a, ha, hq, hp⟩
      have hx := h x (by simp)
      cases hpx : p x with
      | false => simp; omega
      | true => rw [hx hpx]; simp; omega
open Classical in
/-- Where there is no circle, some node may always come. -/
theorem some_ready {E : List Stp} {N : Nat} (hE : EdgesIn 64 E) (hEN : ∀ e ∈ E, e.1.toNat < N ∧ e.2.toNat < N) (hc : ¬ Circ E N) (s : Nat) : ∀ (k x : Nat), (List.range N).countP (fun a => decide (Reach E a x)) ≤ k → x < N → s.testBit x = false → ∃ i, i < N ∧ rdy E s i = true
  | k, x, hk, hx, hs => by
    cases hr : rdy E s x with
    | true => exact ⟨x, hx, hr⟩
    | false =>
      have : ∃ e ∈ E, e.2.toNat = x ∧ s.testBit e.1.toNat = false := by
        rcases Classical.em (∃ e ∈ E, e.2.toNat = x ∧ s.testBit e.1.toNat = false) with c | c
        · exact c
        · exfalso
          have h1 : rdy E s x = true := (rdy_iff hE).2 ⟨hs, fun e he h2 => by
            cases h3 : s.testBit e.1.toNat with
            | true => rfl
            | false => exact absurd ⟨e, he, h2, h3⟩ c⟩
          rw [hr] at h1
          cases h1
      obtain ⟨e, he, h1, h2⟩ := this
      have hz := (hEN e he).1
      have hlt : (List.range N).countP (fun a => decide (Reach E a e.1.toNat)) < (List.range N).countP (fun a => decide (Reach E a x)) := by
        refine countP_lt (fun a _ h => ?_) ⟨e.1.toNat, List.mem_range.2 hz, ?_, ?_⟩
        · rw [decide_eq_true_eq] at h ⊢
          rw [← h1]
          exact Reach.more _ e h he rfl
        · rw [decide_eq_true_eq, ← h1]
          exact Reach.one e he rfl
        · rw [decide_eq_false_iff_not]
          exact fun h => hc ⟨_, hz, h⟩
      obtain ⟨k', rfl⟩ : ∃ k', k = k' + 1 := ⟨k - 1, by omega⟩
      exact some_ready hE hEN hc s k' e.1.toNat (by omega) hz h2
theorem acc_ne {E : List Stp} {N s i : Nat} (hi : i < N) (h : rdy E s i = true) : accR E s N ≠ 0 := fun e => by
  have := accR_bit E s N i
  rw [e, h, decide_eq_true hi] at this
  simp at this
open Classical in
theorem order_through {E : List Stp} {N : Nat} (hN : N ≤ 64) (hE : EdgesIn 64 E) (hEN : ∀ e ∈ E, e.1.toNat < N ∧ e.2.toNat < N) (hc : ¬ Circ E N) : ∀ (f : Nat) (out : List Nat) (s : Nat), Way N out s → N ≤ f + out.length → N ≤ (orderRun E N f out s).length
  | 0, out, s, _, h => by simpa [orderRun] using h
  | f + 1, out, s, hw, h => by
    unfold orderRun
    by_cases c : accR E s N = 0
    · rw [if_pos c]
      rcases Nat.lt_or_ge out.length N with hl | hl
      · obtain ⟨x, hx, hb⟩ := hw.some_left hl
        obtain ⟨i, hi, hr⟩ := some_ready hE hEN hc s _ x (Nat.le_refl _) hx hb
        exact absurd c (acc_ne hi hr)
      · exact hl
    · rw [if_neg c]
      obtain ⟨h1, h2⟩ := next_node hN c
      exact order_through hN hE hEN hc f _ _ (hw.step h1 (rdy_clr h2)) (by rw [List.length_append, List.length_singleton]; omega)
theorem cl_nil (E : List Stp) : Cl Prod.snd Prod.fst E 0 := fun e _ h => by rw [Nat.zero_testBit] at h; cases h
/-- Order's answer. -/
theorem orderErr_iff {E : List Stp} {N : Nat} (hR : rightG (N : Int) E = true) : orderErr (N : Int) E = 0 ↔ ¬ Circ E N := by
  obtain ⟨hE, ⟨_, hN⟩, _, _⟩ := rightG_in hR
  have hEN := right_edges hR
  have hN' : N ≤ 64 := by omega
  unfold orderErr
  rw [if_pos hR, Int.toNat_natCast]
  constructor
  · intro h ⟨a, ha, hr⟩
    refine order_acyc hN' hE (N + 1) [] 0 (Way.nil N) (cl_nil E) (fun x hx => by rw [Nat.zero_testBit] at hx; cases hx) ?_ a ha hr
    rcases Nat.lt_or_ge (orderRun E N (N + 1) [] 0).length N with c | c
    · rw [if_pos c] at h; cases h
    · exact c
  · intro h
    rw [if_neg (Nat.not_lt.2 (order_through hN' hE hEN h (N + 1) [] 0 (Way.nil N) (by simp)))]
theorem orderErr_val {E : List Stp} {N : Nat} (hR : rightG (N : Int) E = true) : orderErr (N : Int) E = 0 ∨ orderErr (N : Int) E = 21 := by
  unfold orderErr
  rw [if_pos hR]
  split
  · exact .inr rfl
  · exact .inl rfl
end Go.Proofs.YtplhihakeodadaaDoor.Sg
