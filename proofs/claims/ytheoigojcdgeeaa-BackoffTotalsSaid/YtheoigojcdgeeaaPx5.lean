-- DERIVED: written by wip/tools/xprint.py over the translation; Lean checks it.
import Derived.Test.YtheoigojcdgeeaaPx0
import Derived.Test.YtheoigojcdgeeaaPx3
import Derived.Test.YtheoigojcdgeeaaPx4
namespace Go.Proofs.Ytheoigojcdgeeaa.P
open Go.RowKit Go.Proofs.YtheoigojcdgeeaaW.PrintWords Go.Proofs.YtheoigojcdgeeaaW.PrintLast Go.Proofs.YtheoigojcdgeeaaW.PrintMore
attribute [local go_sem] max2_int min2_int max_two min_two max_three min_three max_four min_four   -- for this text's walks alone
set_option linter.unusedVariables false
set_option linter.unusedSimpArgs false

/-! ### slipwaylaw16_anchor: function 8 -/
def slipwaylaw16_anchor.f (k : Nat) : Option Bool := if 200 ≤ k then some true else none
theorem slipwaylaw16_anchor.mono : ∀ k, LeO (slipwaylaw16_anchor.f k) (slipwaylaw16_anchor.f (k + 1)) := by
  intro k r h
  unfold slipwaylaw16_anchor.f at h ⊢
  split at h
  · rw [if_pos (by omega)]; exact h
  · cases h
theorem anchor_wait : backoff_Wait.f 200 3 20 3 = some (12, 0) := by kernel_rfl
theorem anchor_total : backoff_Total.f 200 3 20 4 = some (41, 0) := by kernel_rfl
theorem anchor_get : (IMap.get [((1 : Int), Value.int .i64 5)] 1).getD (.int .i64 0) = .int .i64 5 := by kernel_rfl
theorem slipwaylaw16_anchor.calls (k : Nat) (r : Bool) (w : World) (h : slipwaylaw16_anchor.f k = some r) :
    Calls Try.prog 8 #[] w fun e w' => e = .returned (.bool r) ∧ Below w.heap.size w w' := by
  have hr : r = true := by
    unfold slipwaylaw16_anchor.f at h
    split at h
    · exact (Option.some.inj h).symm
    · cases h
  subst hr
  clear h k
  have HW := Aside0.mk anchor_wait
  have HT := Aside0.mk anchor_total
  have HG := Aside0.mk anchor_get
  go_enter Try.func8, Try.ntmps8
  go_wp2_with (fail)
  refine (backoff_Wait.calls 200 _ _ _ _ _ _ HW.out).mono ?_
  rintro e w1 ⟨rfl, hb1⟩
  replace hb1 := Aside0.mk hb1
  go_wp2_with (fail)
  refine (backoff_Total.calls 200 _ _ _ _ _ _ HT.out).mono ?_
  rintro e w2 ⟨rfl, hb2⟩
  replace hb2 := Aside0.mk (below_step hb1.out hb2)
  clear hb1
  go_wp2_with (fail)
  refine (New_calls _).mono ?_
  rintro e w3 ⟨g, b, rfl, hg, hb, hk, hB⟩
  have hs := hb2.out.size
  have HG1 : Aside0 (w.heap.size ≤ g) := ⟨by omega⟩
  have HG2 : Aside0 (w.heap.size ≤ b) := ⟨by omega⟩
  have HB := Aside0.mk (below_step hb2.out hB)
  have HK := Aside0.mk hk
  clear hg hb hB hs hk hb2
  go_wp2_with (fail)
  refine (Set_calls _ g b 0 [] 1 5 HK.out (by decide) (by decide) (by decide) (by decide)).mono ?_
  rintro e w4 ⟨rfl, hk4, hq⟩
  replace HB := Aside0.mk (hq _ _ HB.out HG1.out HG2.out)
  replace HK := Aside0.mk hk4
  clear hq hk4
  go_wp2_with (fail)
  refine (Ready_calls _ g b 0 _ 1 HK.out 5 (by exact HG.out)).mono ?_
  rintro e w5 ⟨rfl, ⟨⟨n5, rfl⟩⟩⟩
  replace HB := Aside0.mk (pw_below_drewN HB.out n5)
  replace HK := Aside0.mk (HK.out.drewN n5)
  generalize World.drewN _ n5 = w5 at HB HK ⊢
  go_wp2_with (fail)
  refine (Tick_calls _ g b 0 _ 5 HK.out (by decide) (by decide) (by decide) (by decide)).mono ?_
  rintro e w6 ⟨rfl, hk6, hq⟩
  replace HB := Aside0.mk (hq _ _ HB.out HG1.out HG2.out)
  replace HK := Aside0.mk hk6
  clear hq hk6
  go_wp2_with (fail)
  refine (Ready_calls _ g b (0 + 5) _ 1 HK.out 5 (by exact HG.out)).mono ?_
  rintro e w7 ⟨rfl, ⟨⟨n7, rfl⟩⟩⟩
  go_wp2
  go_ret
  exact ⟨rfl, pw_below_drewN HB.out n7⟩

/-! ### slipwaylaw16_right: function 10 -/
def slipwaylaw16_right.f (a0 : Int) (a1 : Int) : Option (Bool) := if a0 ≥ 0 then (if a1 ≥ 0 then (if a0 ≤ 1048576 then (some (decide (a1 ≤ 1048576))) else (some false)) else (some false)) else (some false)
set_option maxHeartbeats 8000000 in
set_option maxRecDepth 100000 in
theorem slipwaylaw16_right.calls (a0 : Int) (a1 : Int) (r : Bool) (w : World) (h : slipwaylaw16_right.f a0 a1 = some r) :
    Calls Try.prog 10 #[.int .i64 a0, .int .i64 a1] w fun e w' => e = .returned (.bool r) ∧ Drawn0 w w' := by
  have H : (if a0 ≥ 0 then (if a1 ≥ 0 then (if a0 ≤ 1048576 then (some (decide (a1 ≤ 1048576))) else (some false)) else (some false)) else (some false)) = some r := h
  clear h
  by_cases c3 : a0 ≥ 0
  · rw [if_pos c3] at H
    have c3b0 : decide (0 ≤ a0) = true := decide_eq_true c3
    clear c3
    by_cases c4 : a1 ≥ 0
    · rw [if_pos c4] at H
      have c4b0 : decide (0 ≤ a1) = true := decide_eq_true c4
      clear c4
      by_cases c5 : a0 ≤ 1048576
      · rw [if_pos c5] at H
        have c5b0 : decide (a0 ≤ 1048576) = true := decide_eq_true c5
        clear c5
        obtain rfl := Option.some.inj H
        go_enter Try.func10, Try.ntmps10
        go_wp2
        go_ret
        exact ⟨by first | rfl | (simp; done) | (simp [*]; done), by repeat (first | exact Drawn0.refl _ | apply Drawn0.step)⟩
      · rw [if_neg c5] at H
        have c5b0 : decide (a0 ≤ 1048576) = false := decide_eq_false c5
        clear c5
        obtain rfl := Option.some.inj H
        go_enter Try.func10, Try.ntmps10
        go_wp2
        go_ret
        exact ⟨by first | rfl | (simp; done) | (simp [*]; done), by repeat (first | exact Drawn0.refl _ | apply Drawn0.step)⟩
    · rw [if_neg c4] at H
      have c4b0 : decide (0 ≤ a1) = false := decide_eq_false c4
      clear c4
      obtain rfl := Option.some.inj H
      go_enter Try.func10, Try.ntmps10
      go_wp2
      go_ret
      exact ⟨by first | rfl | (simp; done) | (simp [*]; done), by repeat (first | exact Drawn0.refl _ | apply Drawn0.step)⟩
  · rw [if_neg c3] at H
    have c3b0 : decide (0 ≤ a0) = false := decide_eq_false c3
    clear c3
    obtain rfl := Option.some.inj H
    go_enter Try.func10, Try.ntmps10
    go_wp2
    go_ret
    exact ⟨by first | rfl | (simp; done) | (simp [*]; done), by repeat (first | exact Drawn0.refl _ | apply Drawn0.step)⟩

/-! ### slipwaylaw16_wait: function 11 -/
def slipwaylaw16_wait.l0 : Nat → Int → Int → Int → Int → Option (Int)
  | 0, _, _, _, _ => none
  | k + 1, x1, x2, x7, x8 => if x8 < x2 then (if x8 < 30 then (slipwaylaw16_wait.l0 k x1 x2 (wrap64 (x7 * 2)) (wrap64 (x8 + 1))) else (some (mn x7 x1))) else (some (mn x7 x1))
def slipwaylaw16_wait.f (k : Nat) (a0 : Int) (a1 : Int) (a2 : Int) : Option (Int) := slipwaylaw16_wait.l0 k a1 a2 a0 1
theorem slipwaylaw16_wait.mono_l : ∀ k, (∀ y0 y1 y2 y3, LeO (slipwaylaw16_wait.l0 k y0 y1 y2 y3) (slipwaylaw16_wait.l0 (k + 1) y0 y1 y2 y3))
  | 0 => fun _ _ _ _ r h => by simp [slipwaylaw16_wait.l0] at h
  | k + 1 => by
    have ih0 := slipwaylaw16_wait.mono_l k
    · intro y0 y1 y2 y3
      unfold slipwaylaw16_wait.l0
      repeat' first
      | (with_reducible exact ih0 _ _ _ _)
      | (with_reducible exact LeO.refl _)
      | (with_reducible exact LeO.none _)
      | (with_reducible refine LeO.ite ?_ ?_)
      | (with_reducible refine LeO.bind ?_ (fun _ => ?_))
      | exact ih0 _ _ _ _
      | exact LeO.none _
      | refine LeO.ite ?_ ?_
      | refine LeO.bind ?_ (fun _ => ?_)
theorem slipwaylaw16_wait.mono : ∀ a0 a1 a2 k, LeO (slipwaylaw16_wait.f k a0 a1 a2) (slipwaylaw16_wait.f (k + 1) a0 a1 a2) := by
  intro a0 a1 a2 k
  have ih0 := slipwaylaw16_wait.mono_l k
  unfold slipwaylaw16_wait.f
  repeat' first
      | (with_reducible exact ih0 _ _ _ _)
      | (with_reducible exact LeO.refl _)
      | (with_reducible exact LeO.none _)
      | (with_reducible refine LeO.ite ?_ ?_)
      | (with_reducible refine LeO.bind ?_ (fun _ => ?_))
      | exact ih0 _ _ _ _
      | exact LeO.none _
      | refine LeO.ite ?_ ?_
      | refine LeO.bind ?_ (fun _ => ?_)
set_option maxHeartbeats 8000000 in
set_option maxRecDepth 100000 in
theorem slipwaylaw16_wait.calls (k : Nat) (a0 : Int) (a1 : Int) (a2 : Int) (r : Int) (w : World) (h : slipwaylaw16_wait.f k a0 a1 a2 = some r) :
    Calls Try.prog 11 #[.int .i64 a0, .int .i64 a1, .int .i64 a2] w fun e w' => e = .returned (.int .i64 r) ∧ Below w.heap.size w w' := by
  have HB := Aside0.mk (Below.refl w.heap.size w)
  have H : (slipwaylaw16_wait.l0 k a1 a2 a0 1) = some r := h
  clear h
  have H' := Aside0.mk H
  clear H
  go_enter Try.func11, Try.ntmps11
  go_wp2
  go_loopg [7, 8] k (fun kq v7 v8 w' => ∃ (x7_1 : Int) (x8_1 : Int), v7 = .int .i64 x7_1 ∧ v8 = .int .i64 x8_1 ∧ Aside0 (slipwaylaw16_wait.l0 kq a1 a2 x7_1 x8_1 = some r) ∧ Aside0 (kq ≤ k) ∧ Aside0 (Below w.heap.size w w'))
  case atStart => exact ⟨(a0), (1), (by first | rfl | (simp; done) | (simp [*]; done)), (by first | rfl | (simp; done) | (simp [*]; done)), H', ⟨Nat.le_refl _⟩, ⟨by repeat (first | (with_reducible first | exact HB.out | apply below_alloc | apply pw_below_drewN | apply below_drew1) | exact HB.out)⟩⟩
  case round =>
    clear H'
    try clear c1
    try clear p2
    obtain ⟨x7_1, x8_1, rfl, rfl, HA, HK1, HB⟩ := hrel
    cases gk with
    | zero => exact absurd HA.out (by simp [slipwaylaw16_wait.l0])
    | succ k1 =>
      have H := HA.out
      clear HA
      simp only [slipwaylaw16_wait.l0] at H
      by_cases c4 : x8_1 < a2
      · rw [if_pos c4] at H
        have c4b0 : decide (x8_1 < a2) = true := decide_eq_true c4
        clear c4
        by_cases c5 : x8_1 < 30
        · rw [if_pos c5] at H
          have c5b0 : decide (x8_1 < 30) = true := decide_eq_true c5
          clear c5
          have H' := Aside0.mk H
          clear H
          go_wp2
          go_roundg k1
          case measure => have := HK1.out; omega
          case rel => exact ⟨(wrap64 (x7_1 * 2)), (wrap64 (x8_1 + 1)), (by first | rfl | (simp; done) | (simp [*]; done)), (by first | rfl | (simp; done) | (simp [*]; done)), H', ⟨by have := HK1.out; omega⟩, ⟨by repeat (first | (with_reducible first | exact HB.out | apply below_alloc | apply pw_below_drewN | apply below_drew1) | exact HB.out)⟩⟩
        · rw [if_neg c5] at H
          have c5b0 : decide (x8_1 < 30) = false := decide_eq_false c5
          clear c5
          obtain ⟨ji6, hji6⟩ : ∃ j_ : Int, (mn x7_1 a1) = j_ := ⟨_, rfl⟩
          replace H : (some ji6) = some r := by first | (rw [hji6] at H; exact H) | (simp only [hji6] at H ⊢; exact H)
          have hji6_ : (if a1 < x7_1 then a1 else x7_1) = ji6 := hji6
          obtain rfl := Option.some.inj H
          go_wp2
          go_ret
          exact ⟨by first | rfl | (simp [errW_none, errW_some] <;> rfl) | (simp only [← hji6]; first | rfl | (simp [errW_none, errW_some] <;> rfl)) | (simp [*, errW_none, errW_some] <;> rfl), by repeat (first | (with_reducible first | exact HB.out | apply below_alloc | apply pw_below_drewN | apply below_drew1) | exact HB.out)⟩
      · rw [if_neg c4] at H
        have c4b0 : decide (x8_1 < a2) = false := decide_eq_false c4
        clear c4
        obtain ⟨ji7, hji7⟩ : ∃ j_ : Int, (mn x7_1 a1) = j_ := ⟨_, rfl⟩
        replace H : (some ji7) = some r := by first | (rw [hji7] at H; exact H) | (simp only [hji7] at H ⊢; exact H)
        have hji7_ : (if a1 < x7_1 then a1 else x7_1) = ji7 := hji7
        obtain rfl := Option.some.inj H
        go_wp2
        go_ret
        exact ⟨by first | rfl | (simp [errW_none, errW_some] <;> rfl) | (simp only [← hji7]; first | rfl | (simp [errW_none, errW_some] <;> rfl)) | (simp [*, errW_none, errW_some] <;> rfl), by repeat (first | (with_reducible first | exact HB.out | apply below_alloc | apply pw_below_drewN | apply below_drew1) | exact HB.out)⟩

end Go.Proofs.Ytheoigojcdgeeaa.P
