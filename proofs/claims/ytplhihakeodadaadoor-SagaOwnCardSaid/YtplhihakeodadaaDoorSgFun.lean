/- saga: bare, stepped, formed, last, when, walked. -/
import Derived.Test.YtplhihakeodadaaDoorSgOwn
namespace Go.Proofs.YtplhihakeodadaaDoor.Sg
open Go Go.RowKit Go.Proofs.YtplhihakeodadaaDoorW.PrintWords Go.Proofs.YtplhihakeodadaaDoorW.PrintLast Go.Proofs.YtplhihakeodadaaDoorW.PrintMore
set_option linter.unusedVariables false
set_option linter.unusedSimpArgs false
set_option maxHeartbeats 8000000 in
set_option maxRecDepth 20000 in
theorem bare_T (V : PV) (p : Pln) (w : World) (h : PlC w V p) (hp : okPlan p = true) :
    Calls Tryd.prog 61 #[.agg (plv V)] w fun e w' => e = .returned (.bool (bare p)) ∧ Below w.heap.size w w' := by
  obtain ⟨l1, l2, l3, l4⟩ := okPlan_le hp
  obtain ⟨⟨Af, cf, e1, _⟩, ⟨At, ct, e2, _⟩, ⟨As, cs, e3, _⟩, ⟨Ab, cb, e4, _⟩⟩ := h
  obtain ⟨f, t, st, b⟩ := V
  dsimp only at e1 e2 e3 e4
  subst e1 e2 e3 e4
  unfold plv
  dsimp only
  have HB := Aside0.mk (below_alloc (Below.refl w.heap.size w) (.cells #[.slice Af p.1.length cf, .slice At p.2.1.length ct, .slice As p.2.2.1.length cs, .slice Ab p.2.2.2.length cb] 26))
  have HR : Aside0 (((((p.1.length : Int) + p.2.1.length) + p.2.2.1.length) + p.2.2.2.length == 0) = bare p) := ⟨by unfold bare; rw [Bool.eq_iff_iff, beq_iff_eq, decide_eq_true_eq]; omega⟩
  go_enter Tryd.func61, Tryd.ntmps61
  go_wp2
  go_ret
  refine ⟨?_, HB.out⟩
  rw [← HR.out]
  rfl
theorem stepped_T (k : Int) (w : World) : Calls Tryd.prog 62 #[.int .i64 k] w fun e w' => e = .returned (.bool (stepped k)) ∧ w = w' := by
  have hs : stepped k = (decide (2 ≤ k) && decide (k ≤ 4) || k == 6) := by unfold stepped; rw [Bool.decide_and]
  rw [hs]
  by_cases q1 : 2 ≤ k
  · by_cases q2 : k ≤ 4
    · clear hs
      go_enter Tryd.func62, Tryd.ntmps62
      go_wp2
      go_ret
      exact ⟨by simp [q1, q2], rfl⟩
    · rw [decide_eq_false q2, Bool.and_false, Bool.false_or]
      clear hs
      go_enter Tryd.func62, Tryd.ntmps62
      go_wp2
      go_ret
      exact ⟨rfl, rfl⟩
  · have HD : Aside0 (decide (2 ≤ k) = false) := ⟨decide_eq_false q1⟩
    clear hs
    go_enter Tryd.func62, Tryd.ntmps62
    go_wp2
    go_ret
    exact ⟨by rw [HD.out]; simp, rfl⟩
theorem last_T (e : Stp) (w : World) : Calls Tryd.prog 47 #[.agg #[.int .i64 e.1, .int .i64 e.2]] w fun r w' => r = .returned (.bool (isLast e)) ∧ Below w.heap.size w w' := by
  obtain ⟨a, b⟩ := e
  have HB := Aside0.mk (below_alloc (Below.refl w.heap.size w) (.cells #[.int .i64 a, .int .i64 b] 50))
  unfold isLast
  go_enter Tryd.func47, Tryd.ntmps47
  go_wp2
  go_ret
  exact ⟨rfl, HB.out⟩
set_option maxHeartbeats 8000000 in
theorem when_T (k ph : Int) (w : World) : Calls Tryd.prog 42 #[.int .i64 k, .int .i64 ph] w fun e w' => e = .returned (.bool (when k ph)) ∧ w = w' := by
  by_cases k1 : k = 1
  · subst k1
    by_cases p1 : ph = 0
    · subst p1
      go_enter Tryd.func42, Tryd.ntmps42
      go_wp2
      go_ret
      exact ⟨rfl, rfl⟩
    · have q1 : (ph == 0) = false := by simpa using p1
      by_cases p2 : ph = 4
      · subst p2
        go_enter Tryd.func42, Tryd.ntmps42
        go_wp2
        go_ret
        exact ⟨rfl, rfl⟩
      · have q2 : (ph == 4) = false := by simpa using p2
        have HP := Aside0.mk p1
        have HP2 := Aside0.mk p2
        clear p1 p2
        go_enter Tryd.func42, Tryd.ntmps42
        go_wp2
        go_ret
        exact ⟨by unfold when; simp [HP.out, HP2.out], rfl⟩
  have b1 : (k == 1) = false := by simpa using k1
  have H1 := Aside0.mk k1
  clear k1
  by_cases k2 : k = 2
  · subst k2
    clear b1
    by_cases p1 : ph = 1
    · subst p1
      go_enter Tryd.func42, Tryd.ntmps42
      go_wp2
      go_ret
      exact ⟨rfl, rfl⟩
    · have q1 : (ph == 1) = false := by simpa using p1
      have HP := Aside0.mk p1
      clear p1
      go_enter Tryd.func42, Tryd.ntmps42
      go_wp2
      go_ret
      exact ⟨by unfold when; simp [HP.out], rfl⟩
  have b2 : (k == 2) = false := by simpa using k2
  have H2 := Aside0.mk k2
  clear k2
  by_cases k3 : k = 3
  · subst k3
    clear b1 b2
    by_cases p1 : ph = 1
    · subst p1
      go_enter Tryd.func42, Tryd.ntmps42
      go_wp2
      go_ret
      exact ⟨rfl, rfl⟩
    · have q1 : (ph == 1) = false := by simpa using p1
      have HP := Aside0.mk p1
      clear p1
      go_enter Tryd.func42, Tryd.ntmps42
      go_wp2
      go_ret
      exact ⟨by unfold when; simp [HP.out], rfl⟩
  have b3 : (k == 3) = false := by simpa using k3
  have H3 := Aside0.mk k3
  clear k3
  by_cases k4 : k = 4
  · subst k4
    clear b1 b2 b3
    go_enter Tryd.func42, Tryd.ntmps42
    go_wp2
    go_ret
    exact ⟨rfl, rfl⟩
  have b4 : (k == 4) = false := by simpa using k4
  have H4 := Aside0.mk k4
  clear k4
  by_cases k5 : k = 5
  · subst k5
    clear b1 b2 b3 b4
    go_enter Tryd.func42, Tryd.ntmps42
    go_wp2
    go_ret
    exact ⟨rfl, rfl⟩
  have b5 : (k == 5) = false := by simpa using k5
  have H5 := Aside0.mk k5
  clear k5
  by_cases k7 : k = 7
  · subst k7
    clear b1 b2 b3 b4 b5
    go_enter Tryd.func42, Tryd.ntmps42
    go_wp2
    go_ret
    exact ⟨rfl, rfl⟩
  have b7 : (k == 7) = false := by simpa using k7
  have H7 := Aside0.mk k7
  clear k7
  by_cases k6 : k = 6
  · subst k6
    clear b1 b2 b3 b4 b5 b7
    go_enter Tryd.func42, Tryd.ntmps42
    go_wp2
    go_ret
    exact ⟨rfl, rfl⟩
  have b6 : (k == 6) = false := by simpa using k6
  have H6 := Aside0.mk k6
  clear k6
  have hw : when k ph = (ph == 3 || ph == 2) := by unfold when; rw [if_neg H1.out, if_neg (by rintro (h | h); exact H2.out h; exact H3.out h), if_neg (by rintro (h | h | h); exact H4.out h; exact H5.out h; exact H7.out h), if_neg H6.out]
  rw [hw]
  clear hw
  by_cases p1 : ph = 3
  · subst p1
    go_enter Tryd.func42, Tryd.ntmps42
    go_wp2
    go_ret
    exact ⟨rfl, rfl⟩
  · have q1 : (ph == 3) = false := by simpa using p1
    have HD := Aside0.mk q1
    clear p1
    go_enter Tryd.func42, Tryd.ntmps42
    go_wp2
    go_ret
    exact ⟨by rw [HD.out, Bool.false_or]; rfl, rfl⟩
end Go.Proofs.YtplhihakeodadaaDoor.Sg
