import Derived.Test.YthgokeogmikgbaaThereLaw
import Derived.Test.YthgokeogmikgbaaPureGaussSteps
namespace Go.Proofs.Ythgokeogmikgbaa.P
open Go Go.RowKit Go.Proofs.Ythgokeogmikgbaa.Fl Go.Proofs.YthgokeogmikgbaaW.PrintWords Go.Proofs.YthgokeogmikgbaaW.PrintLast Go.Proofs.YthgokeogmikgbaaW.PrintMore
set_option linter.unusedVariables false
set_option linter.unusedSimpArgs false
attribute [local go_sem] max2_int min2_int max_two min_two max_three
set_option maxHeartbeats 4000000 in
set_option maxRecDepth 20000 in
theorem There_out (a b f n : Int) (h : ¬ Asked a b f n) (w : World) : Calls Try.prog 4 #[.int .i64 a, .int .i64 b, .int .i64 f, .int .i64 n] w fun e w' => e = .returned (.bool true) ∧ Below w.heap.size w w' := by
  obtain ⟨x, hx⟩ : ∃ x, (if a < b then b else a) = x := ⟨_, rfl⟩
  obtain ⟨y, hy⟩ : ∃ y, (if x < f then f else x) = y := ⟨_, rfl⟩
  have hd : (decide (a < 0) || decide (b < 0) || decide (f < 0) || decide (n < 0) || decide (524288 < y) || decide (50 < n)) = true := by
    unfold Asked at h
    simp only [Bool.or_eq_true, decide_eq_true_eq]
    omega
  clear h
  have lastly : ∀ d1 d2 d3 d4 d5 d6 : Bool, decide (a < 0) = d1 → decide (b < 0) = d2 → decide (f < 0) = d3 → decide (n < 0) = d4 → decide (524288 < y) = d5 → decide (50 < n) = d6 → (d1 || d2 || d3 || d4 || d5 || d6) = true →
      Calls Try.prog 4 #[.int .i64 a, .int .i64 b, .int .i64 f, .int .i64 n] w fun e w' => e = .returned (.bool true) ∧ Below w.heap.size w w' := by
    intro d1 d2 d3 d4 d5 d6 g1 g2 g3 g4 g5 g6 hor
    cases d1
    · cases d2
      · cases d3
        · cases d4
          · cases d5
            · cases d6
              · exact absurd hor (by decide)
              · clear hor
                go_enter Try.func4, Try.ntmps4
                go_wp2_with (fail)
                refine (anchor_calls _).mono ?_
                rintro e w1 ⟨rfl, HB⟩
                replace HB := Aside0.mk HB
                go_wp2
                go_ret
                exact ⟨rfl, HB.out⟩
            · clear hor g6
              go_enter Try.func4, Try.ntmps4
              go_wp2_with (fail)
              refine (anchor_calls _).mono ?_
              rintro e w1 ⟨rfl, HB⟩
              replace HB := Aside0.mk HB
              go_wp2
              go_ret
              exact ⟨rfl, HB.out⟩
          · clear hor g5 g6
            go_enter Try.func4, Try.ntmps4
            go_wp2_with (fail)
            refine (anchor_calls _).mono ?_
            rintro e w1 ⟨rfl, HB⟩
            replace HB := Aside0.mk HB
            go_wp2
            go_ret
            exact ⟨rfl, HB.out⟩
        · clear hor g4 g5 g6
          go_enter Try.func4, Try.ntmps4
          go_wp2_with (fail)
          refine (anchor_calls _).mono ?_
          rintro e w1 ⟨rfl, HB⟩
          replace HB := Aside0.mk HB
          go_wp2
          go_ret
          exact ⟨rfl, HB.out⟩
      · clear hor g3 g4 g5 g6
        go_enter Try.func4, Try.ntmps4
        go_wp2_with (fail)
        refine (anchor_calls _).mono ?_
        rintro e w1 ⟨rfl, HB⟩
        replace HB := Aside0.mk HB
        go_wp2
        go_ret
        exact ⟨rfl, HB.out⟩
    · clear hor g2 g3 g4 g5 g6
      go_enter Try.func4, Try.ntmps4
      go_wp2_with (fail)
      refine (anchor_calls _).mono ?_
      rintro e w1 ⟨rfl, HB⟩
      replace HB := Aside0.mk HB
      go_wp2
      go_ret
      exact ⟨rfl, HB.out⟩
  exact lastly _ _ _ _ _ _ rfl rfl rfl rfl rfl rfl hd
def slipwaylaw04_GaussThere.f (_k : Nat) (_a _b _c _d : Int) : Option Bool := some true
theorem slipwaylaw04_GaussThere.calls (k : Nat) (a b c d : Int) (r : Bool) (w : World) (h : slipwaylaw04_GaussThere.f k a b c d = some r) :
    Calls Try.prog 4 #[.int .i64 a, .int .i64 b, .int .i64 c, .int .i64 d] w fun e w' => e = .returned (.bool r) ∧ Below w.heap.size w w' := by
  obtain rfl := Option.some.inj h
  by_cases hq : Asked a b c d
  · exact There_calls a b c d hq w
  · exact There_out a b c d hq w
end Go.Proofs.Ythgokeogmikgbaa.P
namespace Go.Proofs.Ythgokeogmikgbaa.Pure
open Go Go.Proofs.Ythgokeogmikgbaa.P
set_option linter.unusedVariables false
theorem GaussThere (a : Int) (ha : (Lit.int .i64 a).wf = true) (b : Int) (hb : (Lit.int .i64 b).wf = true) (c : Int) (hc : (Lit.int .i64 c).wf = true) (d : Int) (hd : (Lit.int .i64 d).wf = true) : ∃ k, slipwaylaw04_GaussThere.f k a b c d = some true := ⟨0, rfl⟩
end Go.Proofs.Ythgokeogmikgbaa.Pure
