import Derived.Test.YthgokeogmikgbaaProg
import Derived.Test.YthgokeogmikgbaaFl
import Derived.Test.YthgokeogmikgbaaWMore
import Derived.Test.YthgokeogmikgbaaWWords
import Derived.WalkKit
import Derived.WalkMore
import Derived.WalkLawsBesides
import Derived.WalkSpells
import Derived.KernelRfl
import Derived.Laws.Externs
import Derived.Laws.ComplexArith
import Derived.IntWalk
namespace Go.Proofs.Ythgokeogmikgbaa.P
open Go Go.RowKit Go.Proofs.Ythgokeogmikgbaa.Fl Go.Proofs.YthgokeogmikgbaaW.PrintWords Go.Proofs.YthgokeogmikgbaaW.PrintLast Go.Proofs.YthgokeogmikgbaaW.PrintMore
set_option linter.unusedVariables false
set_option linter.unusedSimpArgs false

/-- A complex number of two whole parts. -/
def cx (a b : Int) : Value := .complex .f64 (fl a) (fl b)
/-- A whole number that the floats tell without loss. -/
def Sm (a : Int) : Prop := -400000000 ≤ a ∧ a ≤ 400000000
theorem Sm.abs {a : Int} (h : Sm a) : a.natAbs < 2 ^ 29 := by
  rw [show (2 : Nat) ^ 29 = 536870912 by decide]; unfold Sm at h; omega
theorem Sm.abs' {a : Int} (h : Sm a) : a.natAbs < 2 ^ 30 := by
  rw [show (2 : Nat) ^ 30 = 1073741824 by decide]; unfold Sm at h; omega
theorem fl_big : (4697254411347427328 : Nat) = fl 1048576 := by decide
theorem fl_nbig : (13920626448202203136 : Nat) = fl (-1048576) := by decide
theorem fl_one : (4607182418800017408 : Nat) = fl 1 := by decide
theorem ord3 {a b : Int} (ha : Sm a) (hb : Sm b) : (a < b ∧ FloatKind.f64.format.order (fl a) (fl b) = some .lt) ∨ (a = b ∧ FloatKind.f64.format.order (fl a) (fl b) = some .eq) ∨ (b < a ∧ FloatKind.f64.format.order (fl a) (fl b) = some .gt) := by
  have ho : FloatKind.f64.format.order (fl a) (fl b) = some (compare a b) := order_fl a b ha.abs' hb.abs'
  rw [ho]
  rcases Int.lt_trichotomy a b with h | h | h
  · exact .inl ⟨h, by rw [Int.compare_eq_lt.2 h]⟩
  · exact .inr (.inl ⟨h, by rw [Int.compare_eq_eq.2 h]⟩)
  · exact .inr (.inr ⟨h, by rw [Int.compare_eq_gt.2 h]⟩)
theorem ord_geq {a b : Int} (ha : Sm a) (hb : Sm b) : (FloatKind.f64.format.order (fl a) (fl b) == some .gt || FloatKind.f64.format.order (fl a) (fl b) == some .eq) = decide (b ≤ a) := by
  rcases ord3 ha hb with ⟨h, e⟩ | ⟨h, e⟩ | ⟨h, e⟩ <;> rw [e]
  · rw [decide_eq_false (by omega)]; rfl
  · rw [decide_eq_true (by omega)]; rfl
  · rw [decide_eq_true (by omega)]; rfl
theorem ord_leq {a b : Int} (ha : Sm a) (hb : Sm b) : (FloatKind.f64.format.order (fl a) (fl b) == some .lt || FloatKind.f64.format.order (fl a) (fl b) == some .eq) = decide (a ≤ b) := by
  rcases ord3 ha hb with ⟨h, e⟩ | ⟨h, e⟩ | ⟨h, e⟩ <;> rw [e]
  · rw [decide_eq_true (by omega)]; rfl
  · rw [decide_eq_true (by omega)]; rfl
  · rw [decide_eq_false (by omega)]; rfl
theorem ord_eq {a b : Int} (ha : Sm a) (hb : Sm b) : (FloatKind.f64.format.order (fl a) (fl b) == some .eq) = decide (a = b) := by
  rcases ord3 ha hb with ⟨h, e⟩ | ⟨h, e⟩ | ⟨h, e⟩ <;> rw [e]
  · rw [decide_eq_false (by omega)]; rfl
  · rw [decide_eq_true (by omega)]; rfl
  · rw [decide_eq_false (by omega)]; rfl
theorem ord_lt {a b : Int} (ha : Sm a) (hb : Sm b) : (FloatKind.f64.format.order (fl a) (fl b) == some .lt) = decide (a < b) := by
  rcases ord3 ha hb with ⟨h, e⟩ | ⟨h, e⟩ | ⟨h, e⟩ <;> rw [e]
  · rw [decide_eq_true (by omega)]; rfl
  · rw [decide_eq_false (by omega)]; rfl
  · rw [decide_eq_false (by omega)]; rfl
theorem sm0 : Sm 0 := ⟨by decide, by decide⟩
theorem smM : Sm 1048576 := ⟨by decide, by decide⟩
theorem run_archTrunc (a : Int) (ha : Sm a) (w : World) : (callFunc 20 #[.float .f64 (fl a)]).run Try.prog w = .ok (.value (.float .f64 (fl a))) w := by
  rw [run_callFunc_extern (P := Try.prog) (f := 20) (fn := Try.f20) (e := Extern.MathFloor.toIntegral "math.archTrunc" .zero) (by kernel_rfl) (by kernel_rfl) (by kernel_rfl) (by kernel_rfl) (by kernel_rfl)]
  have h := integral_fl .zero a ha.abs'
  have hn : ∃ s m p, FloatKind.f64.decode (fl a) = .number s m p := by
    obtain ⟨j, _, h⟩ := read_fl a ha.abs'
    exact ⟨_, _, _, h⟩
  obtain ⟨s, m, p, hd⟩ := hn
  have hi : FloatKind.f64.encode ((FloatKind.f64.decode (fl a)).integral .zero) = fl a := by
    show Ieee.double.write ((Ieee.double.read (fl a)).integral .zero) = fl a
    rw [h]
    rfl
  rw [hd] at hi
  change Result.andThen (Sem.run Try.prog (match FloatKind.f64.decode (fl a) with | .nan s t => _ | d => pure (Value.float FloatKind.f64 (FloatKind.f64.encode (d.integral .zero)))) w) _ = _
  rw [hd]
  dsimp only
  rw [hi]
  rfl
theorem Trunc_calls (a : Int) (ha : Sm a) (w : World) : Calls Try.prog 19 #[.float .f64 (fl a)] w fun e w' => e = .returned (.float .f64 (fl a)) ∧ w' = w := by
  have hd := run_archTrunc a ha
  go_enter Try.func19, Try.ntmps19
  go_wp2
  go_ret
  exact ⟨rfl, rfl⟩
theorem whole_calls (a l : Int) (ha : Sm a) (hl : Sm l) (w : World) : Calls Try.prog 16 #[.float .f64 (fl a), .float .f64 (fl l)] w fun e w' => e = .returned (.bool (decide (l ≤ a ∧ a ≤ 1048576))) ∧ w' = w := by
  have c1 := ord_geq ha hl
  have c2 := ord_leq ha smM
  have c3 := ord_eq ha ha
  rw [← fl_big] at c2
  rw [decide_eq_true rfl] at c3
  by_cases h1 : l ≤ a
  · by_cases h2 : a ≤ 1048576
    · rw [decide_eq_true h1] at c1
      rw [decide_eq_true h2] at c2
      rw [decide_eq_true (show l ≤ a ∧ a ≤ 1048576 from ⟨h1, h2⟩)]
      clear h1 h2
      go_enter Try.func16, Try.ntmps16
      go_wp2_with (go_at_call 19; refine (Trunc_calls a ha w).mono ?_; rintro e w1 ⟨rfl, rfl⟩)
      go_ret
      exact ⟨rfl, rfl⟩
    · rw [decide_eq_true h1] at c1
      rw [decide_eq_false h2] at c2
      rw [decide_eq_false (show ¬ (l ≤ a ∧ a ≤ 1048576) from fun h => h2 h.2)]
      clear h1 h2
      go_enter Try.func16, Try.ntmps16
      go_wp2
      go_ret
      exact ⟨rfl, rfl⟩
  · rw [decide_eq_false h1] at c1
    rw [decide_eq_false (show ¬ (l ≤ a ∧ a ≤ 1048576) from fun h => h1 h.1)]
    clear h1
    go_enter Try.func16, Try.ntmps16
    go_wp2
    go_ret
    exact ⟨rfl, rfl⟩
theorem place_calls (a b : Int) (ha : Sm a) (hb : Sm b) (w : World) : Calls Try.prog 12 #[cx a b] w fun e w' => e = .returned (.bool (decide ((0 ≤ a ∧ a ≤ 1048576) ∧ 0 ≤ b ∧ b ≤ 1048576))) ∧ w' = w := by
  have k1 := whole_calls a 0 ha ⟨by decide, by decide⟩
  have k2 := whole_calls b 0 hb ⟨by decide, by decide⟩
  rw [fl_zero] at k1 k2
  replace k1 := Aside0.mk k1
  replace k2 := Aside0.mk k2
  unfold cx
  by_cases h1 : 0 ≤ a ∧ a ≤ 1048576
  · go_enter Try.func12, Try.ntmps12
    go_wp2_with (fail)
    refine (k1.out _).mono ?_
    rintro e w1 ⟨rfl, rfl⟩
    rw [decide_eq_true h1]
    go_wp2_with (fail)
    refine (k2.out _).mono ?_
    rintro e w1 ⟨rfl, rfl⟩
    go_wp2
    go_ret
    refine ⟨?_, rfl⟩
    simp only [h1, true_and, Bool.decide_and]
    rfl
  · go_enter Try.func12, Try.ntmps12
    go_wp2_with (fail)
    refine (k1.out _).mono ?_
    rintro e w1 ⟨rfl, rfl⟩
    rw [decide_eq_false h1]
    go_wp2
    go_ret
    refine ⟨?_, rfl⟩
    rw [decide_eq_false (fun h => h1 h.1)]
    rfl
theorem step_calls (a b : Int) (ha : Sm a) (hb : Sm b) (w : World) : Calls Try.prog 15 #[cx a b] w fun e w' => e = .returned (.bool (decide ((-1048576 ≤ a ∧ a ≤ 1048576) ∧ -1048576 ≤ b ∧ b ≤ 1048576))) ∧ w' = w := by
  have k1 := whole_calls a (-1048576) ha ⟨by decide, by decide⟩
  have k2 := whole_calls b (-1048576) hb ⟨by decide, by decide⟩
  rw [← fl_nbig] at k1 k2
  replace k1 := Aside0.mk k1
  replace k2 := Aside0.mk k2
  unfold cx
  by_cases h1 : -1048576 ≤ a ∧ a ≤ 1048576
  · go_enter Try.func15, Try.ntmps15
    go_wp2_with (fail)
    refine (k1.out _).mono ?_
    rintro e w1 ⟨rfl, rfl⟩
    rw [decide_eq_true h1]
    go_wp2_with (fail)
    refine (k2.out _).mono ?_
    rintro e w1 ⟨rfl, rfl⟩
    go_wp2
    go_ret
    refine ⟨?_, rfl⟩
    simp only [h1, true_and, Bool.decide_and]
    rfl
  · go_enter Try.func15, Try.ntmps15
    go_wp2_with (fail)
    refine (k1.out _).mono ?_
    rintro e w1 ⟨rfl, rfl⟩
    rw [decide_eq_false h1]
    go_wp2
    go_ret
    refine ⟨?_, rfl⟩
    rw [decide_eq_false (fun h => h1 h.1)]
    rfl
theorem run_fadd {P : Program} (t : TypeId) {a b : Int} (ha : Sm a) (hb : Sm b) (w : World) : (binOp .add t (.float .f64 (fl a)) (.float .f64 (fl b))).run P w = .ok (.float .f64 (fl (a + b))) w :=
  run_float_arith w .add t .f64 _ _ _ (add_fl a b ha.abs hb.abs)
theorem run_cadd {P : Program} (t : TypeId) {a b c d : Int} (ha : Sm a) (hb : Sm b) (hc : Sm c) (hd : Sm d) (w : World) : (binOp .add t (cx a b) (cx c d)).run P w = .ok (cx (a + c) (b + d)) w :=
  run_complex_sum w .add (.inl rfl) t .f64 _ _ _ _ _ _ (by unfold cSumBits floatBits; show (Ieee.double.add _ _).bind _ = _; rw [add_fl a c ha.abs hc.abs]; show (Ieee.double.add _ _).bind _ = _; rw [add_fl b d hb.abs hd.abs]; rfl)
theorem run_csub {P : Program} (t : TypeId) {a b c d : Int} (ha : Sm a) (hb : Sm b) (hc : Sm c) (hd : Sm d) (w : World) : (binOp .sub t (cx a b) (cx c d)).run P w = .ok (cx (a - c) (b - d)) w :=
  run_complex_sum w .sub (.inr rfl) t .f64 _ _ _ _ _ _ (by unfold cSumBits floatBits; show (Ieee.double.sub _ _).bind _ = _; rw [sub_fl a c ha.abs hc.abs]; show (Ieee.double.sub _ _).bind _ = _; rw [sub_fl b d hb.abs hd.abs]; rfl)
theorem tidy_calls (a b : Int) (ha : Sm a) (hb : Sm b) (w : World) : Calls Try.prog 13 #[cx a b] w fun e w' => e = .returned (cx a b) ∧ w' = w := by
  have k1 := run_fadd (P := Try.prog) 27 ha (b := 0) ⟨by decide, by decide⟩
  have k2 := run_fadd (P := Try.prog) 27 hb (b := 0) ⟨by decide, by decide⟩
  rw [fl_zero, Int.add_zero] at k1 k2
  unfold cx
  go_enter Try.func13, Try.ntmps13
  go_wp2
  go_ret
  exact ⟨rfl, rfl⟩
end Go.Proofs.Ythgokeogmikgbaa.P
