import Derived.Test.YthgokeogmikgbaaAnchor
import Derived.Laws.BitsAllLaws
namespace Go.Proofs.Ythgokeogmikgbaa.P
open Go Go.RowKit Go.Proofs.Ythgokeogmikgbaa.Fl Go.Proofs.YthgokeogmikgbaaW.PrintWords Go.Proofs.YthgokeogmikgbaaW.PrintLast Go.Proofs.YthgokeogmikgbaaW.PrintMore
set_option linter.unusedVariables false
set_option linter.unusedSimpArgs false
theorem run_toInt {P : Program} (hs : (P.underlying 27).isSome = true) (hd : P.underlying 3 = some (.int .i64)) (a : Int) (ha : Sm a) (w : World) : (convert 27 3 (.float .f64 (fl a))).run P w = .ok (.int .i64 a) w :=
  run_convert_float_int w 27 3 .f64 .i64 (fl a) a hs hd (by
    unfold floatToIntVal
    rw [show (FloatKind.f64.decode (fl a)).toInt .zero = some a from toInt_fl a ha.abs']
    dsimp only
    rw [if_pos]
    rw [show IntKind.i64.min = -9223372036854775808 from rfl, show IntKind.i64.max = 9223372036854775807 from rfl]
    unfold Sm at ha
    omega)
theorem Parts_calls (a b : Int) (h : PlaceP (a, b)) (w : World) : Calls Try.prog 9 #[cx a b] w fun e w' => e = .returned (.tuple #[.int .i64 a, .int .i64 b, .int .i64 0]) ∧ w' = w := by
  have hA : Sm a := ⟨by have := h.1.1; simp at this; omega, by have := h.1.2; simp at this; omega⟩
  have hB : Sm b := ⟨by have := h.2.1; simp at this; omega, by have := h.2.2; simp at this; omega⟩
  have KP := Aside0.mk (place_calls a b hA hB)
  rw [decide_eq_true (show (0 ≤ a ∧ a ≤ 1048576) ∧ 0 ≤ b ∧ b ≤ 1048576 from h)] at KP
  have k1 := run_toInt (P := Try.prog) (by kernel_rfl) Try.underlying3 a hA
  have k2 := run_toInt (P := Try.prog) (by kernel_rfl) Try.underlying3 b hB
  unfold cx at KP ⊢
  go_enter Try.func9, Try.ntmps9
  go_wp2_with (fail)
  refine (KP.out _).mono ?_
  rintro e w1 ⟨rfl, rfl⟩
  go_wp2
  go_ret3
  exact ⟨rfl, rfl⟩
theorem fl_neg (n : Nat) (h0 : 0 < n) (h : n < 2 ^ 30) : fl (-(n : Int)) = 9223372036854775808 + fl (n : Int) ∧ fl (n : Int) < 9223372036854775808 := by
  have h1 := nearest_pow true n 0 h0 h (by omega)
  have h2 := nearest_pow false n 0 h0 h (by omega)
  rw [Nat.pow_zero, Nat.mul_one] at h1 h2
  have e1 : fl (-(n : Int)) = Ieee.double.word true (rung n) := by
    rw [fl_eq, ← h1, decide_eq_true (show -(n : Int) < 0 by omega), Int.natAbs_neg, Int.natAbs_natCast]; rfl
  have e2 : fl (n : Int) = Ieee.double.word false (rung n) := by
    rw [fl_eq, ← h2, decide_eq_false (show ¬ (n : Int) < 0 by omega), Int.natAbs_natCast]; rfl
  have hr := rung_in h0 h
  have ei : Ieee.double.infRung = 2047 * 4503599627370496 := by decide
  rw [ei] at hr
  have e63 : Ieee.double.signWeight = 9223372036854775808 := by decide
  rw [e1, e2]
  unfold Ieee.Format.word
  rw [e63]
  refine ⟨rfl, ?_⟩
  show rung n < 9223372036854775808
  omega
theorem run_bits (x : Nat) (w : World) : (callFunc 18 #[.float .f64 x]).run Try.prog w = .ok (.value (.int .u64 (x : Int))) w := by
  rw [run_callFunc_extern (P := Try.prog) (f := 18) (fn := Try.f18) (e := Extern.MathFloatBits.float64bits) (by kernel_rfl) (by kernel_rfl) (by kernel_rfl) (by kernel_rfl) (by kernel_rfl)]
  rfl
theorem run_frombits (x : Nat) (w : World) : (callFunc 17 #[.int .u64 (x : Int)]).run Try.prog w = .ok (.value (.float .f64 x)) w := by
  rw [run_callFunc_extern (P := Try.prog) (f := 17) (fn := Try.f17) (e := Extern.MathFloatBits.float64frombits) (by kernel_rfl) (by kernel_rfl) (by kernel_rfl) (by kernel_rfl) (by kernel_rfl)]
  rfl
theorem andNot_top (x : Nat) (hx : x < 18446744073709551616) : Go.bits .andNot .u64 (x : Int) 9223372036854775808 = ((x % 9223372036854775808 : Nat) : Int) := by
  have h := u64_andNot_nat x 9223372036854775808 hx (by decide)
  rw [show ((9223372036854775808 : Nat) : Int) = 9223372036854775808 from rfl] at h
  rw [h, show (18446744073709551615 - 9223372036854775808 : Nat) = 2 ^ 63 - 1 by decide, Nat.and_two_pow_sub_one_eq_mod]
theorem fl_abs (a : Int) (ha : Sm a) : fl a < 18446744073709551616 ∧ fl a % 9223372036854775808 = fl (a.natAbs : Int) := by
  have e := ha.abs'
  rcases Int.lt_trichotomy a 0 with h | h | h
  · obtain ⟨n, rfl⟩ : ∃ n : Nat, a = -(n : Int) := ⟨a.natAbs, by omega⟩
    rw [Int.natAbs_neg, Int.natAbs_natCast] at e ⊢
    have := fl_neg n (by omega) e
    omega
  · subst h; rw [show ((0 : Int).natAbs : Int) = 0 from rfl, fl_zero]; omega
  · obtain ⟨n, rfl⟩ : ∃ n : Nat, a = (n : Int) := ⟨a.natAbs, by omega⟩
    rw [Int.natAbs_natCast] at e ⊢
    have := fl_neg n (by omega) e
    omega
theorem Abs_calls (a : Int) (ha : Sm a) (w : World) : Calls Try.prog 14 #[.float .f64 (fl a)] w fun e w' => e = .returned (.float .f64 (fl (a.natAbs : Int))) ∧ w' = w := by
  have k1 := run_bits (fl a)
  have k2 := run_frombits (fl (a.natAbs : Int))
  have k3 := andNot_top (fl a) (fl_abs a ha).1
  rw [(fl_abs a ha).2] at k3
  generalize fl a = x at *
  generalize fl (a.natAbs : Int) = y at *
  go_enter Try.func14, Try.ntmps14
  go_wp2
  go_ret
  exact ⟨rfl, rfl⟩
theorem run_real (u v : Int) (w : World) : (Builtin.real_ #[23] 27 #[cx u v]).run Try.prog w = .ok (.float .f64 (fl u)) w := by
  unfold cx
  go_simp
theorem run_imag (u v : Int) (w : World) : (Builtin.imag_ #[23] 27 #[cx u v]).run Try.prog w = .ok (.float .f64 (fl v)) w := by
  unfold cx
  go_simp
theorem Apart_calls (a b c d : Int) (h1 : PlaceP (a, b)) (h2 : PlaceP (c, d)) (w : World) : Calls Try.prog 10 #[cx a b, cx c d] w fun e w' => e = .returned (.tuple #[.int .i64 ((a - c).natAbs + (b - d).natAbs : Int), .int .i64 0]) ∧ w' = w := by
  have hA : Sm a := ⟨by have := h1.1.1; simp at this; omega, by have := h1.1.2; simp at this; omega⟩
  have hB : Sm b := ⟨by have := h1.2.1; simp at this; omega, by have := h1.2.2; simp at this; omega⟩
  have hC : Sm c := ⟨by have := h2.1.1; simp at this; omega, by have := h2.1.2; simp at this; omega⟩
  have hD : Sm d := ⟨by have := h2.2.1; simp at this; omega, by have := h2.2.2; simp at this; omega⟩
  have hE : Sm (a - c) := ⟨by have := h1.1.1; have := h2.1.2; simp at *; omega, by have := h1.1.2; have := h2.1.1; simp at *; omega⟩
  have hF : Sm (b - d) := ⟨by have := h1.2.1; have := h2.2.2; simp at *; omega, by have := h1.2.2; have := h2.2.1; simp at *; omega⟩
  have hE' : Sm ((a - c).natAbs : Int) := ⟨by unfold Sm at hE; omega, by unfold Sm at hE; omega⟩
  have hF' : Sm ((b - d).natAbs : Int) := ⟨by unfold Sm at hF; omega, by unfold Sm at hF; omega⟩
  have hG : Sm (((a - c).natAbs : Int) + ((b - d).natAbs : Int)) := ⟨by omega, by have := h1.1; have := h2.1; have := h1.2; have := h2.2; simp at *; omega⟩
  have KP := Aside0.mk (place_calls a b hA hB)
  rw [decide_eq_true (show (0 ≤ a ∧ a ≤ 1048576) ∧ 0 ≤ b ∧ b ≤ 1048576 from h1)] at KP
  have KQ := Aside0.mk (place_calls c d hC hD)
  rw [decide_eq_true (show (0 ≤ c ∧ c ≤ 1048576) ∧ 0 ≤ d ∧ d ≤ 1048576 from h2)] at KQ
  have ks := run_csub (P := Try.prog) 23 hA hB hC hD
  have kA := Aside0.mk (Abs_calls (a - c) hE)
  have kB := Aside0.mk (Abs_calls (b - d) hF)
  have kS := run_fadd (P := Try.prog) 27 hE' hF'
  have kT := run_toInt (P := Try.prog) (by kernel_rfl) Try.underlying3 _ hG
  clear hA hB hC hD hE hF hE' hF' hG h1 h2
  generalize ((a - c).natAbs : Int) = x at *
  generalize ((b - d).natAbs : Int) = y at *
  generalize x + y = z at *
  generalize a - c = u at *
  generalize b - d = v at *
  have k8 := run_real u v
  have k9 := run_imag u v
  go_enter Try.func10, Try.ntmps10
  go_wp2_with (fail)
  refine (KP.out _).mono ?_
  rintro e w1 ⟨rfl, rfl⟩
  go_wp2_with (fail)
  refine (KQ.out _).mono ?_
  rintro e w1 ⟨rfl, rfl⟩
  go_wp2_with (fail)
  refine (kA.out _).mono ?_
  rintro e w1 ⟨rfl, rfl⟩
  go_wp2_with (fail)
  refine (kB.out _).mono ?_
  rintro e w1 ⟨rfl, rfl⟩
  go_wp2
  go_ret2
  exact ⟨rfl, rfl⟩
end Go.Proofs.Ythgokeogmikgbaa.P
