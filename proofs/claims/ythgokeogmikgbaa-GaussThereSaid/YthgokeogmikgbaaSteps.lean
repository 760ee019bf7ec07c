import Derived.Test.YthgokeogmikgbaaParts
import Derived.OwnWalk
import Derived.LoopTactic
import Derived.Deep.LoopGhost
namespace Go.Proofs.Ythgokeogmikgbaa.P
open Go Go.RowKit Go.Proofs.Ythgokeogmikgbaa.Fl Go.Proofs.YthgokeogmikgbaaW.PrintWords Go.Proofs.YthgokeogmikgbaaW.PrintLast Go.Proofs.YthgokeogmikgbaaW.PrintMore
set_option linter.unusedVariables false
set_option linter.unusedSimpArgs false
attribute [local go_sem] max2_int min2_int max_two min_two
def Place (v p : Int) : Prop := 0 ≤ v ∧ v ≤ 1048576 ∧ 0 ≤ p ∧ p ≤ 1048576
theorem At_calls (v p : Int) (h : Place v p) (w : World) : Calls Try.prog 7 #[.int .i64 v, .int .i64 p] w fun e w' => e = .returned (.tuple #[cx v p, .int .i64 0]) ∧ w' = w := by
  obtain ⟨h1, h2, h3, h4⟩ := h
  have e1 : decide ((if p < v then p else v) < 0) = false := decide_eq_false (by omega)
  have e2 : decide (1048576 < (if v < p then p else v)) = false := decide_eq_false (by omega)
  clear h1 h2 h3 h4
  go_enter Try.func7, Try.ntmps7
  go_wp2
  all_goals (go_ret2; exact ⟨rfl, rfl⟩)
theorem At_bad (v p : Int) (h : ¬ Place v p) (w : World) : Calls Try.prog 7 #[.int .i64 v, .int .i64 p] w fun e w' => e = .returned (.tuple #[.complex .f64 0 0, .int .i64 11]) ∧ w' = w := by
  unfold Place at h
  by_cases h1 : (if p < v then p else v) < 0
  · have e1 : decide ((if p < v then p else v) < 0) = true := decide_eq_true h1
    clear h1
    go_enter Try.func7, Try.ntmps7
    go_wp2
    all_goals (go_ret2; exact ⟨rfl, rfl⟩)
  · have e1 : decide ((if p < v then p else v) < 0) = false := decide_eq_false h1
    have e2 : decide (1048576 < (if v < p then p else v)) = true := decide_eq_true (by omega)
    clear h1
    go_enter Try.func7, Try.ntmps7
    go_wp2
    all_goals (go_ret2; exact ⟨rfl, rfl⟩)
theorem cx01 : Value.complex .f64 0 4607182418800017408 = cx 0 1 := by rw [cx, ← fl_one, fl_zero]
theorem cx00 : Value.complex .f64 0 0 = cx 0 0 := by rw [cx, fl_zero]
theorem Step_one (kind a b : Int) (h : kind = 1 ∨ kind = 3) (w : World) : Calls Try.prog 6 #[.int .i64 kind, .int .i64 a, .int .i64 b] w fun e w' => e = .returned (.tuple #[.complex .f64 0 4607182418800017408, .int .i64 0]) ∧ w' = w := by
  rcases h with rfl | rfl
  · go_enter Try.func6, Try.ntmps6
    go_wp2
    go_ret2
    exact ⟨rfl, rfl⟩
  · go_enter Try.func6, Try.ntmps6
    go_wp2
    go_ret2
    exact ⟨rfl, rfl⟩
theorem Step_none (kind a b : Int) (h1 : kind ≠ 1) (h2 : kind ≠ 2) (h3 : kind ≠ 3) (w : World) : Calls Try.prog 6 #[.int .i64 kind, .int .i64 a, .int .i64 b] w fun e w' => e = .returned (.tuple #[.complex .f64 0 0, .int .i64 12]) ∧ w' = w := by
  have e1 : (kind == 1) = false := beq_eq_false_iff_ne.2 h1
  have e2 : (kind == 2) = false := beq_eq_false_iff_ne.2 h2
  have e3 : (kind == 3) = false := beq_eq_false_iff_ne.2 h3
  clear h1 h2 h3
  go_enter Try.func6, Try.ntmps6
  go_wp2
  go_ret2
  exact ⟨rfl, rfl⟩
theorem Step_two (a b : Int) (ha : Place a 0) (hb : Place b 0) (w : World) : Calls Try.prog 6 #[.int .i64 2, .int .i64 a, .int .i64 b] w fun e w' => e = .returned (.tuple #[cx (b - a) 0, .int .i64 0]) ∧ w' = w := by
  have k1 := Aside0.mk (At_calls a 0 ha)
  have k2 := Aside0.mk (At_calls b 0 hb)
  have hs := run_csub (P := Try.prog) 23 (a := b) (b := 0) (c := a) (d := 0) ⟨by have := hb.1; omega, by have := hb.2.1; omega⟩ sm0 ⟨by have := ha.1; omega, by have := ha.2.1; omega⟩ sm0
  go_enter Try.func6, Try.ntmps6
  go_wp2_with (fail)
  refine (k1.out _).mono ?_
  rintro e w1 ⟨rfl, rfl⟩
  go_wp2_with (fail)
  refine (k2.out _).mono ?_
  rintro e w1 ⟨rfl, rfl⟩
  go_wp2
  go_ret2
  exact ⟨rfl, rfl⟩
theorem Step_two_bad (a b : Int) (h : ¬ (Place a 0 ∧ Place b 0)) (w : World) : Calls Try.prog 6 #[.int .i64 2, .int .i64 a, .int .i64 b] w fun e w' => e = .returned (.tuple #[.complex .f64 0 0, .int .i64 11]) ∧ w' = w := by
  by_cases ha : Place a 0
  · have k1 := Aside0.mk (At_calls a 0 ha)
    have k2 := Aside0.mk (At_bad b 0 (fun hb => h ⟨ha, hb⟩))
    go_enter Try.func6, Try.ntmps6
    go_wp2_with (fail)
    refine (k1.out _).mono ?_
    rintro e w1 ⟨rfl, rfl⟩
    go_wp2_with (fail)
    refine (k2.out _).mono ?_
    rintro e w1 ⟨rfl, rfl⟩
    go_wp2
    go_ret2
    exact ⟨rfl, rfl⟩
  · have k1 := Aside0.mk (At_bad a 0 ha)
    by_cases hb : Place b 0
    · have k2 := Aside0.mk (At_calls b 0 hb)
      go_enter Try.func6, Try.ntmps6
      go_wp2_with (fail)
      refine (k1.out _).mono ?_
      rintro e w1 ⟨rfl, rfl⟩
      go_wp2_with (fail)
      refine (k2.out _).mono ?_
      rintro e w1 ⟨rfl, rfl⟩
      go_wp2
      go_ret2
      exact ⟨rfl, rfl⟩
    · have k2 := Aside0.mk (At_bad b 0 hb)
      go_enter Try.func6, Try.ntmps6
      go_wp2_with (fail)
      refine (k1.out _).mono ?_
      rintro e w1 ⟨rfl, rfl⟩
      go_wp2_with (fail)
      refine (k2.out _).mono ?_
      rintro e w1 ⟨rfl, rfl⟩
      go_wp2
      go_ret2
      exact ⟨rfl, rfl⟩
def enc (p : Int × Int) : Value := cx p.1 p.2
theorem enc1 (p : Int × Int) : (enc p).oneCell' = true := rfl
abbrev Kcx : Kd (Int × Int) := Kd.scalar enc enc1
def IsStep (p : Int × Int) : Prop := (-1048576 ≤ p.1 ∧ p.1 ≤ 1048576) ∧ -1048576 ≤ p.2 ∧ p.2 ≤ 1048576
theorem at_cx {w : World} {A : Option Addr} {n : Nat} {xs : List (Int × Int)} (h : Kcx.C w A n xs) (i : Int) (h0 : 0 ≤ i) (h1 : i < n) : ∃ ad, A = some ad ∧ w.cell? (ad.add i.toNat) = some (cx (rdOf (0, 0) xs i).1 (rdOf (0, 0) xs i).2) :=
  ReadsOf.at_ (Kd.reads_of_C (enc := enc) (d := (0, 0)) (h1 := enc1) h) i h0 h1
theorem rdOf_nat {α : Type} {d : α} {xs : List α} {i : Nat} (h : i < xs.length) : rdOf d xs (i : Int) = xs[i] := by
  unfold rdOf
  rw [Int.toNat_natCast, List.getD_eq_getElem?_getD, List.getElem?_eq_getElem h]
  rfl
theorem steps_calls (l : List (Int × Int)) (A : Option Addr) (c : Nat) (w : World) (hl : ∀ p ∈ l, IsStep p) (hr : Kcx.C w A l.length l) (hc : l.length ≤ c) (hlen : l.length ≤ 140737488355328) :
    Calls Try.prog 11 #[.slice A l.length c] w fun e w' => e = .returned (.int .i64 0) ∧ w' = w := by
  have HL := Aside0.mk hl
  have HR := Aside0.mk hr
  have HN := Aside0.mk hlen
  clear hl hr hc hlen
  go_enter Try.func11, Try.ntmps11
  go_wp2
  go_loopg [4, 7] l.length (fun kq v4 v7 w' => ∃ i : Nat, v7 = .int .i64 (i : Int) ∧ Aside0 (i + kq = l.length) ∧ Aside0 (w' = w))
  case atStart => exact ⟨0, rfl, ⟨by omega⟩, ⟨rfl⟩⟩
  case round =>
    obtain ⟨i, rfl, HI, ⟨rfl⟩⟩ := hrel
    by_cases c1 : i < l.length
    · have e1 : decide ((i : Int) < (l.length : Int)) = true := decide_eq_true (by omega)
      obtain ⟨ad, ea, hx⟩ := at_cx HR.out (i : Int) (by omega) (by omega)
      rw [rdOf_nat c1, Int.toNat_natCast] at hx
      cases ea
      have hp := Aside0.mk (HL.out l[i] (List.getElem_mem c1))
      have hN := HN.out
      have ew : wrap64 ((i : Int) + 1) = ((i + 1 : Nat) : Int) := by unfold wrap64; omega
      have p1 : 0 ≤ (i : Int) := by omega
      have q1 : (i : Int) < (l.length : Int) := by omega
      replace p1 := eq_true p1
      replace q1 := eq_true q1
      generalize l[i] = p at hp hx
      obtain ⟨x, y⟩ := p
      have hs := Aside0.mk (step_calls x y ⟨by have := hp.out.1.1; simp at this; omega, by have := hp.out.1.2; simp at this; omega⟩ ⟨by have := hp.out.2.1; simp at this; omega, by have := hp.out.2.2; simp at this; omega⟩)
      rw [decide_eq_true (show (-1048576 ≤ x ∧ x ≤ 1048576) ∧ -1048576 ≤ y ∧ y ≤ 1048576 from hp.out)] at hs
      clear hN
      have C1 := Aside0.mk c1
      clear c1
      go_wp2_with (fail)
      refine (hs.out _).mono ?_
      rintro e w1 ⟨rfl, rfl⟩
      go_wp2
      go_roundg (gk - 1)
      case measure => have := HI.out; have := C1.out; omega
      case rel => exact ⟨i + 1, congrArg _ ew, ⟨by have := HI.out; have := C1.out; omega⟩, ⟨rfl⟩⟩
    · have e1 : decide (i < l.length) = false := decide_eq_false c1
      go_wp2
      go_ret
      exact ⟨rfl, rfl⟩
end Go.Proofs.Ythgokeogmikgbaa.P
