/- lattice: the document's count of the ways, set by set, plainly. -/
import Derived.Test.YtplhihakeodadaaDoorLtCtR
namespace Go.Proofs.YtplhihakeodadaaDoor.Sg
open Go Go.RowKit Go.Proofs.YtplhihakeodadaaDoor.IMap Go.Proofs.YtplhihakeodadaaDoorW.PrintWords Go.Proofs.YtplhihakeodadaaDoorW.PrintLast Go.Proofs.YtplhihakeodadaaDoorW.PrintMore
set_option linter.unusedVariables false
set_option linter.unusedSimpArgs false
variable {E : List Stp} {N : Nat}
/-- What is done when set s stands at node i. -/
def Ds (s i a b : Nat) : Bool := decide (a < s) || (decide (a = s) && decide (b < i))
def dpL (E : List Stp) (N : Nat) (D : Nat → Nat → Bool) : List Int := (List.range (2 ^ N)).map fun t => ((part E N D t : Nat) : Int)
theorem dp_len (D : Nat → Nat → Bool) : (dpL E N D).length = 2 ^ N := by simp [dpL]
theorem dp_get (D : Nat → Nat → Bool) {t : Nat} (h : t < 2 ^ N) : (dpL E N D).getD t 0 = ((part E N D t : Nat) : Int) := by
  simp [dpL, List.getD_eq_getElem?_getD, h]
theorem dp_at (D : Nat → Nat → Bool) {t : Nat} (h : t < (dpL E N D).length) : (dpL E N D)[t] = ((part E N D t : Nat) : Int) := by simp [dpL]
theorem dp_congr {D D' : Nat → Nat → Bool} (h : ∀ t, part E N D t = part E N D' t) : dpL E N D = dpL E N D' := List.map_congr_left fun t _ => by rw [h]
theorem dp_start : (List.replicate (2 ^ N) (0 : Int)).set 0 1 = dpL E N (Ds 0 0) := by
  have e : ∀ t, part E N (Ds 0 0) t = if t = 0 then 1 else 0 := fun t => by
    rw [part_congr (D' := fun _ _ => false) (fun s i _ _ _ => by simp [Ds]), part, sum_same (g := fun _ => 0) (fun i _ => by simp), sum_const]
    simp
  refine List.ext_getElem (by simp [dp_len]) fun i h1 h2 => ?_
  rw [dp_at, e, List.getElem_set]
  by_cases c : i = 0
  · subst c; simp
  · rw [if_neg (by omega), if_neg c]; simp
theorem dp_row (s : Nat) : dpL E N (Ds s N) = dpL E N (Ds (s + 1) 0) := dp_congr fun t => part_congr (fun a b hb _ _ => by
  unfold Ds
  rcases Nat.lt_trichotomy a s with c | c | c
  · rw [decide_eq_true c, decide_eq_true (by omega : a < s + 1)]; simp
  · rw [decide_eq_false (by omega : ¬ a < s), decide_eq_true c, decide_eq_true hb, decide_eq_true (by omega : a < s + 1)]; rfl
  · rw [decide_eq_false (by omega : ¬ a < s), decide_eq_false (by omega : ¬ a = s), decide_eq_false (by omega : ¬ a < s + 1)]; simp) t
theorem dp_skip {s i : Nat} (h : ways E N s = 0 ∨ rdy E s i = false) : dpL E N (Ds s i) = dpL E N (Ds s (i + 1)) := dp_congr fun t => part_congr (fun a b hb hr hw => by
  unfold Ds
  by_cases c : a = s
  · subst c
    have : b ≠ i := fun e => by
      subst e
      rcases h with h | h
      · exact hw h
      · rw [h] at hr; cases hr
    rw [show decide (b < i + 1) = decide (b < i) from decide_eq_decide.2 (by omega)]
  · rw [decide_eq_false c]; simp) t
theorem ds_own (s i : Nat) : part E N (Ds s i) s = ways E N s := part_full s fun j _ hb _ _ => by
  unfold Ds
  rw [decide_eq_true (clr_lt hb)]
  rfl
theorem ds_next {s i : Nat} (hi : i < N) (hr : rdy E s i = true) (t : Nat) : part E N (Ds s (i + 1)) t = part E N (Ds s i) t + if t = s ||| 2 ^ i then ways E N s else 0 := by
  rw [← part_add hi hr (by unfold Ds; simp)]
  refine part_congr (fun a b _ _ _ => ?_) t
  unfold Ds
  by_cases c : a = s
  · subst c
    by_cases c2 : b = i
    · subst c2; simp
    · rw [show decide (b < i + 1) = decide (b < i) from decide_eq_decide.2 (by omega), show (b == i) = false from beq_eq_false_iff_ne.2 c2]
      simp
  · rw [show (a == s) = false from beq_eq_false_iff_ne.2 c, decide_eq_false c]
    simp
theorem dp_step {s i : Nat} (hi : i < N) (hs : s < 2 ^ N) (hr : rdy E s i = true) : (dpL E N (Ds s i)).set (s ||| 2 ^ i) (((part E N (Ds s i) (s ||| 2 ^ i) + ways E N s : Nat) : Int)) = dpL E N (Ds s (i + 1)) := by
  refine List.ext_getElem (by simp [dp_len]) fun t h1 h2 => ?_
  rw [List.getElem_set, dp_at, dp_at, ds_next hi hr]
  by_cases c : t = s ||| 2 ^ i
  · subst c; simp
  · rw [if_neg (fun e => c e.symm), if_neg c]; simp
theorem dp_end {t : Nat} (h : t < 2 ^ N) : part E N (Ds (2 ^ N) 0) t = ways E N t := part_full t fun i _ hb _ _ => by
  unfold Ds
  rw [decide_eq_true (Nat.lt_trans (clr_lt hb) h)]
  rfl
theorem ds_small (hN : N ≤ 10) (s i t : Nat) : part E N (Ds s i) t ≤ 10000000000 := Nat.le_trans (part_le _ t) (ways_small hN t)
end Go.Proofs.YtplhihakeodadaaDoor.Sg
