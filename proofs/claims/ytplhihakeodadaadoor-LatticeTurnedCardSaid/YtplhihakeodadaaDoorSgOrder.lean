/- digraph: TrailingZeros64, Order, walked. -/
import Derived.Test.YtplhihakeodadaaDoorSgReady
import Derived.Shelf.Spec.TrailingZeros
import Derived.ScopeJumps
namespace Go.Proofs.YtplhihakeodadaaDoor.Sg
open Go Go.RowKit Go.Proofs.YtplhihakeodadaaDoorW.PrintWords Go.Proofs.YtplhihakeodadaaDoorW.PrintLast Go.Proofs.YtplhihakeodadaaDoorW.PrintMore
set_option linter.unusedVariables false
set_option linter.unusedSimpArgs false
/-- The library's table lies as its initialiser lays it. -/
def TabW (w : World) : Prop := TabAt 0 Lib.deBruijn64tab w
theorem TabW.below {w w1 : World} (h : TabW w) (hb : Below w.heap.size w w1) : TabW w1 := fun j hj => pw_cell_below hb (h j hj)
set_option maxHeartbeats 1000000 in
theorem tz_core (x k idx : Nat) (w : World) (hx0 : ((x : Int) == 0) = false)
    (key : IntKind.u64.wrap (bits BinOp.and IntKind.u64 (x : Int) (IntKind.u64.wrap (-(x : Int))) * 285870213051353865) / 288230376151711744 = (idx : Int))
    (hi : idx < 64) (hk : k < 64) (hcell : w.cell? ⟨0, idx, none⟩ = some (.int .u8 k)) :
    Calls Tryd.prog 77 #[.int .u64 x] w fun e w' => e = .returned (.int .i64 k) ∧ w = w' := by
  go_enter Tryd.func77, Tryd.ntmps77
  go_wp2_with (simp only [key])
  go_ret
  exact ⟨rfl, rfl⟩
theorem TZ_T (x : Nat) (hx : x < 18446744073709551616) (hx0 : x ≠ 0) (w : World) (hT : TabW w) :
    Calls Tryd.prog 77 #[.int .u64 x] w fun e w' => e = .returned (.int .i64 (Lib.ctz 64 x : Nat)) ∧ w = w' := by
  obtain ⟨hlow, hk⟩ := Lib.lowest_bit 64 x hx0 hx
  obtain ⟨hi, htab⟩ := Lib.deBruijn64_at _ hk
  have hcell := hT _ hi
  rw [htab] at hcell
  exact tz_core x _ _ w (by simp; omega) (tz64_key x _ hx hx0 hlow) hi hk hcell
/-- The lowest bit. -/
theorem ctz_bit (n : Nat) (h0 : n ≠ 0) (h : n < 2 ^ 64) : n.testBit (Lib.ctz 64 n) = true ∧ Lib.ctz 64 n < 64 ∧ ∀ j, j < Lib.ctz 64 n → n.testBit j = false := by
  obtain ⟨m, hm, hk⟩ := Lib.ctzFrom_spec 64 n (by omega) h
  have e : Lib.ctz 64 n = Lib.ctzFrom 64 n := by simp [Lib.ctz, h0]
  rw [e]
  generalize Lib.ctzFrom 64 n = k at hm hk
  subst hm
  refine ⟨?_, hk, fun j hj => ?_⟩
  · rw [Nat.mul_comm, Nat.testBit_mul_two_pow]
    simp
  · rw [Nat.mul_comm, Nat.testBit_mul_two_pow]
    simp
    omega
def orderRun (E : List Stp) (N : Nat) : Nat → List Nat → Nat → List Nat
  | 0, out, _ => out
  | f + 1, out, s => if accR E s N = 0 then out else orderRun E N f (out ++ [Lib.ctz 64 (accR E s N)]) (s ||| 2 ^ Lib.ctz 64 (accR E s N))
/-- What Order says of a graph. -/
def orderErr (N : Int) (E : List Stp) : Int := if rightG N E then (if (orderRun E N.toNat (N.toNat + 1) [] 0).length < N.toNat then 21 else 0) else 20
theorem nodup_len : ∀ (N : Nat) (l : List Nat), l.Nodup → (∀ x ∈ l, x < N) → l.length ≤ N
  | 0, l, _, h => by
    cases l with
    | nil => simp
    | cons x l => exact absurd (h x List.mem_cons_self) (by omega)
  | N + 1, l, hn, h => by
    by_cases q : N ∈ l
    · have h1 := nodup_len N (l.erase N) (hn.erase N) (fun x hx => by
        have h2 := (hn.mem_erase_iff).1 hx
        have := h x h2.2
        have := h2.1
        omega)
      rw [List.length_erase_of_mem q] at h1
      omega
    · have := nodup_len N l hn (fun x hx => by
        have := h x hx
        have : x ≠ N := fun e => q (e ▸ hx)
        omega)
      omega
/-- A way so far: its nodes are the set's. -/
structure Way (N : Nat) (out : List Nat) (s : Nat) : Prop where
  nd : out.Nodup
  lt : ∀ x ∈ out, x < N
  bit : ∀ x, s.testBit x = decide (x ∈ out)
  sl : s < 2 ^ N
theorem Way.nil (N : Nat) : Way N [] 0 := ⟨List.nodup_nil, fun x h => by simp at h, fun x => by simp, Nat.two_pow_pos N⟩
theorem Way.step {N : Nat} {out : List Nat} {s i : Nat} (h : Way N out s) (hi : i < N) (hs : s.testBit i = false) : Way N (out ++ [i]) (s ||| 2 ^ i) where
  nd := by
    rw [List.nodup_append]
    refine ⟨h.nd, by simp, fun a ha b hb => ?_⟩
    rw [List.mem_singleton] at hb
    subst hb
    intro e
    subst e
    have := h.bit a
    rw [hs, decide_eq_true ha] at this
    cases this
  lt := fun x hx => by
    rcases List.mem_append.1 hx with hx | hx
    · exact h.lt x hx
    · rw [List.mem_singleton.1 hx]; exact hi
  bit := fun x => by
    rw [Nat.testBit_or, h.bit, Nat.testBit_two_pow]
    rw [Bool.eq_iff_iff]
    simp
    constructor
    · rintro (h | h)
      · exact .inl h
      · exact .inr h.symm
    · rintro (h | h)
      · exact .inl h
      · exact .inr h.symm
  sl := or_lt h.sl (pow_lt hi)
theorem Way.len {N : Nat} {out : List Nat} {s : Nat} (h : Way N out s) : out.length ≤ N := nodup_len N out h.nd h.lt
theorem rdy_clr {E : List Stp} {s i : Nat} (h : rdy E s i = true) : s.testBit i = false := by
  unfold rdy at h
  rw [Bool.and_eq_true] at h
  simpa using h.1
/-- The next node that may come. -/
theorem next_node {E : List Stp} {s N : Nat} (hN : N ≤ 64) (h : accR E s N ≠ 0) : Lib.ctz 64 (accR E s N) < N ∧ rdy E s (Lib.ctz 64 (accR E s N)) = true := by
  have hl := Nat.lt_of_lt_of_le (accR_lt E s N) (Nat.pow_le_pow_right (by decide) hN : 2 ^ N ≤ 2 ^ 64)
  obtain ⟨h1, _, _⟩ := ctz_bit _ h hl
  have h2 := accR_bit E s N (Lib.ctz 64 (accR E s N))
  rw [h1] at h2
  have := h2.symm
  rw [Bool.and_eq_true, decide_eq_true_eq] at this
  exact this
theorem or_grows {s i : Nat} (h : s.testBit i = false) : s < s ||| 2 ^ i := by
  rcases Nat.lt_or_ge s (s ||| 2 ^ i) with h1 | h1
  · exact h1
  · have h2 : s ||| 2 ^ i = s := Nat.le_antisymm h1 Nat.left_le_or
    have h3 := congrArg (fun z => z.testBit i) h2
    simp [h] at h3
end Go.Proofs.YtplhihakeodadaaDoor.Sg
