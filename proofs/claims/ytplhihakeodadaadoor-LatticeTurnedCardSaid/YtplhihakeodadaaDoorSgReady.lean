/- digraph: ready, walked. -/
import Derived.Test.YtplhihakeodadaaDoorSgAhead
namespace Go.Proofs.YtplhihakeodadaaDoor.Sg
open Go Go.RowKit Go.Proofs.YtplhihakeodadaaDoorW.PrintWords Go.Proofs.YtplhihakeodadaaDoorW.PrintLast Go.Proofs.YtplhihakeodadaaDoorW.PrintMore
set_option linter.unusedVariables false
set_option linter.unusedSimpArgs false
/-- What a has and b has not. -/
def andN (a b : Nat) : Nat := (BitVec.ofNat 64 a &&& ~~~BitVec.ofNat 64 b).toNat
theorem andN_lt (a b : Nat) : andN a b < 2 ^ 64 := BitVec.isLt _
theorem andN_bit (a b i : Nat) (ha : a < 2 ^ 64) : (andN a b).testBit i = (a.testBit i && !b.testBit i) := by
  unfold andN
  rw [BitVec.testBit_toNat]
  by_cases h : i < 64
  · rw [BitVec.getLsbD_and, BitVec.getLsbD_not, BitVec.getLsbD_ofNat, BitVec.getLsbD_ofNat]
    simp only [h, decide_true, Bool.true_and]
  · rw [BitVec.getLsbD_of_ge _ _ (by omega), Nat.testBit_lt_two_pow (Nat.lt_of_lt_of_le ha (Nat.pow_le_pow_right (by decide) (by omega)))]
    rfl
theorem andNU (a b : Nat) : bits .andNot .u64 (a : Int) (b : Int) = ((andN a b : Nat) : Int) := by
  unfold andN
  simp only [bits, BitVec.ofInt_natCast]
  have := (BitVec.ofNat 64 a &&& ~~~BitVec.ofNat 64 b).isLt
  show IntKind.u64.wrap (((BitVec.ofNat 64 a &&& ~~~BitVec.ofNat 64 b).toNat : Nat) : Int) = _
  generalize (BitVec.ofNat 64 a &&& ~~~BitVec.ofNat 64 b).toNat = y at this ⊢
  simp only [IntKind.wrap, IntKind.bits, IntKind.signed]
  simp
  omega
theorem clr (s i : Nat) (hs : s < 2 ^ 64) : (bits .and .u64 ((s : Int) / 2 ^ i) 1 == 0) = !s.testBit i := by
  have e : ((s : Int) / 2 ^ i) = ((s / 2 ^ i : Nat) : Int) := by simp
  have h := (bits_nat .u64 64 (by decide) (fun n h0 h1 => by simp only [IntKind.wrap, IntKind.bits, IntKind.signed]; simp; omega) (s / 2 ^ i) 1 (Nat.lt_of_le_of_lt (Nat.div_le_self _ _) hs) (by decide)).1
  rw [e, show (1 : Int) = ((1 : Nat) : Int) from rfl, h, Nat.and_one_is_mod, Nat.testBit_eq_decide_div_mod_eq]
  generalize s / 2 ^ i = y
  rw [Bool.eq_iff_iff]
  simp
  omega
/-- Whether a node may come next behind a set. -/
def rdy (E : List Stp) (s i : Nat) : Bool := !s.testBit i && (andN (preds E i) s == 0)
/-- The first n nodes that may come next. -/
def accR (E : List Stp) (s : Nat) : Nat → Nat
  | 0 => 0
  | i + 1 => if rdy E s i then accR E s i ||| 2 ^ i else accR E s i
theorem accR_lt (E : List Stp) (s n : Nat) : accR E s n < 2 ^ n := by
  induction n with
  | zero => exact Nat.zero_lt_one
  | succ n ih =>
    have : accR E s n < 2 ^ (n + 1) := Nat.lt_trans ih (pow_lt (by omega))
    unfold accR
    split
    · exact or_lt this (pow_lt (by omega))
    · exact this
theorem accR_bit (E : List Stp) (s n i : Nat) : (accR E s n).testBit i = (decide (i < n) && rdy E s i) := by
  induction n with
  | zero => simp [accR]
  | succ n ih =>
    unfold accR
    by_cases q : i = n
    · subst q
      have h0 : (accR E s i).testBit i = false := by rw [ih]; simp
      split
      · rename_i h; rw [Nat.testBit_or, h0, Nat.testBit_two_pow_self, h]; simp
      · rename_i h; rw [h0, Bool.eq_false_iff.2 h]; simp
    · have e : decide (i < n + 1) = decide (i < n) := by simp; omega
      rw [e]
      split
      · rw [Nat.testBit_or, ih, Nat.testBit_two_pow_of_ne (fun e => q e.symm), Bool.or_false]
      · exact ih
theorem at_u64 {w : World} {A : Option Addr} {n : Nat} {l : List Int} (h : Kd.C kU w A n l) (i : Nat) (hi : i < n) : ∃ ad, A = some ad ∧ w.cell? (ad.add i) = some (.int .u64 (l.getD i 0)) := by
  obtain ⟨ad, cs, ea, hcl, hK, hcc⟩ := Kd.C_get h 0 (i : Int) (by omega) (by omega)
  rw [Int.toNat_natCast] at hK hcc
  cases hK
  refine ⟨ad, ea, ?_⟩
  have := (show w.cell? (ad.add (i * 1 + 0)) = _ from hcc 0 _ rfl)
  rwa [Nat.mul_one, Nat.add_zero] at this
set_option maxHeartbeats 8000000 in
set_option maxRecDepth 20000 in
theorem ready_T (N : Nat) (E : List Stp) (A : Option Addr) (c s : Nat) (w : World) (hs : s < 2 ^ 64) (h : Kd.C kP w A E.length E) (hR : rightG N E = true) :
    Calls Tryd.prog 76 #[.agg #[.int .i64 (N : Int), .slice A E.length c], .int .u64 (s : Int)] w fun e w' => e = .returned (.int .u64 ((accR E s N : Nat) : Int)) ∧ Below w.heap.size w w' := by
  obtain ⟨hE, ⟨hN0, hN1⟩, hl, hEN⟩ := rightG_in hR
  have HE := Aside0.mk hE
  have HS := Aside0.mk hs
  have HN : Aside0 (N ≤ 64) := ⟨by omega⟩
  have hb := below_alloc (Below.refl w.heap.size w) (.cells #[.int .i64 (N : Int), .slice A E.length c] 62)
  have HB0 := Aside0.mk hb
  have K := Aside0.mk (ahead_T N E A c (w.alloc (.cells #[.int .i64 (N : Int), .slice A E.length c] 62)) (Kd.C_below h hb) hR)
  have hg0 := (blk_cell (heap_last w (.cells #[.int .i64 (N : Int), .slice A E.length c] 62))) 0
  have hg1 := (blk_cell (heap_last w (.cells #[.int .i64 (N : Int), .slice A E.length c] 62))) 1
  clear h hl hE hEN hR hN0 hN1 hb hs
  go_enter Tryd.func76, Tryd.ntmps76
  go_wp2_with (fail)
  refine K.out.mono ?_
  rintro e w1 ⟨v, rfl, hr, hb⟩
  obtain ⟨A1, c1, rfl⟩ := Kd.R_slice hr
  obtain ⟨_, _, hC⟩ := Kd.R_reads' hr
  have HC := Aside0.mk hC
  have HB := Aside0.mk (below_step HB0.out hb)
  clear hg0 hg1 hr hb hC K HB0
  rw [ahd_len]
  go_wp2
  go_loopg [5, 11] N (fun kq v5 v11 w' => ∃ (i : Nat), v5 = .int .u64 ((accR E s i : Nat) : Int) ∧ v11 = .int .i64 (i : Int) ∧ Aside0 (i + kq = N) ∧ w' = w1)
  case atStart => exact ⟨0, rfl, rfl, ⟨by omega⟩, rfl⟩
  case round =>
    obtain ⟨i, rfl, rfl, HJ, rfl⟩ := hrel
    by_cases c2 : i < N
    · have e1 : decide (i < N) = true := decide_eq_true c2
      have HE5 : Aside0 (wrap64 ((i : Int) + 1) = ((i + 1 : Nat) : Int)) := ⟨by have := HN.out; unfold wrap64; omega⟩
      have hx := at_u64 HC.out i (by rw [ahd_len]; exact c2)
      obtain ⟨ad, ea, hx⟩ := hx
      cases ea
      rw [ahd_get _ _ _ c2] at hx
      obtain ⟨p, hp⟩ : ∃ p, preds E i = p := ⟨_, rfl⟩
      obtain ⟨a, ha⟩ : ∃ p, accR E s i = p := ⟨_, rfl⟩
      have hi64 : i < 64 := by have := HN.out; omega
      have hal : a < 2 ^ 64 := by rw [← ha]; exact Nat.lt_of_lt_of_le (accR_lt E s i) (Nat.pow_le_pow_right (by decide) (by omega))
      have hc := clr s i HS.out
      have hn := andNU p s
      have s0 : min i 64 = i := by omega
      have s1 := shlU i hi64
      have s2 := orPow a i hal hi64
      obtain ⟨z, hz⟩ : ∃ p', andN p s = p' := ⟨_, rfl⟩
      rw [hz] at hn
      obtain ⟨b, hb⟩ : ∃ b, s.testBit i = b := ⟨_, rfl⟩
      rw [hb] at hc
      have HR : Aside0 (accR E s (i + 1) = if (!b && (z == 0)) = true then a ||| 2 ^ i else a) := ⟨by rw [accR, rdy, hp, ha, hz, hb]⟩
      have HI := Aside0.mk c2
      rw [hp] at hx
      rw [ha]
      clear hp ha hz hb
      cases b with
      | true =>
        go_wp2
        go_roundg (gk - 1)
        case measure => have := HJ.out; have := HI.out; omega
        case rel => exact ⟨i + 1, by rw [HR.out]; rfl, (by first | exact congrArg _ HE5.out | rfl), ⟨by have := HJ.out; have := HI.out; omega⟩, rfl⟩
      | false =>
        by_cases q : z = 0
        · subst q
          go_wp2
          go_roundg (gk - 1)
          case measure => have := HJ.out; have := HI.out; omega
          case rel => exact ⟨i + 1, by rw [HR.out]; rfl, (by first | exact congrArg _ HE5.out | rfl), ⟨by have := HJ.out; have := HI.out; omega⟩, rfl⟩
        · have q1 : ((z : Int) == 0) = false := by simp; omega
          have HQ := Aside0.mk q
          go_wp2
          go_roundg (gk - 1)
          case measure => have := HJ.out; have := HI.out; omega
          case rel => exact ⟨i + 1, by rw [HR.out, if_neg (by simp [HQ.out])], (by first | exact congrArg _ HE5.out | rfl), ⟨by have := HJ.out; have := HI.out; omega⟩, rfl⟩
    · have e1 : decide (i < N) = false := decide_eq_false c2
      have HI : Aside0 (i = N) := ⟨by have := HJ.out; omega⟩
      go_wp2
      go_ret
      exact ⟨by rw [← HI.out]; rfl, HB.out⟩
end Go.Proofs.YtplhihakeodadaaDoor.Sg
