import Derived.Test.YtobogmcihnikeaaEvMore
import Derived.Test.YtobogmcihnikeaaPx7
import Derived.Lib.Hide
namespace Go.Proofs.Ytobogmcihnikeaa.Pure
open Go.RowKit Go.Proofs.Ytobogmcihnikeaa.P Go.Proofs.Ytobogmcihnikeaa.Crc Go.Proofs.Ytobogmcihnikeaa.Read Go.Proofs.YtobogmcihnikeaaW.PrintWords Go.Proofs.YtobogmcihnikeaaW.PrintLast Go.Proofs.YtobogmcihnikeaaW.PrintMore

theorem flip_arith (at_ k : Nat) (h : at_ < 24000) (hk : k < 32) : wrap64 ((k : Int) + 1) = ((k + 1 : Nat) : Int) ∧ wrap64 ((at_ : Int) + (k : Int)) = ((at_ + k : Nat) : Int) ∧ wrap64 (Int.tdiv ((at_ + k : Nat) : Int) 8) = (((at_ + k) / 8 : Nat) : Int) ∧ Int.tmod ((at_ + k : Nat) : Int) 8 = (((at_ + k) % 8 : Nat) : Int) := by
  refine ⟨by unfold wrap64; omega, by unfold wrap64; omega, ?_, ?_⟩
  · rw [Int.tdiv_eq_ediv_of_nonneg (by omega)]
    unfold wrap64; omega
  · rw [Int.tmod_eq_emod_of_nonneg (by omega)]
    omega
theorem flip_bit (b k : Nat) (hb : b < 4294967296) (hk : k ≤ 32) : Go.bits .and .i64 (shr .i64 (b : Int) (k : Int)) 1 = ((b / 2 ^ k % 2 : Nat) : Int) := by
  have h1 : shr .i64 (b : Int) (k : Int) = ((b / 2 ^ k : Nat) : Int) := by
    unfold shr
    rw [Int.toNat_natCast, show min k IntKind.i64.bits = k from Nat.min_eq_left (Nat.le_trans hk (by decide))]
    norm_cast
  have h2 : b / 2 ^ k < 4611686018427387904 := Nat.lt_of_le_of_lt (Nat.div_le_self _ _) (Nat.lt_trans hb (by decide))
  rw [h1, and1_i64 _ h2]
theorem flip_shl (j : Nat) (hj : j < 8) : shl .u8 1 (j : Int) = ((2 ^ j : Nat) : Int) := by
  rcases (show j = 0 ∨ j = 1 ∨ j = 2 ∨ j = 3 ∨ j = 4 ∨ j = 5 ∨ j = 6 ∨ j = 7 by omega) with rfl | rfl | rfl | rfl | rfl | rfl | rfl | rfl <;> rfl
theorem flips_loop (l : List Int) (hl : B l) (hn : l.length ≤ 3000) (at_ b : Nat) (hat : at_ < 8 * l.length) (hb0 : 0 < b) (hb : b < 4294967296) (d : Nat) : ∀ (k : Nat) (c : List Int), k + d = 32 → B c → c.length = l.length →
    num (nt l) ^^^ num (nt c) = 2 ^ at_ * (b % 2 ^ k) → Ev (fun n => slipwaylaw11_SumFlips.l0 n l (at_ : Int) (b : Int) c (k : Int)) true := by
  induction d with
  | zero =>
    intro k c hk hc hcl hnum
    obtain rfl : k = 32 := by omega
    rw [Nat.mod_eq_of_lt (show b < 2 ^ 32 from hb)] at hnum
    have hne := crc_ne (a := nt l) (b := nt c) (by rw [nt_length, nt_length, hcl]) at_ b hnum (by rw [nt_length]; omega) hb0 hb
    refine Ev.step (f := fun n => (sum_Of.f n [l]).bind fun t => (sum_Of.f n [c]).bind fun u => some (t != u)) (fun n => ?_) ?_
    · rw [slipwaylaw11_SumFlips.l0, if_neg (by omega)]
    · refine Ev.bind (Of1_ev l hl (by omega)) (Ev.bind (Of1_ev c hc (by omega)) ?_)
      have : (((crc (nt l) : Nat) : Int) != ((crc (nt c) : Nat) : Int)) = true := by
        rw [bne_iff_ne]
        exact fun h => hne (by exact_mod_cast h)
      rw [this]
      exact Ev.now _
  | succ d ih =>
    intro k c hk hc hcl hnum_
    obtain ⟨hk1, hq, hq8, hr8⟩ := flip_arith at_ k (Nat.lt_of_lt_of_le hat (Nat.mul_le_mul_left 8 hn)) (Nat.lt_of_lt_of_le (Nat.lt_succ_self k) (hk ▸ Nat.add_le_add_left (Nat.succ_le_succ (Nat.zero_le d)) k))
    have hbit := flip_bit b k hb (Nat.le_of_lt (Nat.lt_of_lt_of_le (Nat.lt_succ_self k) (hk ▸ Nat.add_le_add_left (Nat.succ_le_succ (Nat.zero_le d)) k)))
    have hnum := Lib.hid hnum_
    clear hnum_
    by_cases hbt : b / 2 ^ k % 2 = 1
    · by_cases hp : (at_ + k) / 8 < l.length
      · have hpc : (at_ + k) / 8 < c.length := by omega
        have hx := hc c[(at_ + k) / 8] (List.getElem_mem hpc)
        have hsh := flip_shl ((at_ + k) % 8) (Nat.mod_lt _ (by decide))
        have h2 : (2 : Nat) ^ ((at_ + k) % 8) < 256 := Nat.pow_lt_pow_right (by decide) (show (at_ + k) % 8 < 8 by omega)
        have hv : Go.bits .xor .u8 (rd c (((at_ + k) / 8 : Nat) : Int)) ((2 ^ ((at_ + k) % 8) : Nat) : Int) = (((c[(at_ + k) / 8]).toNat ^^^ 2 ^ ((at_ + k) % 8) : Nat) : Int) := by
          rw [rd_at hpc, show c[(at_ + k) / 8] = (((c[(at_ + k) / 8]).toNat : Nat) : Int) by omega]
          exact u8_xor_nat _ _ (by omega) h2
        have hvl : (c[(at_ + k) / 8]).toNat ^^^ 2 ^ ((at_ + k) % 8) < 256 := Nat.xor_lt_two_pow (n := 8) (by omega) h2
        refine Ev.step (f := fun n => slipwaylaw11_SumFlips.l0 n l (at_ : Int) (b : Int) (c.set ((at_ + k) / 8) (((c[(at_ + k) / 8]).toNat ^^^ 2 ^ ((at_ + k) % 8) : Nat) : Int)) ((k + 1 : Nat) : Int)) (fun n => ?_) ?_
        · rw [slipwaylaw11_SumFlips.l0, if_pos (by omega), if_pos (by omega), hbit, hbt, if_pos (by rfl), hq, hq8, hr8, if_neg (by omega), if_pos (by omega), if_pos (by omega), if_pos (by omega), hsh, hv, hk1, Int.toNat_natCast]
        · refine ih (k + 1) _ (by omega) (B_set hc _ (by omega)) (by rw [List.length_set]; exact hcl) ?_
          rw [nt_set]
          have hpn : (at_ + k) / 8 < (nt c).length := by rw [nt_length]; exact hpc
          have e := num_set (nt c) ((at_ + k) / 8) (2 ^ ((at_ + k) % 8)) hpn
          rw [nt_at hpc] at e
          rw [e, ← Nat.xor_assoc, hnum.out, ← Nat.pow_add, show 8 * ((at_ + k) / 8) + (at_ + k) % 8 = at_ + k by omega, Nat.pow_add, ← pow_mul_xor, mod_step, if_pos]
          rw [Nat.testBit_eq_decide_div_mod_eq]
          exact decide_eq_true hbt
      · refine Ev.step (f := fun _ => some true) (fun n => ?_) (Ev.now _)
        rw [slipwaylaw11_SumFlips.l0, if_pos (by omega), if_pos (by omega), hbit, hbt, if_pos (by rfl), hq, hq8, if_pos (by omega)]
    · refine Ev.step (f := fun n => slipwaylaw11_SumFlips.l0 n l (at_ : Int) (b : Int) c ((k + 1 : Nat) : Int)) (fun n => ?_) ?_
      · rw [slipwaylaw11_SumFlips.l0, if_pos (by omega), if_pos (by omega), hbit, if_neg (by exact_mod_cast hbt), hk1]
      · refine ih (k + 1) c (by omega) hc hcl ?_
        rw [hnum.out, mod_step, if_neg]
        rw [Nat.testBit_eq_decide_div_mod_eq]
        simpa using hbt
theorem SumFlips (l0 : List Int) (g0 : goodList (fun x => (Lit.int .u8 x).wf = true) l0) (a1 : Int) (w1 : (Lit.int .i64 a1).wf = true) (a2 : Int) (w2 : (Lit.int .i64 a2).wf = true) : ∃ k, slipwaylaw11_SumFlips.f k l0 a1 a2 = some true := by
  apply Ev.rounds (g := fun k => slipwaylaw11_SumFlips.f k l0 a1 a2)
  have h1 := wf64 w1
  have h2 := wf64 w2
  have ht : Ev (fun k => slipwaylaw11_SumFlips.j0 k l0 a1 a2 true) true := Ev.step (f := fun _ => some true) (fun n => by rw [slipwaylaw11_SumFlips.j0, if_pos rfl]) (Ev.now _)
  unfold slipwaylaw11_SumFlips.f
  refine Ev.bind anchor_ev (Ev_pos rfl ?_)
  by_cases c1 : (l0.length : Int) > 3000
  · exact Ev_pos c1 ht
  refine Ev_neg c1 ?_
  by_cases c2 : a1 < 0
  · exact Ev_pos c2 ht
  refine Ev_neg c2 ?_
  rw [show wrap64 (8 * (l0.length : Int)) = 8 * (l0.length : Int) by unfold wrap64; omega]
  by_cases c3 : a1 ≥ 8 * (l0.length : Int)
  · exact Ev_pos c3 ht
  refine Ev_neg c3 ?_
  by_cases c4 : a2 < 1
  · exact Ev_pos c4 ht
  refine Ev_neg c4 ?_
  by_cases c5 : a2 ≥ 4294967296
  · rw [decide_eq_true c5]; exact ht
  rw [decide_eq_false c5]
  obtain ⟨at_, rfl⟩ := Int.eq_ofNat_of_zero_le (show 0 ≤ a1 by omega)
  obtain ⟨b, rfl⟩ := Int.eq_ofNat_of_zero_le (show 0 ≤ a2 by omega)
  have h := flips_loop l0 (B_good g0) (by omega) at_ b (by omega) (by omega) (by omega) 32 0 l0 (by omega) (B_good g0) rfl (by rw [Nat.xor_self, Nat.pow_zero, Nat.mod_one, Nat.mul_zero])
  refine Ev.step (f := fun n => slipwaylaw11_SumFlips.l0 n l0 (at_ : Int) (b : Int) l0 ((0 : Nat) : Int)) (fun n => ?_) h
  rw [slipwaylaw11_SumFlips.j0, if_neg (by decide), Option.bind_some, if_pos (by simp; omega), List.nil_append]
  rfl
end Go.Proofs.Ytobogmcihnikeaa.Pure
