import Derived.Test.YtobogmcihnikeaaEvMore
import Derived.Test.YtobogmcihnikeaaPx6
namespace Go.Proofs.Ytobogmcihnikeaa.Pure
open Go.RowKit Go.Proofs.Ytobogmcihnikeaa.P Go.Proofs.Ytobogmcihnikeaa.Crc Go.Proofs.Ytobogmcihnikeaa.Read Go.Proofs.YtobogmcihnikeaaW.PrintWords Go.Proofs.YtobogmcihnikeaaW.PrintLast Go.Proofs.YtobogmcihnikeaaW.PrintMore

theorem ref_odd (c : Nat) (hc : c < 4294967296) : Int.tmod (c : Int) 2 = ((c % 2 : Nat) : Int) ∧ wrap64 (Int.tdiv (c : Int) 2) = ((c / 2 : Nat) : Int) := by
  rw [Int.tmod_eq_emod_of_nonneg (by omega), Int.tdiv_eq_ediv_of_nonneg (by omega)]
  exact ⟨by omega, by unfold wrap64; omega⟩
theorem ref_bits (l : List Int) (i r : Int) (j : Nat) : ∀ (c : Nat), c < 4294967296 → j ≤ 8 →
    Ev (fun k => slipwayref11_Of.l0 k l ((it j c : Nat) : Int) (wrap64 (i + 1))) r → Ev (fun k => slipwayref11_Of.l1 k l (c : Int) i (8 - (j : Int))) r := by
  induction j with
  | zero =>
    intro c hc _ h
    refine Ev.step (fun k => ?_) h
    rw [slipwayref11_Of.l1, if_neg (by omega)]
    rfl
  | succ j ih =>
    intro c hc hj h
    obtain ⟨h1, h2⟩ := ref_odd c hc
    refine Ev.step (f := fun k => slipwayref11_Of.l1 k l ((Crc.S c : Nat) : Int) i (8 - (j : Int))) (fun k => ?_) (ih (Crc.S c) (Crc.S_lt hc) (by omega) h)
    rw [slipwayref11_Of.l1, if_pos (by omega), h1, h2, show wrap64 (8 - ((j + 1 : Nat) : Int) + 1) = 8 - (j : Int) by unfold wrap64; omega]
    unfold Crc.S
    rcases Nat.mod_two_eq_zero_or_one c with e | e
    · rw [e, if_neg (by decide), if_neg (by decide)]
    · rw [e, if_pos (by rfl), if_pos (by rfl), show (2197175160 : Int) = ((2197175160 : Nat) : Int) from rfl, xor_i64 _ _ (by omega) (by decide)]
theorem ref_loop (l : List Int) (hl : B l) (hn : l.length ≤ 140737488355328) (d : Nat) : ∀ (c i : Nat), c < 4294967296 → i + d = l.length →
    Ev (fun k => slipwayref11_Of.l0 k l (c : Int) (i : Int)) ((reg c (nt (l.drop i)) ^^^ full : Nat) : Int) := by
  induction d with
  | zero =>
    intro c i hc hi
    refine Ev.step (f := fun _ => some _) (fun k => ?_) (Ev.now _)
    rw [slipwayref11_Of.l0, if_neg (by omega), List.drop_of_length_le (by omega), show (4294967295 : Int) = ((4294967295 : Nat) : Int) from rfl, xor_i64 _ _ (by omega) (by decide)]
    rfl
  | succ d ih =>
    intro c i hc hi
    have hlt : i < l.length := by omega
    have hx := hl l[i] (List.getElem_mem hlt)
    have hxr : Go.bits .xor .i64 (c : Int) (wrap64 (rd l (i : Int))) = ((c ^^^ (l[i]).toNat : Nat) : Int) := by
      rw [rd_at hlt, w64 (by omega) (by omega), show l[i] = (((l[i]).toNat : Nat) : Int) by omega]
      exact xor_i64 _ _ (by omega) (by omega)
    have hc' : c ^^^ (l[i]).toNat < 4294967296 := Nat.xor_lt_two_pow (n := 32) hc (by omega)
    have h := ref_bits l (i : Int) _ 8 _ hc' (Nat.le_refl _) (by
      rw [show wrap64 ((i : Int) + 1) = ((i + 1 : Nat) : Int) by unfold wrap64; omega]
      exact ih _ (i + 1) (it_lt 8 hc') (by omega))
    refine Ev.step (f := fun k => slipwayref11_Of.l1 k l ((c ^^^ (l[i]).toNat : Nat) : Int) (i : Int) 0) (fun k => ?_) ?_
    · rw [slipwayref11_Of.l0, if_pos (by omega), if_pos (by omega), hxr]
    · rw [List.drop_eq_getElem_cons hlt]
      exact h
/-- The document's sum. -/
theorem ref_ev (l : List Int) (hl : B l) (hn : l.length ≤ 140737488355328) : Ev (fun k => slipwayref11_Of.f k l) ((crc (nt l) : Nat) : Int) := by
  have h := ref_loop l hl hn l.length 4294967295 0 (by decide) (by omega)
  rw [List.drop_zero] at h
  exact h

theorem of_loop (ls : List (List Int)) (hl : ∀ l ∈ ls, B l) (hm : ls.length ≤ 50) (d : Nat) : ∀ (i : Nat), i + d = ls.length → (ls.take i).flatten.length ≤ 3000 →
    Ev (fun k => slipwaylaw11_SumOf.l0 k ls (ls.take i).flatten ((crc (nt (ls.take i).flatten) : Nat) : Int) ls (ls.length : Int) (i : Int)) true := by
  induction d with
  | zero =>
    intro i hi hs
    obtain rfl : i = ls.length := by omega
    rw [List.take_length] at hs ⊢
    have hB : B ls.flatten := fun x hx => by
      obtain ⟨l, h1, h2⟩ := List.mem_flatten.1 hx
      exact hl l h1 x h2
    refine Ev.step (f := fun k => (slipwayref11_Of.f k ls.flatten).bind fun t => (sum_Of.f k ls).bind fun u => if u = t then some (((crc (nt ls.flatten) : Nat) : Int) == t) else some false) (fun k => ?_) ?_
    · rw [slipwaylaw11_SumOf.l0, if_neg (by omega)]
    · have hlen : ∀ l ∈ ls, l.length ≤ 140737488355328 := fun l h => by
        have := (List.sublist_flatten_of_mem h).length_le
        omega
      refine Ev.bind (ref_ev _ hB (by omega)) (Ev.bind (Of_ev ls hl hlen (by omega)) (Ev_pos rfl ?_))
      rw [beq_self_eq_true]
      exact Ev.now _
  | succ d ih =>
    intro i hi hs
    have hlt : i < ls.length := by omega
    have hr : rd_L1 ls (i : Int) = ls[i] := by
      unfold rd_L1
      rw [Int.toNat_natCast, List.getD_eq_getElem?_getD, List.getElem?_eq_getElem hlt]
      rfl
    have hB := hl ls[i] (List.getElem_mem hlt)
    have hBp : B (ls.take i).flatten := fun x hx => by
      obtain ⟨l, h1, h2⟩ := List.mem_flatten.1 hx
      exact hl l (List.mem_of_mem_take h1) x h2
    have hw : wrap64 (3000 - ((ls.take i).flatten.length : Int)) = 3000 - ((ls.take i).flatten.length : Int) := by unfold wrap64; omega
    have hi1 : wrap64 ((i : Int) + 1) = ((i + 1 : Nat) : Int) := by unfold wrap64; omega
    by_cases c : ((ls[i]).length : Int) > 3000 - ((ls.take i).flatten.length : Int)
    · refine Ev.step (f := fun _ => some true) (fun k => ?_) (Ev.now _)
      rw [slipwaylaw11_SumOf.l0, if_pos (by omega), if_pos (by omega), if_pos (by omega), hr, hw, if_pos c]
    · have e : (ls.take (i + 1)).flatten = (ls.take i).flatten ++ ls[i] := by
        rw [List.take_succ_eq_append_getElem hlt, List.flatten_append, List.flatten_singleton]
      have h1 := More_ev (crc (nt (ls.take i).flatten)) (crc_lt (nt_lt hBp)) ls[i] hB (by omega)
      have h2 := ih (i + 1) (by omega) (by rw [e, List.length_append]; omega)
      rw [e] at h2
      refine Ev.step (f := fun k => (sum_More.f k ((crc (nt (ls.take i).flatten) : Nat) : Int) ls[i]).bind fun t => slipwaylaw11_SumOf.l0 k ls ((ls.take i).flatten ++ ls[i]) t ls (ls.length : Int) ((i + 1 : Nat) : Int)) (fun k => ?_) ?_
      · rw [slipwaylaw11_SumOf.l0, if_pos (by omega), if_pos (by omega), if_pos (by omega), hr, hw, if_neg c, if_pos (by omega), hi1]
      · refine Ev.bind h1 ?_
        rw [show reg (crc (nt (ls.take i).flatten) ^^^ full) (nt ls[i]) ^^^ full = crc (nt ((ls.take i).flatten ++ ls[i])) by
          unfold crc
          rw [xff, nt_append, reg_append]]
        exact h2
theorem SumOf (l0 : List (List Int)) (g0 : goodList (goodList (fun x => (Lit.int .u8 x).wf = true)) l0) : ∃ k, slipwaylaw11_SumOf.f k l0 = some true := by
  apply Ev.rounds (g := fun k => slipwaylaw11_SumOf.f k l0)
  unfold slipwaylaw11_SumOf.f
  refine Ev.bind anchor_ev (Ev_pos rfl ?_)
  by_cases c1 : (l0.length : Int) > 50
  · exact Ev_pos c1 (Ev.now _)
  refine Ev_neg c1 ?_
  have h := of_loop l0 (fun l hl => B_good (g0.2 l hl)) (by omega) l0.length 0 (by omega) (by simp)
  have e : crc (nt []) = 0 := by unfold crc; exact Nat.xor_self _
  simp only [List.take_zero, List.flatten_nil] at h
  rw [e] at h
  exact h
end Go.Proofs.Ytobogmcihnikeaa.Pure
