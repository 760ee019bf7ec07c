import Derived.Test.YtobogmcihnikeaaEvMore
import Derived.Test.YtobogmcihnikeaaPx8
namespace Go.Proofs.Ytobogmcihnikeaa.Pure
open Go.RowKit Go.Proofs.Ytobogmcihnikeaa.P Go.Proofs.Ytobogmcihnikeaa.Crc Go.Proofs.Ytobogmcihnikeaa.Read Go.Proofs.YtobogmcihnikeaaW.PrintWords Go.Proofs.YtobogmcihnikeaaW.PrintLast Go.Proofs.YtobogmcihnikeaaW.PrintMore

theorem linear_loop (a b c : List Int) (ha : B a) (hb : B b) (hc : B c) (hbl : b.length = a.length) (hcl : c.length = a.length) (hn : a.length ≤ 2000) (m : Nat) : ∀ (i : Nat) (d : List Int), i + m = a.length → B d → d.length = a.length →
    (∀ j, ∀ (h : j < a.length) (h1 : j < b.length) (h2 : j < c.length) (h3 : j < d.length), j < i → d[j] = (((a[j]).toNat ^^^ (b[j]).toNat ^^^ (c[j]).toNat : Nat) : Int)) →
    Ev (fun n => slipwaylaw11_SumLinear.l0 n a b c d (a.length : Int) (i : Int)) true := by
  induction m with
  | zero =>
    intro i d hi hd hdl hx
    have hl := crc_linear (nt a) (nt b) (nt c) (nt d) (by simp [nt_length, hbl]) (by simp [nt_length, hcl]) (by simp [nt_length, hdl])
      (num_xor3 _ _ _ _ (by simp [nt_length, hbl]) (by simp [nt_length, hcl]) (by simp [nt_length, hdl]) fun j h h1 h2 h3 => by
        rw [nt_length] at h h1 h2 h3
        rw [nt_at h, nt_at h1, nt_at h2, nt_at h3, hx j h h1 h2 h3 (by omega), Int.toNat_natCast])
    refine Ev.step (f := fun n => (sum_Of.f n [d]).bind fun t => (sum_Of.f n [a]).bind fun u => (sum_Of.f n [b]).bind fun v => (sum_Of.f n [c]).bind fun w => some (t == Go.bits .xor .i64 (Go.bits .xor .i64 u v) w)) (fun n => ?_) ?_
    · rw [slipwaylaw11_SumLinear.l0, if_neg (by omega)]
    · refine Ev.bind (Of1_ev d hd (by omega)) (Ev.bind (Of1_ev a ha (by omega)) (Ev.bind (Of1_ev b hb (by omega)) (Ev.bind (Of1_ev c hc (by omega)) ?_)))
      have h1 := crc_lt (nt_lt ha)
      have h2 := crc_lt (nt_lt hb)
      have h3 := crc_lt (nt_lt hc)
      have h4 : crc (nt a) ^^^ crc (nt b) < 4294967296 := Nat.xor_lt_two_pow (n := 32) h1 h2
      rw [xor_i64 _ _ (Nat.lt_trans h1 (by decide)) (Nat.lt_trans h2 (by decide)), xor_i64 _ _ (Nat.lt_trans h4 (by decide)) (Nat.lt_trans h3 (by decide)), ← hl, beq_self_eq_true]
      exact Ev.now _
  | succ m ih =>
    intro i d hi hd hdl hx
    have h0 : i < a.length := by omega
    have h1 : i < b.length := by omega
    have h2 : i < c.length := by omega
    have h3 : i < d.length := by omega
    have xa := ha _ (List.getElem_mem h0)
    have xb := hb _ (List.getElem_mem h1)
    have xc := hc _ (List.getElem_mem h2)
    have l1 : (a[i]).toNat ^^^ (b[i]).toNat < 256 := Nat.xor_lt_two_pow (n := 8) (by omega) (by omega)
    have l2 : (a[i]).toNat ^^^ (b[i]).toNat ^^^ (c[i]).toNat < 256 := Nat.xor_lt_two_pow (n := 8) l1 (by omega)
    have hv : Go.bits .xor .u8 (Go.bits .xor .u8 (rd a (i : Int)) (rd b (i : Int))) (rd c (i : Int)) = (((a[i]).toNat ^^^ (b[i]).toNat ^^^ (c[i]).toNat : Nat) : Int) := by
      rw [rd_at h0, rd_at h1, rd_at h2, show a[i] = (((a[i]).toNat : Nat) : Int) by omega, show b[i] = (((b[i]).toNat : Nat) : Int) by omega, show c[i] = (((c[i]).toNat : Nat) : Int) by omega, u8_xor_nat _ _ (by omega) (by omega)]
      exact u8_xor_nat _ _ (by simpa using l1) (by omega)
    refine Ev.step (f := fun n => slipwaylaw11_SumLinear.l0 n a b c (d.set i (((a[i]).toNat ^^^ (b[i]).toNat ^^^ (c[i]).toNat : Nat) : Int)) (a.length : Int) ((i + 1 : Nat) : Int)) (fun n => ?_) ?_
    · rw [slipwaylaw11_SumLinear.l0, if_pos (by omega), if_pos (by omega), if_pos (by omega), if_pos (by omega), if_pos (by omega), if_pos (by omega), hv, Int.toNat_natCast, show wrap64 ((i : Int) + 1) = ((i + 1 : Nat) : Int) by unfold wrap64; omega]
    · refine ih (i + 1) _ (by omega) (B_set hd _ (by omega)) (by rw [List.length_set]; exact hdl) fun j g g1 g2 g3 hj => ?_
      rw [List.getElem_set]
      split
      · rename_i e; subst e; rfl
      · exact hx j g g1 g2 (by rw [List.length_set] at g3; exact g3) (by omega)
theorem SumLinear (l0 : List Int) (g0 : goodList (fun x => (Lit.int .u8 x).wf = true) l0) (l1 : List Int) (g1 : goodList (fun x => (Lit.int .u8 x).wf = true) l1) (l2 : List Int) (g2 : goodList (fun x => (Lit.int .u8 x).wf = true) l2) : ∃ k, slipwaylaw11_SumLinear.f k l0 l1 l2 = some true := by
  apply Ev.rounds (g := fun k => slipwaylaw11_SumLinear.f k l0 l1 l2)
  have ht : Ev (fun k => slipwaylaw11_SumLinear.j0 k l0 l1 l2 true) true := Ev.step (f := fun _ => some true) (fun n => by rw [slipwaylaw11_SumLinear.j0, if_pos rfl]) (Ev.now _)
  unfold slipwaylaw11_SumLinear.f
  refine Ev.bind anchor_ev (Ev_pos rfl ?_)
  by_cases c1 : (l0.length : Int) > 2000
  · exact Ev_pos c1 ht
  refine Ev_neg c1 ?_
  by_cases c2 : (l1.length : Int) = (l0.length : Int)
  · refine Ev_pos c2 ?_
    by_cases c3 : (l2.length : Int) = (l0.length : Int)
    · rw [bne_eq_false_iff_eq.2 c3]
      have h := linear_loop l0 l1 l2 (B_good g0) (B_good g1) (B_good g2) (by omega) (by omega) (by omega) l0.length 0 (List.replicate l0.length 0) (by omega) (fun x hx => by rw [(List.mem_replicate.1 hx).2]; decide) (by simp) (fun j _ _ _ _ hj => by omega)
      refine Ev.step (f := fun n => slipwaylaw11_SumLinear.l0 n l0 l1 l2 (List.replicate l0.length 0) (l0.length : Int) ((0 : Nat) : Int)) (fun n => ?_) h
      rw [slipwaylaw11_SumLinear.j0, if_neg (by decide), if_pos (by omega), if_pos (by omega), Int.toNat_natCast]
      rfl
    · rw [bne_iff_ne.2 c3]; exact ht
  · exact Ev_neg c2 ht
end Go.Proofs.Ytobogmcihnikeaa.Pure
