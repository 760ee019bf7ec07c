import Derived.Test.YtobogmcihnikeaaRefOpen
import Derived.Test.YtobogmcihnikeaaPx17
namespace Go.Proofs.Ytobogmcihnikeaa.Pure
open Go.RowKit Go.Proofs.Ytobogmcihnikeaa.P Go.Proofs.Ytobogmcihnikeaa.Crc Go.Proofs.Ytobogmcihnikeaa.Read Go.Proofs.YtobogmcihnikeaaW.PrintWords Go.Proofs.YtobogmcihnikeaaW.PrintLast Go.Proofs.YtobogmcihnikeaaW.PrintMore

theorem opened_size (l : List Int) (h : (opened l).2.2 = 0) : ∃ n : Nat, (opened l).2.1 = (n : Int) ∧ 8 ≤ n ∧ n ≤ l.length := by
  unfold opened at h ⊢
  split at h
  · cases h
  split at h
  · cases h
  split at h
  · cases h
  split at h
  · rename_i c1 c2 c3 c4
    rw [if_neg c1, if_neg c2, if_neg c3, if_pos c4]
    exact ⟨_, rfl, by omega, by omega⟩
  · cases h
theorem opened_nil : opened [] = ([], 0, 13) := rfl
/-- Both splits come to one answer, whatever it is. -/
theorem split_both (l : List Int) (h : B l) (hm : l.length ≤ 3000) (m : Nat) : ∀ (at_ : Nat) (out : List (List Int)), at_ ≤ l.length → l.length - at_ < m → out.length ≤ at_ → (∀ x ∈ out, x.length ≤ 3000) →
    ∃ (r : List (List Int)) (e : Int), Ev (fun k => sum_Split.l0 k l out (at_ : Int)) (r, e) ∧ Ev (fun k => slipwayref11_Split.l0 k l out (at_ : Int)) (r, e) ∧ r.length ≤ 3000 ∧ ∀ x ∈ r, x.length ≤ 3000 := by
  induction m with
  | zero => intro at_ out _ hlt; omega
  | succ m ih =>
    intro at_ out ha hlt ho hx
    have hB := B_drop h at_
    have hO := Open_ev (l.drop at_) hB (by rw [List.length_drop]; omega)
    have hR := RefOpen_ev (l.drop at_) hB (by rw [List.length_drop]; omega)
    by_cases c : (opened (l.drop at_)).2.2 = 0
    · obtain ⟨n, hn, h8, hle⟩ := opened_size _ c
      rw [List.length_drop] at hle
      have hw : wrap64 ((at_ : Int) + (n : Int)) = ((at_ + n : Nat) : Int) := by unfold wrap64; omega
      obtain ⟨r, e, h1, h2, h3, h4⟩ := ih (at_ + n) (out ++ [(opened (l.drop at_)).1]) (by omega) (by omega) (by simp; omega) (fun x hx' => by
        rcases List.mem_append.1 hx' with hx' | hx'
        · exact hx x hx'
        · rw [List.mem_singleton.1 hx']
          have := opened_len (l.drop at_)
          rw [List.length_drop] at this
          omega)
      refine ⟨r, e, Ev_succ ?_, Ev_succ ?_, h3, h4⟩
      · simp only [sum_Split.l0, Int.toNat_natCast]
        refine Ev_pos (by omega) (Ev_pos (by omega) (Ev.bind hO (Ev_pos c (Ev_pos (by omega) ?_))))
        rw [hn, hw]
        exact Ev_pos (by omega) h1
      · simp only [slipwayref11_Split.l0, Int.toNat_natCast]
        refine Ev_pos (by omega) (Ev_pos (by omega) (Ev_pos (by omega) (Ev.bind hR (Ev_pos c (Ev_pos (by omega) ?_)))))
        rw [hn, hw]
        exact h2
    · refine ⟨out, (at_ : Int), Ev_succ ?_, Ev_succ ?_, by omega, hx⟩
      · simp only [sum_Split.l0, Int.toNat_natCast]
        exact Ev_pos (by omega) (Ev_pos (by omega) (Ev.bind hO (Ev_neg c (Ev.now _))))
      · simp only [slipwayref11_Split.l0, Int.toNat_natCast]
        by_cases ce : at_ < l.length
        · exact Ev_pos (by omega) (Ev_pos (by omega) (Ev_pos (by omega) (Ev.bind hR (Ev_neg c (Ev.now _)))))
        · exact Ev_neg (by omega) (Ev.now _)
theorem splits_same (r : List (List Int)) (hr : r.length ≤ 3000) (hx : ∀ x ∈ r, x.length ≤ 3000) (d : Nat) : ∀ i : Nat, i + d = r.length → Ev (fun k => slipwaylaw11_SumSplits.l0 k r r (r.length : Int) (i : Int)) true := by
  induction d with
  | zero =>
    intro i hi
    exact Ev.step (f := fun _ => some true) (fun k => by rw [slipwaylaw11_SumSplits.l0, if_neg (by omega)]) (Ev.now _)
  | succ d ih =>
    intro i hi
    have hlt : i < r.length := by omega
    refine Ev_succ ?_
    simp only [slipwaylaw11_SumSplits.l0, rdL hlt]
    refine Ev_pos (by omega) (Ev_pos (by omega) (Ev_pos (by omega) (Ev_pos (by omega) (Ev.bind (Same_self _ ?_) (Ev_pos rfl ?_)))))
    · have := hx _ (List.getElem_mem hlt); omega
    · rw [show wrap64 ((i : Int) + 1) = ((i + 1 : Nat) : Int) by unfold wrap64; omega]
      exact ih (i + 1) (by omega)
theorem SumSplits (l0 : List Int) (g0 : goodList (fun x => (Lit.int .u8 x).wf = true) l0) : ∃ k, slipwaylaw11_SumSplits.f k l0 = some true := by
  have b0 := B_good g0
  apply Ev.rounds (g := fun k => slipwaylaw11_SumSplits.f k l0)
  unfold slipwaylaw11_SumSplits.f
  refine Ev.bind anchor_ev (Ev_pos rfl ?_)
  by_cases c1 : (l0.length : Int) > 3000
  · exact Ev_pos c1 (Ev.now _)
  refine Ev_neg c1 ?_
  obtain ⟨r, e, h1, h2, h3, h4⟩ := split_both l0 b0 (by omega) (l0.length + 1) 0 [] (by omega) (by omega) (by simp) (by simp)
  refine Ev.bind h1 (Ev.bind h2 (Ev_pos rfl ?_))
  refine Ev_succ ?_
  simp only [slipwaylaw11_SumSplits.j0]
  refine Ev_neg (by simp) ?_
  exact splits_same r h3 h4 r.length 0 (by omega)
end Go.Proofs.Ytobogmcihnikeaa.Pure
