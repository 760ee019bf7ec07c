import Derived.Test.YtobogmcihnikeaaRefOpen
import Derived.Test.YtobogmcihnikeaaPx14
namespace Go.Proofs.Ytobogmcihnikeaa.Pure
open Go.RowKit Go.Proofs.Ytobogmcihnikeaa.P Go.Proofs.Ytobogmcihnikeaa.Crc Go.Proofs.Ytobogmcihnikeaa.Read Go.Proofs.YtobogmcihnikeaaW.PrintWords Go.Proofs.YtobogmcihnikeaaW.PrintLast Go.Proofs.YtobogmcihnikeaaW.PrintMore

theorem SumOpens (l0 : List Int) (g0 : goodList (fun x => (Lit.int .u8 x).wf = true) l0) (l1 : List Int) (g1 : goodList (fun x => (Lit.int .u8 x).wf = true) l1) : ∃ k, slipwaylaw11_SumOpens.f k l0 l1 = some true := by
  have b0 := B_good g0
  have b1 := B_good g1
  apply Ev.rounds (g := fun k => slipwaylaw11_SumOpens.f k l0 l1)
  have ht : Ev (fun k => slipwaylaw11_SumOpens.j0 k l0 l1 true) true := Ev.step (f := fun _ => some true) (fun n => by rw [slipwaylaw11_SumOpens.j0, if_pos rfl]) (Ev.now _)
  unfold slipwaylaw11_SumOpens.f
  refine Ev.bind anchor_ev (Ev_pos rfl ?_)
  by_cases c1 : (l0.length : Int) > 3000
  · exact Ev_pos c1 ht
  refine Ev_neg c1 ?_
  by_cases c2 : (l1.length : Int) > 3000
  · rw [decide_eq_true c2]; exact ht
  rw [decide_eq_false c2]
  refine Ev_succ ?_
  simp only [slipwaylaw11_SumOpens.j0]
  refine Ev_neg (by decide) ?_
  refine Ev.bind (Open_ev l0 b0 (by omega)) (Ev.bind (RefOpen_ev l0 b0 (by omega)) (Ev.bind (Frame_ev l1 b1 (by omega)) ?_))
  have hj : slipwayref11_Join.f (frame l1, (0 : Int)).1 l0 = some (frame l1 ++ l0) := Join_f _ _ (by rw [frame_len]; omega)
  rw [hj]
  have ho := Open_ev (frame l1 ++ l0) (B_append (frame_B b1) b0) (by rw [List.length_append, frame_len]; omega)
  rw [opened_frame l1 l0 b1 (by omega)] at ho
  refine Ev.bind (Ev.now _) (Ev.bind ho (Ev_pos rfl (Ev_pos rfl (Ev.bind (Same_self _ ?_) (Ev_pos rfl (Ev_pos rfl (Ev.bind (RefFrame_ev l1 b1 (by omega)) (Ev.bind (Same_self _ ?_) (Ev_pos rfl (Ev_pos rfl (Ev_pos ?_ (Ev.bind (Same_self _ ?_) (Ev.now _)))))))))))))
  · have := opened_len l0; omega
  · rw [frame_len]; omega
  · rw [frame_len]
  · show l1.length ≤ _; omega
end Go.Proofs.Ytobogmcihnikeaa.Pure
