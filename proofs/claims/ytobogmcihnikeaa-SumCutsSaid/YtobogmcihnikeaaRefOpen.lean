import Derived.Test.YtobogmcihnikeaaFrames
import Derived.Test.YtobogmcihnikeaaPureSumOf
import Derived.Test.YtobogmcihnikeaaPx13
namespace Go.Proofs.Ytobogmcihnikeaa.Pure
open Go.RowKit Go.Proofs.Ytobogmcihnikeaa.P Go.Proofs.Ytobogmcihnikeaa.Crc Go.Proofs.Ytobogmcihnikeaa.Read Go.Proofs.YtobogmcihnikeaaW.PrintWords Go.Proofs.YtobogmcihnikeaaW.PrintLast Go.Proofs.YtobogmcihnikeaaW.PrintMore

theorem Four_ev (n : Nat) : Ev (fun k => slipwayref11_Four.f k (n : Int)) (four n) := by
  unfold slipwayref11_Four.f
  refine Ev_pos (by decide) ?_
  have s : ∀ (k : Nat) (m i : Nat) (l : List Int), i < 4 → l.length = 4 → slipwayref11_Four.l0 (k + 1) (m : Int) l (i : Int) = slipwayref11_Four.l0 k ((m / 256 : Nat) : Int) (l.set i ((m % 256 : Nat) : Int)) ((i + 1 : Nat) : Int) := by
    intro k m i l hi hl
    rw [slipwayref11_Four.l0, if_pos (by omega), if_pos (by omega), if_pos (by omega), Int.toNat_natCast, show (m : Int) / 256 = ((m / 256 : Nat) : Int) by omega, show (m : Int) % 256 = ((m % 256 : Nat) : Int) by omega, show wrap64 ((i : Int) + 1) = ((i + 1 : Nat) : Int) by unfold wrap64; omega]
  refine Ev.step (fun k => s k n 0 _ (by decide) rfl) (Ev.step (fun k => s k _ 1 _ (by decide) rfl) (Ev.step (fun k => s k _ 2 _ (by decide) rfl) (Ev.step (fun k => s k _ 3 _ (by decide) rfl) ?_)))
  refine Ev.step (f := fun _ => some (four n)) (fun k => ?_) (Ev.now _)
  rw [slipwayref11_Four.l0, if_neg (by omega)]
  congr 1
  unfold four
  simp only [Nat.div_div_eq_div_mul, Nat.reduceMul]
  rfl
theorem Number_ev {l : List Int} (h : B l) (hn : 4 ≤ l.length) (hm : l.length ≤ 140737488355328) : Ev (fun k => slipwayref11_Number.f k l) ((num4 l : Nat) : Int) := by
  unfold slipwayref11_Number.f
  have s : ∀ (k : Nat) (m i : Nat), i < 4 → m < 4294967296 → slipwayref11_Number.l0 (k + 1) l (m : Int) (i : Int) = slipwayref11_Number.l0 k l ((256 * m + (l.getD i 0).toNat : Nat) : Int) ((i : Int) - 1) := by
    intro k m i hi hmm
    have hb := B_getD h i
    have hr : rd l (i : Int) = (((l.getD i 0).toNat : Nat) : Int) := by
      unfold rd
      rw [Int.toNat_natCast]
      omega
    have e1 : wrap64 (wrap64 (256 * (m : Int)) + wrap64 (((l.getD i 0).toNat : Nat) : Int)) = ((256 * m + (l.getD i 0).toNat : Nat) : Int) := by unfold wrap64; omega
    rw [slipwayref11_Number.l0, if_pos (by omega), if_pos (by omega), if_pos (by omega), hr, e1, show wrap64 ((i : Int) - 1) = (i : Int) - 1 by unfold wrap64; omega]
  have h0 := B_getD h 0
  have h1 := B_getD h 1
  have h2 := B_getD h 2
  have h3 := B_getD h 3
  refine Ev.step (fun k => s k 0 3 (by decide) (by decide)) (Ev.step (fun k => s k _ 2 (by decide) (by omega)) (Ev.step (fun k => s k _ 1 (by decide) (by omega)) (Ev.step (fun k => s k _ 0 (by decide) (by omega)) ?_)))
  refine Ev.step (f := fun _ => some ((num4 l : Nat) : Int)) (fun k => ?_) (Ev.now _)
  rw [slipwayref11_Number.l0, if_neg (by omega)]
  congr 1
  unfold num4
  omega
theorem Join_f (a b : List Int) (h : a.length + b.length < 140737488355328) : slipwayref11_Join.f a b = some (a ++ b) := by
  unfold slipwayref11_Join.f
  simp only [Option.bind_some, List.nil_append, List.length_nil]
  rw [if_pos (by omega), if_pos (by omega)]
theorem RefFrame_ev (p : List Int) (h : B p) (hn : p.length ≤ 140737488300000) : Ev (fun k => slipwayref11_Frame.f k p) (frame p) := by
  unfold slipwayref11_Frame.f
  refine Ev.bind (Four_ev _) ?_
  rw [Join_f _ _ (by rw [four_len]; omega)]
  refine Ev.bind (Ev.now _) (Ev.bind (ref_ev _ (B_append (four_B _) h) (by rw [List.length_append, four_len]; omega)) (Ev.bind (Four_ev _) (Ev_pos (by rw [List.length_append, four_len, four_len]; omega) ?_)))
  unfold frame
  rw [List.append_assoc]
  exact Ev.now _
theorem frame_eq {l : List Int} (h : B l) (hn : num4 l + 8 ≤ l.length) : frame ((l.take (num4 l + 4)).drop 4) = l.take (num4 l + 8) ↔ crc (nt (l.take (num4 l + 4))) = num4 (l.drop (num4 l + 4)) := by
  have hlen : ((l.take (num4 l + 4)).drop 4).length = num4 l := by rw [List.length_drop, List.length_take]; omega
  have e1 : four (num4 l) ++ (l.take (num4 l + 4)).drop 4 = l.take (num4 l + 4) := by
    rw [four_num4 h (by omega)]
    have := List.take_append_drop 4 (l.take (num4 l + 4))
    rwa [List.take_take, Nat.min_eq_left (by omega)] at this
  have e2 : l.take (num4 l + 8) = l.take (num4 l + 4) ++ (l.drop (num4 l + 4)).take 4 := by
    rw [show num4 l + 8 = (num4 l + 4) + 4 by omega, List.take_add]
  unfold frame
  rw [hlen, ← List.append_assoc, e1, e2, List.append_cancel_left_eq, ← four_num4 (B_drop h _) (by rw [List.length_drop]; omega)]
  exact ⟨fun e => four_inj (crc_lt (nt_lt (B_take h _))) (num4_lt (B_drop h _)) e, fun e => by rw [e]⟩
theorem num4_take {l : List Int} (n : Nat) (hn : 4 ≤ n) : num4 (l.take n) = num4 l := by
  unfold num4
  simp only [List.getD_eq_getElem?_getD, List.getElem?_take]
  rw [if_pos (by omega), if_pos (by omega), if_pos (by omega), if_pos (by omega)]
theorem RefOpen_ev (l : List Int) (h : B l) (hm : l.length ≤ 140737488300000) : Ev (fun k => slipwayref11_Open.f k l) (opened l) := by
  unfold slipwayref11_Open.f opened
  by_cases c1 : l.length < 4
  · rw [if_pos c1]; exact Ev_pos (by omega) (Ev.now _)
  rw [if_neg c1]
  refine Ev_neg (by omega) (Ev_pos (by omega) ?_)
  have hN := Number_ev (B_take h 4) (by rw [List.length_take]; omega) (by rw [List.length_take]; omega)
  rw [num4_take 4 (by decide)] at hN
  refine Ev.bind hN ?_
  by_cases c2 : num4 l > 65536
  · rw [if_pos c2]; exact Ev_pos (by omega) (Ev.now _)
  rw [if_neg c2]
  refine Ev_neg (by omega) ?_
  have w8 : wrap64 (((num4 l : Nat) : Int) + 8) = ((num4 l + 8 : Nat) : Int) := by unfold wrap64; omega
  have w4 : wrap64 (4 + ((num4 l : Nat) : Int)) = ((num4 l + 4 : Nat) : Int) := by unfold wrap64; omega
  simp only [w8, w4, Int.toNat_natCast]
  by_cases c3 : l.length < num4 l + 8
  · rw [if_pos c3]; exact Ev_pos (by omega) (Ev.now _)
  rw [if_neg c3]
  refine Ev_neg (by omega) (Ev_pos (by omega) (Ev_pos (by omega) ?_))
  simp only [Option.bind_some]
  refine Ev.bind (RefFrame_ev _ (B_drop (B_take h _) _) (by rw [List.length_drop, List.length_take]; omega)) (Ev_pos (by omega) (Ev_pos (by omega) ?_))
  refine Ev.bind (Same_ev _ _ (by rw [frame_len, List.length_drop, List.length_take]; omega)) ?_
  by_cases c4 : crc (nt (l.take (num4 l + 4))) = num4 (l.drop (num4 l + 4))
  · rw [if_pos c4, decide_eq_true ((frame_eq h (by omega)).2 c4)]
    exact Ev_pos rfl (Ev.now _)
  · rw [if_neg c4, decide_eq_false (fun e => c4 ((frame_eq h (by omega)).1 e))]
    exact Ev_neg (by decide) (Ev.now _)
theorem opened_B {l : List Int} (h : B l) : B (opened l).1 := by
  unfold opened
  split
  · exact B_nil
  split
  · exact B_nil
  split
  · exact B_nil
  split
  · exact B_drop (B_take h _) _
  · exact B_nil
theorem opened_len (l : List Int) : (opened l).1.length ≤ l.length := by
  unfold opened
  split
  · simp
  split
  · simp
  split
  · simp
  split
  · simp; omega
  · simp
end Go.Proofs.Ytobogmcihnikeaa.Pure
