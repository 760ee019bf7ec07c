-- DERIVED: written by wip/tools/xprint.py over the translation; Lean checks it.
import Derived.Test.YtobogmcihnikeaaPx0
import Derived.Test.YtobogmcihnikeaaPx4
import Derived.Test.YtobogmcihnikeaaPx5
import Derived.Test.YtobogmcihnikeaaPx15
namespace Go.Proofs.Ytobogmcihnikeaa.P
open Go.RowKit Go.Proofs.YtobogmcihnikeaaW.PrintWords Go.Proofs.YtobogmcihnikeaaW.PrintLast Go.Proofs.YtobogmcihnikeaaW.PrintMore
attribute [local go_sem] max2_int min2_int max_two min_two max_three min_three max_four min_four   -- for this text's walks alone
set_option linter.unusedVariables false
set_option linter.unusedSimpArgs false

/-! ### slipwaylaw11_SumCuts: function 8 -/
mutual
def slipwaylaw11_SumCuts.j0 : Nat → List (List Int) → Int → Bool → Option (Bool)
  | 0, _, _, _ => none
  | k + 1, x0, x1, x31 => if x31 = true then (some true) else (slipwaylaw11_SumCuts.l0 k x0 x1 ([] : List Int) x0 (x0.length : Int) 0)
def slipwaylaw11_SumCuts.l0 : Nat → List (List Int) → Int → List Int → List (List Int) → Int → Int → Option (Bool)
  | 0, _, _, _, _, _, _ => none
  | k + 1, x0, x1, x5, x32, x33, x34 => if x34 < x33 then (if 0 ≤ x34 then (if x34 < (x32.length : Int) then (if ((rd_L1 x32 x34).length : Int) > 200 then (some true) else ((sum_Frame.f k (rd_L1 x32 x34)).bind fun bt290 => (if x5.length + bt290.1.length < 140737488355328 then (slipwaylaw11_SumCuts.l0 k x0 x1 (x5 ++ bt290.1) x32 x33 (wrap64 (x34 + 1))) else (none)))) else (none)) else (none)) else ((sum_Split.f k x5).bind fun bt297 => (if 0 ≤ (wrap64 ((x0.length : Int) - 1)) then (if (wrap64 ((x0.length : Int) - 1)) < (x0.length : Int) then (if (wrap64 (((rd_L1 x0 (wrap64 ((x0.length : Int) - 1))).length : Int) + 8)) = 0 then (none) else (if (wrap64 (1 + (Int.tmod x1 (wrap64 (((rd_L1 x0 (wrap64 ((x0.length : Int) - 1))).length : Int) + 8))))) > (x5.length : Int) then (some false) else (if 0 ≤ (wrap64 ((x5.length : Int) - (wrap64 (1 + (Int.tmod x1 (wrap64 (((rd_L1 x0 (wrap64 ((x0.length : Int) - 1))).length : Int) + 8))))))) then (if (wrap64 ((x5.length : Int) - (wrap64 (1 + (Int.tmod x1 (wrap64 (((rd_L1 x0 (wrap64 ((x0.length : Int) - 1))).length : Int) + 8))))))) ≤ (x5.length : Int) then ((sum_Split.f k (x5.take ((wrap64 ((x5.length : Int) - (wrap64 (1 + (Int.tmod x1 (wrap64 (((rd_L1 x0 (wrap64 ((x0.length : Int) - 1))).length : Int) + 8))))))) : Int).toNat)).bind fun bt306 => (if bt297.2 = (x5.length : Int) then (if (bt297.1.length : Int) = (x0.length : Int) then (if (bt306.1.length : Int) = (wrap64 ((x0.length : Int) - 1)) then (slipwaylaw11_SumCuts.j2 k x0 bt297.1 (wrap64 ((x0.length : Int) - 1)) bt306.1 (bt306.2 != (wrap64 ((wrap64 ((x5.length : Int) - 8)) - ((rd_L1 x0 (wrap64 ((x0.length : Int) - 1))).length : Int))))) else (slipwaylaw11_SumCuts.j2 k x0 bt297.1 (wrap64 ((x0.length : Int) - 1)) bt306.1 true)) else (slipwaylaw11_SumCuts.j2 k x0 bt297.1 (wrap64 ((x0.length : Int) - 1)) bt306.1 true)) else (slipwaylaw11_SumCuts.j2 k x0 bt297.1 (wrap64 ((x0.length : Int) - 1)) bt306.1 true))) else (none)) else (none)))) else (none)) else (none)))
def slipwaylaw11_SumCuts.j2 : Nat → List (List Int) → List (List Int) → Int → List (List Int) → Bool → Option (Bool)
  | 0, _, _, _, _, _ => none
  | k + 1, x0, x10, x12, x14, x110 => if x110 = true then (some false) else (slipwaylaw11_SumCuts.l1 k x10 x12 x14 x0 (x0.length : Int) 0)
def slipwaylaw11_SumCuts.l1 : Nat → List (List Int) → Int → List (List Int) → List (List Int) → Int → Int → Option (Bool)
  | 0, _, _, _, _, _, _ => none
  | k + 1, x10, x12, x14, x111, x112, x113 => if x113 < x112 then (if 0 ≤ x113 then (if x113 < (x111.length : Int) then (if x113 < (x10.length : Int) then ((slipwayref11_Same.f k (rd_L1 x10 x113) (rd_L1 x111 x113)).bind fun t313 => (if t313 = true then (if x113 < x12 then (if x113 < (x14.length : Int) then ((slipwayref11_Same.f k (rd_L1 x14 x113) (rd_L1 x111 x113)).bind fun t315 => (if t315 = true then (slipwaylaw11_SumCuts.l1 k x10 x12 x14 x111 x112 (wrap64 (x113 + 1))) else (some false))) else (none)) else (slipwaylaw11_SumCuts.l1 k x10 x12 x14 x111 x112 (wrap64 (x113 + 1)))) else (some false))) else (none)) else (none)) else (none)) else (some true)
end
def slipwaylaw11_SumCuts.f (k : Nat) (l0 : List (List Int)) (a1 : Int) : Option (Bool) := (slipwaylaw11_anchor.f k).bind fun t288 => (if t288 = true then (if (l0.length : Int) < 1 then (slipwaylaw11_SumCuts.j0 k l0 a1 true) else (if (l0.length : Int) > 20 then (slipwaylaw11_SumCuts.j0 k l0 a1 true) else (slipwaylaw11_SumCuts.j0 k l0 a1 (decide (a1 < 0))))) else (some false))
theorem slipwaylaw11_SumCuts.mono_l : ∀ k, (∀ y0 y1 y2, LeO (slipwaylaw11_SumCuts.j0 k y0 y1 y2) (slipwaylaw11_SumCuts.j0 (k + 1) y0 y1 y2)) ∧ (∀ y0 y1 y2 y3 y4 y5, LeO (slipwaylaw11_SumCuts.l0 k y0 y1 y2 y3 y4 y5) (slipwaylaw11_SumCuts.l0 (k + 1) y0 y1 y2 y3 y4 y5)) ∧ (∀ y0 y1 y2 y3 y4, LeO (slipwaylaw11_SumCuts.j2 k y0 y1 y2 y3 y4) (slipwaylaw11_SumCuts.j2 (k + 1) y0 y1 y2 y3 y4)) ∧ (∀ y0 y1 y2 y3 y4 y5, LeO (slipwaylaw11_SumCuts.l1 k y0 y1 y2 y3 y4 y5) (slipwaylaw11_SumCuts.l1 (k + 1) y0 y1 y2 y3 y4 y5))
  | 0 => ⟨fun _ _ _ r h => by simp [slipwaylaw11_SumCuts.j0] at h, fun _ _ _ _ _ _ r h => by simp [slipwaylaw11_SumCuts.l0] at h, fun _ _ _ _ _ r h => by simp [slipwaylaw11_SumCuts.j2] at h, fun _ _ _ _ _ _ r h => by simp [slipwaylaw11_SumCuts.l1] at h⟩
  | k + 1 => by
    obtain ⟨ih0, ih1, ih2, ih3⟩ := slipwaylaw11_SumCuts.mono_l k
    refine ⟨?_, ?_, ?_, ?_⟩
    · intro y0 y1 y2
      unfold slipwaylaw11_SumCuts.j0
      repeat' first
      | (with_reducible exact ih0 _ _ _)
      | (with_reducible exact ih1 _ _ _ _ _ _)
      | (with_reducible exact ih2 _ _ _ _ _)
      | (with_reducible exact ih3 _ _ _ _ _ _)
      | (with_reducible exact slipwaylaw11_anchor.mono _)
      | (with_reducible exact slipwayref11_Same.mono _ _ _)
      | (with_reducible exact sum_Frame.mono _ _)
      | (with_reducible exact sum_Split.mono _ _)
      | (with_reducible exact LeO.refl _)
      | (with_reducible exact LeO.none _)
      | (with_reducible refine LeO.ite ?_ ?_)
      | (with_reducible refine LeO.bind ?_ (fun _ => ?_))
      | exact ih0 _ _ _
      | exact ih1 _ _ _ _ _ _
      | exact ih2 _ _ _ _ _
      | exact ih3 _ _ _ _ _ _
      | exact slipwaylaw11_anchor.mono _
      | exact slipwayref11_Same.mono _ _ _
      | exact sum_Frame.mono _ _
      | exact sum_Split.mono _ _
      | exact LeO.none _
      | refine LeO.ite ?_ ?_
      | refine LeO.bind ?_ (fun _ => ?_)
    · intro y0 y1 y2 y3 y4 y5
      unfold slipwaylaw11_SumCuts.l0
      repeat' first
      | (with_reducible exact ih0 _ _ _)
      | (with_reducible exact ih1 _ _ _ _ _ _)
      | (with_reducible exact ih2 _ _ _ _ _)
      | (with_reducible exact ih3 _ _ _ _ _ _)
      | (with_reducible exact slipwaylaw11_anchor.mono _)
      | (with_reducible exact slipwayref11_Same.mono _ _ _)
      | (with_reducible exact sum_Frame.mono _ _)
      | (with_reducible exact sum_Split.mono _ _)
      | (with_reducible exact LeO.refl _)
      | (with_reducible exact LeO.none _)
      | (with_reducible refine LeO.ite ?_ ?_)
      | (with_reducible refine LeO.bind ?_ (fun _ => ?_))
      | exact ih0 _ _ _
      | exact ih1 _ _ _ _ _ _
      | exact ih2 _ _ _ _ _
      | exact ih3 _ _ _ _ _ _
      | exact slipwaylaw11_anchor.mono _
      | exact slipwayref11_Same.mono _ _ _
      | exact sum_Frame.mono _ _
      | exact sum_Split.mono _ _
      | exact LeO.none _
      | refine LeO.ite ?_ ?_
      | refine LeO.bind ?_ (fun _ => ?_)
    · intro y0 y1 y2 y3 y4
      unfold slipwaylaw11_SumCuts.j2
      repeat' first
      | (with_reducible exact ih0 _ _ _)
      | (with_reducible exact ih1 _ _ _ _ _ _)
      | (with_reducible exact ih2 _ _ _ _ _)
      | (with_reducible exact ih3 _ _ _ _ _ _)
      | (with_reducible exact slipwaylaw11_anchor.mono _)
      | (with_reducible exact slipwayref11_Same.mono _ _ _)
      | (with_reducible exact sum_Frame.mono _ _)
      | (with_reducible exact sum_Split.mono _ _)
      | (with_reducible exact LeO.refl _)
      | (with_reducible exact LeO.none _)
      | (with_reducible refine LeO.ite ?_ ?_)
      | (with_reducible refine LeO.bind ?_ (fun _ => ?_))
      | exact ih0 _ _ _
      | exact ih1 _ _ _ _ _ _
      | exact ih2 _ _ _ _ _
      | exact ih3 _ _ _ _ _ _
      | exact slipwaylaw11_anchor.mono _
      | exact slipwayref11_Same.mono _ _ _
      | exact sum_Frame.mono _ _
      | exact sum_Split.mono _ _
      | exact LeO.none _
      | refine LeO.ite ?_ ?_
      | refine LeO.bind ?_ (fun _ => ?_)
    · intro y0 y1 y2 y3 y4 y5
      unfold slipwaylaw11_SumCuts.l1
      repeat' first
      | (with_reducible exact ih0 _ _ _)
      | (with_reducible exact ih1 _ _ _ _ _ _)
      | (with_reducible exact ih2 _ _ _ _ _)
      | (with_reducible exact ih3 _ _ _ _ _ _)
      | (with_reducible exact slipwaylaw11_anchor.mono _)
      | (with_reducible exact slipwayref11_Same.mono _ _ _)
      | (with_reducible exact sum_Frame.mono _ _)
      | (with_reducible exact sum_Split.mono _ _)
      | (with_reducible exact LeO.refl _)
      | (with_reducible exact LeO.none _)
      | (with_reducible refine LeO.ite ?_ ?_)
      | (with_reducible refine LeO.bind ?_ (fun _ => ?_))
      | exact ih0 _ _ _
      | exact ih1 _ _ _ _ _ _
      | exact ih2 _ _ _ _ _
      | exact ih3 _ _ _ _ _ _
      | exact slipwaylaw11_anchor.mono _
      | exact slipwayref11_Same.mono _ _ _
      | exact sum_Frame.mono _ _
      | exact sum_Split.mono _ _
      | exact LeO.none _
      | refine LeO.ite ?_ ?_
      | refine LeO.bind ?_ (fun _ => ?_)
theorem slipwaylaw11_SumCuts.mono : ∀ a0 a1 k, LeO (slipwaylaw11_SumCuts.f k a0 a1) (slipwaylaw11_SumCuts.f (k + 1) a0 a1) := by
  intro a0 a1 k
  obtain ⟨ih0, ih1, ih2, ih3⟩ := slipwaylaw11_SumCuts.mono_l k
  unfold slipwaylaw11_SumCuts.f
  repeat' first
      | (with_reducible exact ih0 _ _ _)
      | (with_reducible exact ih1 _ _ _ _ _ _)
      | (with_reducible exact ih2 _ _ _ _ _)
      | (with_reducible exact ih3 _ _ _ _ _ _)
      | (with_reducible exact slipwaylaw11_anchor.mono _)
      | (with_reducible exact slipwayref11_Same.mono _ _ _)
      | (with_reducible exact sum_Frame.mono _ _)
      | (with_reducible exact sum_Split.mono _ _)
      | (with_reducible exact LeO.refl _)
      | (with_reducible exact LeO.none _)
      | (with_reducible refine LeO.ite ?_ ?_)
      | (with_reducible refine LeO.bind ?_ (fun _ => ?_))
      | exact ih0 _ _ _
      | exact ih1 _ _ _ _ _ _
      | exact ih2 _ _ _ _ _
      | exact ih3 _ _ _ _ _ _
      | exact slipwaylaw11_anchor.mono _
      | exact slipwayref11_Same.mono _ _ _
      | exact sum_Frame.mono _ _
      | exact sum_Split.mono _ _
      | exact LeO.none _
      | refine LeO.ite ?_ ?_
      | refine LeO.bind ?_ (fun _ => ?_)
set_option maxHeartbeats 8000000 in
set_option maxRecDepth 100000 in
theorem slipwaylaw11_SumCuts.calls (k : Nat) (A0 : Option Addr) (c0 : Nat) (l0 : List (List Int)) (a1 : Int) (r : Bool) (w : World) (hr0 : Kd.C (Kd.slice 5 (Kd.int .u8)) w A0 l0.length l0) (hc0 : l0.length ≤ c0) (h : slipwaylaw11_SumCuts.f k l0 a1 = some r) :
    Calls Try.prog 8 #[.slice A0 l0.length c0, .int .i64 a1] w fun e w' => e = .returned (.bool r) ∧ Below w.heap.size w w' := by
  have HR0 := Aside0.mk hr0
  have HC0 := Aside0.mk hc0
  clear hr0 hc0
  have HB := Aside0.mk (Below.refl w.heap.size w)
  have H : ((slipwaylaw11_anchor.f k).bind fun t288 => (if t288 = true then (if (l0.length : Int) < 1 then (slipwaylaw11_SumCuts.j0 k l0 a1 true) else (if (l0.length : Int) > 20 then (slipwaylaw11_SumCuts.j0 k l0 a1 true) else (slipwaylaw11_SumCuts.j0 k l0 a1 (decide (a1 < 0))))) else (some false))) = some r := h
  clear h
  replace H := Option.bind_eq_some_iff.mp H
  obtain ⟨t288, A30, H⟩ := H
  replace H : (if t288 = true then (if (l0.length : Int) < 1 then (slipwaylaw11_SumCuts.j0 k l0 a1 true) else (if (l0.length : Int) > 20 then (slipwaylaw11_SumCuts.j0 k l0 a1 true) else (slipwaylaw11_SumCuts.j0 k l0 a1 (decide (a1 < 0))))) else (some false)) = some r := H
  have A3 := Aside0.mk A30
  clear A30
  by_cases c4 : t288 = true
  · subst c4
    have H1 : (if (l0.length : Int) < 1 then (slipwaylaw11_SumCuts.j0 k l0 a1 true) else (if (l0.length : Int) > 20 then (slipwaylaw11_SumCuts.j0 k l0 a1 true) else (slipwaylaw11_SumCuts.j0 k l0 a1 (decide (a1 < 0))))) = some r := by rw [if_pos rfl] at H; exact H
    clear H
    have H := H1
    clear H1
    have HC5 := Aside0.mk H
    clear H
    go_enter Try.func8, Try.ntmps8
    go_upto_region 3 with (first | ((with_reducible refine gate_callee (f := 9) rfl ?_); refine goesL_ (some 18) rfl rfl Try.func9 (by kernel_rfl) rfl #[] rfl (by (try simp only [List.map_toArray, List.map_cons, List.map_nil]); first | done | rfl | (simp only [List.length_drop, List.length_take]; rfl)) ?_; (with_reducible refine (slipwaylaw11_anchor.calls k  true _ A3.out).mono ?_); rintro e w6 ⟨rfl, hb⟩; refine ⟨_, rfl, ?_⟩; have n0_ := Aside0.mk (below_step (by repeat (first | (with_reducible first | exact HB.out | apply below_alloc | apply pw_below_drewN | apply below_drew1) | exact HB.out)) hb); clear HB; have HB := n0_; clear n0_; (try clear hb); (try clear hb2); (try clear hk); (try clear hi)))
    (try simp only [Act.put, List.setIfInBounds_toArray, List.set_cons_zero, List.set_cons_succ])
    go_cut [31] (fun v31 wc => ∃ (kq : Nat) (x31_4 : Bool), v31 = .bool x31_4 ∧ Aside0 (slipwaylaw11_SumCuts.j0 kq l0 a1 x31_4 = some r) ∧ Aside0 (kq ≤ k) ∧ Aside0 (Below w.heap.size w wc))
    case first =>
      have H := HC5.out
      clear HC5
      by_cases c7 : (l0.length : Int) < 1
      · rw [if_pos c7] at H
        have c7b0 : decide ((l0.length : Int) < 1) = true := decide_eq_true c7
        have c7b1 : decide (l0.length < 1) = true := decide_eq_true (by omega)
        clear c7
        (first | rw [c7b0] | (simp only [i64_w, i32_w]; rw [c7b0]) | skip)
        have H' := Aside0.mk H
        clear H
        go_wp2
        go_meet
        case rel => exact ⟨_, (true), (by first | rfl | (simp; done) | (simp [*]; done)), H', ⟨by first | omega | exact Nat.le_refl _⟩, ⟨by repeat (first | (with_reducible first | exact HB.out | apply below_alloc | apply pw_below_drewN | apply below_drew1) | exact HB.out)⟩⟩
      · rw [if_neg c7] at H
        have c7b0 : decide ((l0.length : Int) < 1) = false := decide_eq_false c7
        have c7b1 : decide (l0.length < 1) = false := decide_eq_false (by omega)
        clear c7
        (first | rw [c7b0] | (simp only [i64_w, i32_w]; rw [c7b0]) | skip)
        by_cases c8 : (l0.length : Int) > 20
        · rw [if_pos c8] at H
          have c8b0 : decide (20 < (l0.length : Int)) = true := decide_eq_true c8
          have c8b1 : decide (20 < l0.length) = true := decide_eq_true (by omega)
          clear c8
          have H' := Aside0.mk H
          clear H
          go_wp2
          go_meet
          case rel => exact ⟨_, (true), (by first | rfl | (simp; done) | (simp [*]; done)), H', ⟨by first | omega | exact Nat.le_refl _⟩, ⟨by repeat (first | (with_reducible first | exact HB.out | apply below_alloc | apply pw_below_drewN | apply below_drew1) | exact HB.out)⟩⟩
        · rw [if_neg c8] at H
          have c8b0 : decide (20 < (l0.length : Int)) = false := decide_eq_false c8
          have c8b1 : decide (20 < l0.length) = false := decide_eq_false (by omega)
          clear c8
          have H' := Aside0.mk H
          clear H
          go_wp2
          go_meet
          case rel => exact ⟨_, (decide (a1 < 0)), (by first | rfl | (simp; done) | (simp [*]; done)), H', ⟨by first | omega | exact Nat.le_refl _⟩, ⟨by repeat (first | (with_reducible first | exact HB.out | apply below_alloc | apply pw_below_drewN | apply below_drew1) | exact HB.out)⟩⟩
    case rest =>
      clear HC5
      try clear p2
      try clear c4
      try clear c7
      try clear c7b0
      try clear c7b1
      try clear c8
      try clear c8b0
      try clear c8b1
      obtain ⟨kq, x31_4, rfl, HA, HJ4, HB⟩ := hcut
      cases kq with
      | zero => exact absurd HA.out (by simp [slipwaylaw11_SumCuts.j0])
      | succ kj4 =>
        have H := HA.out
        clear HA
        simp only [slipwaylaw11_SumCuts.j0] at H
        by_cases c9 : x31_4 = true
        · subst c9
          have H1 : (some true) = some r := by rw [if_pos rfl] at H; exact H
          clear H
          have H := H1
          clear H1
          obtain rfl := Option.some.inj H
          go_wp2
          go_ret
          exact ⟨by first | rfl | (simp [errW_none, errW_some] <;> rfl) | (simp [*, errW_none, errW_some] <;> rfl), by repeat (first | (with_reducible first | exact HB.out | apply below_alloc | apply pw_below_drewN | apply below_drew1) | exact HB.out)⟩
        · replace c9 := Bool.eq_false_iff.mpr c9
          subst c9
          have H1 : (slipwaylaw11_SumCuts.l0 kj4 l0 a1 ([] : List Int) l0 (l0.length : Int) 0) = some r := by rw [if_neg (show ¬ (false = true) by decide)] at H; exact H
          clear H
          have H := H1
          clear H1
          have H' := Aside0.mk H
          clear H
          go_wp2
          go_loopg [5, 34] kj4 (fun kq v5 v34 w' => ∃ (x5_2 : List Int) (x34_2 : Int), v34 = .int .i64 x34_2 ∧ Aside0 (slipwaylaw11_SumCuts.l0 kq l0 a1 x5_2 l0 (l0.length : Int) x34_2 = some r) ∧ Aside0 (kq ≤ kj4) ∧ Aside0 (Kd.R (Kd.int .u8) 5 w' w.heap.size (fun _ => True) v5 x5_2) ∧ Aside0 (Below w.heap.size w w'))
          case atStart => exact ⟨(([] : List Int)), (0), (by first | rfl | (simp; done) | (simp [*]; done)), H', ⟨Nat.le_refl _⟩, ⟨by first | exact Kd.R_nil _ _ _ _ _ | exact Kd.N_nil _ _ _ _ _ | exact Kd.V_nil _ _ _ _ _ | exact Kd.Q_nil _ _ _ _ _ | exact Kd.S_nil _ _ _ _ _⟩, ⟨by repeat (first | (with_reducible first | exact HB.out | apply below_alloc | apply pw_below_drewN | apply below_drew1) | exact HB.out)⟩⟩
          case round =>
            clear H'
            try clear p2
            try clear c4
            try clear c7
            try clear c7b0
            try clear c7b1
            try clear c8
            try clear c8b0
            try clear c8b1
            try clear c9
            try clear p2
            obtain ⟨x5_2, x34_2, rfl, HA, HK2, HO_5, HB⟩ := hrel
            cases gk with
            | zero => exact absurd HA.out (by simp [slipwaylaw11_SumCuts.l0])
            | succ k2 =>
              have H := HA.out
              clear HA
              simp only [slipwaylaw11_SumCuts.l0] at H
              by_cases c10 : x34_2 < (l0.length : Int)
              · rw [if_pos c10] at H
                have c10b0 : decide (x34_2 < (l0.length : Int)) = true := decide_eq_true c10
                clear c10
                by_cases c11 : 0 ≤ x34_2
                · rw [if_pos c11] at H
                  have c11b0 : decide (0 ≤ x34_2) = true := decide_eq_true c11
                  clear c11
                  by_cases c12 : x34_2 < (l0.length : Int)
                  · rw [if_pos c12] at H
                    have c12b0 : decide (x34_2 < (l0.length : Int)) = true := decide_eq_true c12
                    clear c12
                    by_cases c13 : ((rd_L1 l0 x34_2).length : Int) > 200
                    · rw [if_pos c13] at H
                      have c13b0 : decide (200 < ((rd_L1 l0 x34_2).length : Int)) = true := decide_eq_true c13
                      have c13b1 : decide (200 < (rd_L1 l0 x34_2).length) = true := decide_eq_true (by omega)
                      clear c13
                      obtain rfl := Option.some.inj H
                      have p289 : 0 ≤ (x34_2 : Int) := of_decide_eq_true (by first | (with_reducible assumption) | assumption)
                      have q289 : x34_2 < (l0.length : Int) := of_decide_eq_true (by first | (with_reducible assumption) | assumption)
                      obtain ⟨ad289, A289_0, c289_0, e289, hx289_0, hl289_0, hi289_0⟩ := at_L1 HR0.out x34_2 p289 q289
                      cases e289
                      replace hx289_0 := (HB.out.cell (World.block_lt_of_cell? w _ hx289_0)).trans hx289_0
                      have HR289_0 := Aside0.mk hi289_0
                      have HC289_0 := Aside0.mk hl289_0
                      clear hi289_0 hl289_0
                      replace p289 := eq_true p289
                      replace q289 := eq_true q289
                      go_wp2
                      go_ret
                      exact ⟨by first | rfl | (simp [errW_none, errW_some] <;> rfl) | (simp [*, errW_none, errW_some] <;> rfl), by repeat (first | (with_reducible first | exact HB.out | apply below_alloc | apply pw_below_drewN | apply below_drew1) | exact HB.out)⟩
                    · rw [if_neg c13] at H
                      have c13b0 : decide (200 < ((rd_L1 l0 x34_2).length : Int)) = false := decide_eq_false c13
                      have c13b1 : decide (200 < (rd_L1 l0 x34_2).length) = false := decide_eq_false (by omega)
                      clear c13
                      replace H := Option.bind_eq_some_iff.mp H
                      obtain ⟨⟨t290, t291⟩, A140, H⟩ := H
                      replace H : (if x5_2.length + t290.length < 140737488355328 then (slipwaylaw11_SumCuts.l0 k2 l0 a1 (x5_2 ++ t290) l0 (l0.length : Int) (wrap64 (x34_2 + 1))) else (none)) = some r := H
                      have A14 := Aside0.mk A140
                      clear A140
                      by_cases c15 : x5_2.length + t290.length < 140737488355328
                      · rw [if_pos c15] at H
                        have LMc15 := Aside0.mk c15
                        clear c15
                        obtain ⟨y294, hy294⟩ : ∃ y_ : List Int, y_ = (x5_2 ++ t290) := ⟨_, rfl⟩
                        replace H : (slipwaylaw11_SumCuts.l0 k2 l0 a1 y294 l0 (l0.length : Int) (wrap64 (x34_2 + 1))) = some r := by first | (rw [hy294]; with_reducible exact H) | (have H2_ := (Option.bind_some _ _).symm.trans H; rw [hy294]; with_reducible exact H2_) | (have H2_ := (Option.bind_some _ _).symm.trans H; with_reducible exact H2_) | with_reducible exact H | (rw [hy294]; exact H) | exact H
                        have Ny294 := Aside0.mk hy294
                        clear hy294
                        have H' := Aside0.mk H
                        clear H
                        have p289 : 0 ≤ (x34_2 : Int) := of_decide_eq_true (by first | (with_reducible assumption) | assumption)
                        have q289 : x34_2 < (l0.length : Int) := of_decide_eq_true (by first | (with_reducible assumption) | assumption)
                        obtain ⟨ad289, A289_0, c289_0, e289, hx289_0, hl289_0, hi289_0⟩ := at_L1 HR0.out x34_2 p289 q289
                        cases e289
                        replace hx289_0 := (HB.out.cell (World.block_lt_of_cell? w _ hx289_0)).trans hx289_0
                        have HR289_0 := Aside0.mk hi289_0
                        have HC289_0 := Aside0.mk hl289_0
                        clear hi289_0 hl289_0
                        replace p289 := eq_true p289
                        replace q289 := eq_true q289
                        go_wp2_with (first | ((with_reducible refine gate_callee (f := 15) rfl ?_); refine goesL_ (some 43) rfl rfl Try.func15 (by kernel_rfl) rfl #[.slice A289_0 (rd_L1 l0 x34_2).length c289_0] rfl (by (try simp only [List.map_toArray, List.map_cons, List.map_nil]); first | done | rfl | (simp only [List.length_drop, List.length_take]; rfl)) ?_; (with_reducible refine (sum_Frame.calls k2 _ _ (rd_L1 l0 x34_2) t290 t291 _ ?side1 ?side2 A14.out).mono ?_); (case side1 => repeat (first | exact (Kd.C_below HR289_0.out HB.out) | (with_reducible refine Kd.C_alloc ?_ _) | (with_reducible refine Kd.C_drewN ?_ _) | (with_reducible refine Kd.C_drew ?_))); (case side2 => exact HC289_0.out); rintro e w16 ⟨v292, rfl, ho0, hb⟩; refine ⟨_, rfl, ?_⟩; have n0_ := Aside0.mk (Kd.R_elder' (by (with_reducible repeat (first | apply Kd.R_alloc | apply Kd.R_drewN | apply Kd.R_drew)); exact HO_5.out) (Kd.R_base ho0) hb); have n1_ := Aside0.mk (Kd.R_lower (Kd.R_new' ho0 (Kd.R_lt (by (with_reducible repeat (first | apply Kd.R_alloc | apply Kd.R_drewN | apply Kd.R_drew)); exact HO_5.out))) (below_size (by repeat (first | (with_reducible first | exact HB.out | apply below_alloc | apply pw_below_drewN | apply below_drew1) | exact HB.out)))); have n2_ := Aside0.mk (below_step (by repeat (first | (with_reducible first | exact HB.out | apply below_alloc | apply pw_below_drewN | apply below_drew1) | exact HB.out)) hb); clear HO_5; clear HB; have HO_5 := n0_; have HO293 := n1_; have HB := n2_; clear n0_ n1_ n2_; (try clear hb); (try clear hb2); (try clear hk); (try clear hi); (try clear ho0); obtain ⟨Ao18, co18, eo18⟩ := Kd.R_slice HO293.out; subst eo18) | ((with_reducible refine gate_builtin (b := .append) (xs := #[.tmp 46, .tmp 47]) rfl ?_); (try (refine gate_guard (by rfl) ?_; dsimp only)); at_builtin; refine Kd.R_append_rows (Kd.int .u8) (w0 := w) w.heap.size rfl (.tmp 46) (.tmp 47) 24 5 (.int .u8 0) 1 rfl Try.underlying24 info5 rfl (by decide) (by omega) u5 x5_2 t290 _ _ _ (fun k_ => some k_ ≠ (.slice Ao18 t290.length co18 : Value).ownBlock) (fun _ => False) rfl rfl ?aO ?aR (fun _ _ h => h) (fun _ h => h.elim) ?aF ?aB ?aS ?aL ?_; (case aR => repeat (first | exact (Kd.R_reads' HO293.out).2.2 | (with_reducible refine Kd.C_alloc ?_ _) | (with_reducible refine Kd.C_drewN ?_ _) | (with_reducible refine Kd.C_drew ?_))); (case aB => exact (by repeat (first | (with_reducible first | exact HB.out | apply below_alloc | apply pw_below_drewN | apply below_drew1) | exact HB.out))); (case aF => exact (fun k_ hk => Kd.fresh' (Kd.R_lt (by (with_reducible repeat (first | apply Kd.R_alloc | apply Kd.R_drewN | apply Kd.R_drew)); exact HO293.out)) k_ hk)); (case aO => exact (by (with_reducible repeat (first | apply Kd.R_alloc | apply Kd.R_drewN | apply Kd.R_drew)); exact Kd.R_mono HO_5.out (fun _ hk => hk.2))); (case aS => exact (below_size (by repeat (first | (with_reducible first | exact HB.out | apply below_alloc | apply pw_below_drewN | apply below_drew1) | exact HB.out)))); (case aL => have := LMc15.out; omega); intro v295 w17 ho hb hg hat; rw [← Ny294.out] at ho; have n0_ := Aside0.mk (Kd.R_after (ok := (fun _ => True)) (by (with_reducible repeat (first | apply Kd.R_alloc | apply Kd.R_drewN | apply Kd.R_drew)); exact HO293.out) hg hat); have n1_ := Aside0.mk (hb); have n2_ := Aside0.mk (ho); clear HO293; clear HB; clear HO_5; have HO293 := n0_; have HB := n1_; have HO296 := n2_; clear n0_ n1_ n2_; clear ho hb hg hat))
                        go_roundg k2
                        case measure => have := HJ4.out; have := HK2.out; omega
                        case rel => exact ⟨(y294), (wrap64 (x34_2 + 1)), (by first | rfl | (simp; done) | (simp [*]; done)), H', ⟨by have := HJ4.out; have := HK2.out; omega⟩, ⟨by (with_reducible repeat (first | apply Kd.R_alloc | apply Kd.R_drewN | apply Kd.R_drew)); exact Kd.R_mono HO296.out (fun _ hk => trivial)⟩, ⟨by repeat (first | (with_reducible first | exact HB.out | apply below_alloc | apply pw_below_drewN | apply below_drew1) | exact HB.out)⟩⟩
                      · rw [if_neg c15] at H
                        exact absurd H (by simp)
                  · rw [if_neg c12] at H
                    exact absurd H (by simp)
                · rw [if_neg c11] at H
                  exact absurd H (by simp)
              · rw [if_neg c10] at H
                have c10b0 : decide (x34_2 < (l0.length : Int)) = false := decide_eq_false c10
                clear c10
                replace H := Option.bind_eq_some_iff.mp H
                obtain ⟨⟨t297, t298⟩, A190, H⟩ := H
                replace H : (if 0 ≤ (wrap64 ((l0.length : Int) - 1)) then (if (wrap64 ((l0.length : Int) - 1)) < (l0.length : Int) then (if (wrap64 (((rd_L1 l0 (wrap64 ((l0.length : Int) - 1))).length : Int) + 8)) = 0 then (none) else (if (wrap64 (1 + (Int.tmod a1 (wrap64 (((rd_L1 l0 (wrap64 ((l0.length : Int) - 1))).length : Int) + 8))))) > (x5_2.length : Int) then (some false) else (if 0 ≤ (wrap64 ((x5_2.length : Int) - (wrap64 (1 + (Int.tmod a1 (wrap64 (((rd_L1 l0 (wrap64 ((l0.length : Int) - 1))).length : Int) + 8))))))) then (if (wrap64 ((x5_2.length : Int) - (wrap64 (1 + (Int.tmod a1 (wrap64 (((rd_L1 l0 (wrap64 ((l0.length : Int) - 1))).length : Int) + 8))))))) ≤ (x5_2.length : Int) then ((sum_Split.f k2 (x5_2.take ((wrap64 ((x5_2.length : Int) - (wrap64 (1 + (Int.tmod a1 (wrap64 (((rd_L1 l0 (wrap64 ((l0.length : Int) - 1))).length : Int) + 8))))))) : Int).toNat)).bind fun bt306 => (if t298 = (x5_2.length : Int) then (if (t297.length : Int) = (l0.length : Int) then (if (bt306.1.length : Int) = (wrap64 ((l0.length : Int) - 1)) then (slipwaylaw11_SumCuts.j2 k2 l0 t297 (wrap64 ((l0.length : Int) - 1)) bt306.1 (bt306.2 != (wrap64 ((wrap64 ((x5_2.length : Int) - 8)) - ((rd_L1 l0 (wrap64 ((l0.length : Int) - 1))).length : Int))))) else (slipwaylaw11_SumCuts.j2 k2 l0 t297 (wrap64 ((l0.length : Int) - 1)) bt306.1 true)) else (slipwaylaw11_SumCuts.j2 k2 l0 t297 (wrap64 ((l0.length : Int) - 1)) bt306.1 true)) else (slipwaylaw11_SumCuts.j2 k2 l0 t297 (wrap64 ((l0.length : Int) - 1)) bt306.1 true))) else (none)) else (none)))) else (none)) else (none)) = some r := H
                have A19 := Aside0.mk A190
                clear A190
                obtain ⟨ji20, hji20⟩ : ∃ j_ : Int, (wrap64 ((l0.length : Int) - 1)) = j_ := ⟨_, rfl⟩
                replace H : (if 0 ≤ (ji20) then (if (ji20) < (l0.length : Int) then (if (wrap64 (((rd_L1 l0 (ji20)).length : Int) + 8)) = 0 then (none) else (if (wrap64 (1 + (Int.tmod a1 (wrap64 (((rd_L1 l0 (ji20)).length : Int) + 8))))) > (x5_2.length : Int) then (some false) else (if 0 ≤ (wrap64 ((x5_2.length : Int) - (wrap64 (1 + (Int.tmod a1 (wrap64 (((rd_L1 l0 (ji20)).length : Int) + 8))))))) then (if (wrap64 ((x5_2.length : Int) - (wrap64 (1 + (Int.tmod a1 (wrap64 (((rd_L1 l0 (ji20)).length : Int) + 8))))))) ≤ (x5_2.length : Int) then ((sum_Split.f k2 (x5_2.take ((wrap64 ((x5_2.length : Int) - (wrap64 (1 + (Int.tmod a1 (wrap64 (((rd_L1 l0 (ji20)).length : Int) + 8))))))) : Int).toNat)).bind fun bt306 => (if t298 = (x5_2.length : Int) then (if (t297.length : Int) = (l0.length : Int) then (if (bt306.1.length : Int) = (ji20) then (slipwaylaw11_SumCuts.j2 k2 l0 t297 ji20 bt306.1 (bt306.2 != (wrap64 ((wrap64 ((x5_2.length : Int) - 8)) - ((rd_L1 l0 (ji20)).length : Int))))) else (slipwaylaw11_SumCuts.j2 k2 l0 t297 ji20 bt306.1 true)) else (slipwaylaw11_SumCuts.j2 k2 l0 t297 ji20 bt306.1 true)) else (slipwaylaw11_SumCuts.j2 k2 l0 t297 ji20 bt306.1 true))) else (none)) else (none)))) else (none)) else (none)) = some r := by first | (rw [hji20] at H; exact H) | (simp only [hji20] at H ⊢; exact H)
                (try rw [hji20] at A19)
                have hji20w : (IntKind.i64.wrap ((l0.length : Int) - 1)) = ji20 := (i64_w _).trans hji20
                by_cases c21 : 0 ≤ (ji20)
                · rw [if_pos c21] at H
                  have c21b0 : decide (0 ≤ (ji20)) = true := decide_eq_true c21
                  clear c21
                  by_cases c22 : (ji20) < (l0.length : Int)
                  · rw [if_pos c22] at H
                    have c22b0 : decide ((ji20) < (l0.length : Int)) = true := decide_eq_true c22
                    clear c22
                    by_cases c23 : (wrap64 (((rd_L1 l0 (ji20)).length : Int) + 8)) = 0
                    · rw [if_pos c23] at H
                      exact absurd H (by simp)
                    · rw [if_neg c23] at H
                      have c23b0 : ((wrap64 (((rd_L1 l0 (ji20)).length : Int) + 8)) == 0) = false := beq_eq_false_iff_ne.mpr c23
                      have c23b1 : ((wrap64 (((rd_L1 l0 (ji20)).length : Int) + 8)) != 0) = true := bne_iff_ne.mpr c23
                      by_cases c24 : (wrap64 (1 + (Int.tmod a1 (wrap64 (((rd_L1 l0 (ji20)).length : Int) + 8))))) > (x5_2.length : Int)
                      · rw [if_pos c24] at H
                        have c24b0 : decide ((x5_2.length : Int) < (wrap64 (1 + (Int.tmod a1 (wrap64 (((rd_L1 l0 (ji20)).length : Int) + 8)))))) = true := decide_eq_true c24
                        clear c24
                        obtain rfl := Option.some.inj H
                        obtain ⟨Ao25, co25, eo25⟩ := Kd.R_slice HO_5.out
                        subst eo25
                        go_wp2_with (first | ((with_reducible refine gate_callee (f := 19) rfl ?_); refine goesL_ (some 52) rfl rfl Try.func19 (by kernel_rfl) rfl #[.slice Ao25 x5_2.length co25] rfl (by (try simp only [List.map_toArray, List.map_cons, List.map_nil]); first | done | rfl | (simp only [List.length_drop, List.length_take]; rfl)) ?_; (with_reducible refine (sum_Split.calls k2 _ _ x5_2 t297 t298 _ ?side1 ?side2 A19.out).mono ?_); (case side1 => repeat (first | exact (Kd.R_reads' HO_5.out).2.2 | (with_reducible refine Kd.C_alloc ?_ _) | (with_reducible refine Kd.C_drewN ?_ _) | (with_reducible refine Kd.C_drew ?_))); (case side2 => exact (Kd.R_reads' HO_5.out).2.1); rintro e w26 ⟨v299, rfl, ho0, hb⟩; refine ⟨_, rfl, ?_⟩; have n0_ := Aside0.mk (Kd.R_below (by (with_reducible repeat (first | apply Kd.R_alloc | apply Kd.R_drewN | apply Kd.R_drew)); exact HO_5.out) hb); have n1_ := Aside0.mk (Kd.S_lower (Kd.S_new' ho0 (Kd.R_lt (by (with_reducible repeat (first | apply Kd.R_alloc | apply Kd.R_drewN | apply Kd.R_drew)); exact HO_5.out))) (below_size (by repeat (first | (with_reducible first | exact HB.out | apply below_alloc | apply pw_below_drewN | apply below_drew1) | exact HB.out)))); have n2_ := Aside0.mk (below_step (by repeat (first | (with_reducible first | exact HB.out | apply below_alloc | apply pw_below_drewN | apply below_drew1) | exact HB.out)) hb); clear HO_5; clear HB; have HO_5 := n0_; have HO300 := n1_; have HB := n2_; clear n0_ n1_ n2_; (try clear hb); (try clear hb2); (try clear hk); (try clear hi); (try clear ho0); have p301 : 0 ≤ ((ji20) : Int) := of_decide_eq_true (by first | (with_reducible assumption) | assumption); have q301 : (ji20) < (l0.length : Int) := of_decide_eq_true (by first | (with_reducible assumption) | assumption); obtain ⟨ad301, A301_0, c301_0, e301, hx301_0, hl301_0, hi301_0⟩ := at_L1 HR0.out (ji20) p301 q301; cases e301; replace hx301_0 := (HB.out.cell (World.block_lt_of_cell? w _ hx301_0)).trans hx301_0; have HR301_0 := Aside0.mk hi301_0; have HC301_0 := Aside0.mk hl301_0; clear hi301_0 hl301_0; replace p301 := eq_true p301; replace q301 := eq_true q301))
                        go_ret
                        exact ⟨by first | rfl | (simp [errW_none, errW_some] <;> rfl) | (simp only [← hji20]; first | rfl | (simp [errW_none, errW_some] <;> rfl)) | (simp [*, errW_none, errW_some] <;> rfl), by repeat (first | (with_reducible first | exact HB.out | apply below_alloc | apply pw_below_drewN | apply below_drew1) | exact HB.out)⟩
                      · rw [if_neg c24] at H
                        have c24b0 : decide ((x5_2.length : Int) < (wrap64 (1 + (Int.tmod a1 (wrap64 (((rd_L1 l0 (ji20)).length : Int) + 8)))))) = false := decide_eq_false c24
                        clear c24
                        obtain ⟨ji27, hji27⟩ : ∃ j_ : Int, (wrap64 ((x5_2.length : Int) - (wrap64 (1 + (Int.tmod a1 (wrap64 (((rd_L1 l0 (ji20)).length : Int) + 8))))))) = j_ := ⟨_, rfl⟩
                        replace H : (if 0 ≤ (ji27) then (if (ji27) ≤ (x5_2.length : Int) then ((sum_Split.f k2 (x5_2.take ((ji27) : Int).toNat)).bind fun bt306 => (if t298 = (x5_2.length : Int) then (if (t297.length : Int) = (l0.length : Int) then (if (bt306.1.length : Int) = (ji20) then (slipwaylaw11_SumCuts.j2 k2 l0 t297 ji20 bt306.1 (bt306.2 != (wrap64 ((wrap64 ((x5_2.length : Int) - 8)) - ((rd_L1 l0 (ji20)).length : Int))))) else (slipwaylaw11_SumCuts.j2 k2 l0 t297 ji20 bt306.1 true)) else (slipwaylaw11_SumCuts.j2 k2 l0 t297 ji20 bt306.1 true)) else (slipwaylaw11_SumCuts.j2 k2 l0 t297 ji20 bt306.1 true))) else (none)) else (none)) = some r := by first | (rw [hji27] at H; exact H) | (simp only [hji27] at H ⊢; exact H)
                        (try rw [hji27] at A19)
                        have hji27w : (IntKind.i64.wrap ((x5_2.length : Int) - (wrap64 (1 + (Int.tmod a1 (wrap64 (((rd_L1 l0 (ji20)).length : Int) + 8))))))) = ji27 := (i64_w _).trans hji27
                        by_cases c28 : 0 ≤ (ji27)
                        · rw [if_pos c28] at H
                          have c28b0 := eq_true c28
                          have c28b1 : decide (0 ≤ (ji27)) = true := decide_eq_true c28
                          clear c28
                          by_cases c29 : (ji27) ≤ (x5_2.length : Int)
                          · rw [if_pos c29] at H
                            have c29b0 := eq_true c29
                            have c29b1 : decide ((ji27) ≤ (x5_2.length : Int)) = true := decide_eq_true c29
                            clear c29
                            obtain ⟨y302, hy302⟩ : ∃ y_ : List Int, y_ = (x5_2.take ((ji27) : Int).toNat) := ⟨_, rfl⟩
                            replace H : ((sum_Split.f k2 y302).bind fun bt306 => (if t298 = (x5_2.length : Int) then (if (t297.length : Int) = (l0.length : Int) then (if (bt306.1.length : Int) = (ji20) then (slipwaylaw11_SumCuts.j2 k2 l0 t297 ji20 bt306.1 (bt306.2 != (wrap64 ((wrap64 ((x5_2.length : Int) - 8)) - ((rd_L1 l0 (ji20)).length : Int))))) else (slipwaylaw11_SumCuts.j2 k2 l0 t297 ji20 bt306.1 true)) else (slipwaylaw11_SumCuts.j2 k2 l0 t297 ji20 bt306.1 true)) else (slipwaylaw11_SumCuts.j2 k2 l0 t297 ji20 bt306.1 true))) = some r := by first | (rw [hy302]; with_reducible exact H) | (have H2_ := (Option.bind_some _ _).symm.trans H; rw [hy302]; with_reducible exact H2_) | (have H2_ := (Option.bind_some _ _).symm.trans H; with_reducible exact H2_) | with_reducible exact H | (rw [hy302]; exact H) | exact H
                            have Ny302 := Aside0.mk hy302
                            clear hy302
                            replace H := Option.bind_eq_some_iff.mp H
                            obtain ⟨⟨t306, t307⟩, A300, H⟩ := H
                            replace H : (if t298 = (x5_2.length : Int) then (if (t297.length : Int) = (l0.length : Int) then (if (t306.length : Int) = (ji20) then (slipwaylaw11_SumCuts.j2 k2 l0 t297 ji20 t306 (t307 != (wrap64 ((wrap64 ((x5_2.length : Int) - 8)) - ((rd_L1 l0 (ji20)).length : Int))))) else (slipwaylaw11_SumCuts.j2 k2 l0 t297 ji20 t306 true)) else (slipwaylaw11_SumCuts.j2 k2 l0 t297 ji20 t306 true)) else (slipwaylaw11_SumCuts.j2 k2 l0 t297 ji20 t306 true)) = some r := H
                            have A30 := Aside0.mk A300
                            clear A300
                            have HC31 := Aside0.mk H
                            clear H
                            obtain ⟨Ao32, co32, eo32⟩ := Kd.R_slice HO_5.out
                            subst eo32
                            go_upto_region 20 with (first | ((with_reducible refine gate_callee (f := 19) rfl ?_); refine goesL_ (some 52) rfl rfl Try.func19 (by kernel_rfl) rfl #[.slice Ao32 x5_2.length co32] rfl (by (try simp only [List.map_toArray, List.map_cons, List.map_nil]); first | done | rfl | (simp only [List.length_drop, List.length_take]; rfl)) ?_; (with_reducible refine (sum_Split.calls k2 _ _ x5_2 t297 t298 _ ?side1 ?side2 A19.out).mono ?_); (case side1 => repeat (first | exact (Kd.R_reads' HO_5.out).2.2 | (with_reducible refine Kd.C_alloc ?_ _) | (with_reducible refine Kd.C_drewN ?_ _) | (with_reducible refine Kd.C_drew ?_))); (case side2 => exact (Kd.R_reads' HO_5.out).2.1); rintro e w33 ⟨v299, rfl, ho0, hb⟩; refine ⟨_, rfl, ?_⟩; have n0_ := Aside0.mk (Kd.R_below (by (with_reducible repeat (first | apply Kd.R_alloc | apply Kd.R_drewN | apply Kd.R_drew)); exact HO_5.out) hb); have n1_ := Aside0.mk (Kd.S_lower (Kd.S_new' ho0 (Kd.R_lt (by (with_reducible repeat (first | apply Kd.R_alloc | apply Kd.R_drewN | apply Kd.R_drew)); exact HO_5.out))) (below_size (by repeat (first | (with_reducible first | exact HB.out | apply below_alloc | apply pw_below_drewN | apply below_drew1) | exact HB.out)))); have n2_ := Aside0.mk (below_step (by repeat (first | (with_reducible first | exact HB.out | apply below_alloc | apply pw_below_drewN | apply below_drew1) | exact HB.out)) hb); clear HO_5; clear HB; have HO_5 := n0_; have HO300 := n1_; have HB := n2_; clear n0_ n1_ n2_; (try clear hb); (try clear hb2); (try clear hk); (try clear hi); (try clear ho0); have p301 : 0 ≤ ((ji20) : Int) := of_decide_eq_true (by first | (with_reducible assumption) | assumption); have q301 : (ji20) < (l0.length : Int) := of_decide_eq_true (by first | (with_reducible assumption) | assumption); obtain ⟨ad301, A301_0, c301_0, e301, hx301_0, hl301_0, hi301_0⟩ := at_L1 HR0.out (ji20) p301 q301; cases e301; replace hx301_0 := (HB.out.cell (World.block_lt_of_cell? w _ hx301_0)).trans hx301_0; have HR301_0 := Aside0.mk hi301_0; have HC301_0 := Aside0.mk hl301_0; clear hi301_0 hl301_0; replace p301 := eq_true p301; replace q301 := eq_true q301; have q34 : ((ji27) : Int) ≤ ((x5_2.length : Int) : Int) := of_decide_eq_true (by first | (with_reducible assumption) | assumption); obtain ⟨i034, hi034, _, hsz34, _⟩ := info_parts info5; have hroom34 : x5_2.length ≤ co32 := (Kd.R_reads' HO_5.out).2.1; have hC34 : Kd.C (Kd.int .u8) _ Ao32 x5_2.length x5_2 := (Kd.R_reads' HO_5.out).2.2; have hcut34 := cut_to (P := Try.prog) 24 5 .i64 Try.underlying24 hi034 Ao32 x5_2.length co32 (ji27) (of_decide_eq_true (by first | (with_reducible assumption) | assumption)) q34 hroom34; have hr34 := Kd.C_take (m := ((ji27) : Int).toNat) hC34 (by omega); have hy34 : y302.length = ((ji27) : Int).toNat := (by rw [Ny302.out, List.length_take]; omega); rw [← Ny302.out] at hr34; rw [← hy34] at hcut34; have HR305 := Aside0.mk hr34; have HC305 := Aside0.mk (show y302.length ≤ co32 from by omega); clear hr34 hC34 hroom34 hi034 hsz34; have KY34 := Aside0.mk hy34; clear hy34; have KL34 := Aside0.mk (show ((ji27) : Int).toNat ≤ x5_2.length from by omega); replace q34 := eq_true q34) | ((with_reducible refine gate_callee (f := 19) rfl ?_); refine goesL_ (some 78) rfl rfl Try.func19 (by kernel_rfl) rfl #[.slice Ao32 y302.length co32] rfl (by (try simp only [List.map_toArray, List.map_cons, List.map_nil]); first | done | rfl | (simp only [List.length_drop, List.length_take]; rfl)) ?_; (with_reducible refine (sum_Split.calls k2 _ _ y302 t306 t307 _ ?side1 ?side2 A30.out).mono ?_); (case side1 => repeat (first | exact (by repeat (first | (with_reducible exact HR305.out) | (with_reducible refine Kd.C_alloc ?_ _) | (with_reducible refine Kd.C_drewN ?_ _) | (with_reducible refine Kd.C_drew ?_) | exact HR305.out)) | (with_reducible refine Kd.C_alloc ?_ _) | (with_reducible refine Kd.C_drewN ?_ _) | (with_reducible refine Kd.C_drew ?_))); (case side2 => exact HC305.out); rintro e w35 ⟨v308, rfl, ho0, hb⟩; refine ⟨_, rfl, ?_⟩; have n0_ := Aside0.mk (Kd.R_below (by (with_reducible repeat (first | apply Kd.R_alloc | apply Kd.R_drewN | apply Kd.R_drew)); exact HO_5.out) hb); have n1_ := Aside0.mk (Kd.S_elder' (by (with_reducible repeat (first | apply Kd.S_alloc | apply Kd.S_drewN | apply Kd.S_drew)); exact HO300.out) (Kd.S_base ho0) hb); have n2_ := Aside0.mk (Kd.S_lower (Kd.S_new' (Kd.S_new' ho0 (Kd.R_lt (by (with_reducible repeat (first | apply Kd.R_alloc | apply Kd.R_drewN | apply Kd.R_drew)); exact HO_5.out))) (Kd.S_lt (by (with_reducible repeat (first | apply Kd.S_alloc | apply Kd.S_drewN | apply Kd.S_drew)); exact HO300.out))) (below_size (by repeat (first | (with_reducible first | exact HB.out | apply below_alloc | apply pw_below_drewN | apply below_drew1) | exact HB.out)))); have n3_ := Aside0.mk (Kd.C_below (by repeat (first | (with_reducible exact HR305.out) | (with_reducible refine Kd.C_alloc ?_ _) | (with_reducible refine Kd.C_drewN ?_ _) | (with_reducible refine Kd.C_drew ?_) | exact HR305.out)) hb); have n4_ := Aside0.mk (below_step (by repeat (first | (with_reducible first | exact HB.out | apply below_alloc | apply pw_below_drewN | apply below_drew1) | exact HB.out)) hb); clear HO_5; clear HO300; clear HR305; clear HB; have HO_5 := n0_; have HO300 := n1_; have HO309 := n2_; have HR305 := n3_; have HB := n4_; clear n0_ n1_ n2_ n3_ n4_; (try clear hb); (try clear hb2); (try clear hk); (try clear hi); (try clear ho0)))
                            (try simp only [Act.put, List.setIfInBounds_toArray, List.set_cons_zero, List.set_cons_succ])
                            go_cut [110] (fun v110 wc => ∃ (kq : Nat) (x110_30 : Bool), v110 = .bool x110_30 ∧ Aside0 (slipwaylaw11_SumCuts.j2 kq l0 t297 ji20 t306 x110_30 = some r) ∧ Aside0 (kq ≤ k2) ∧ Aside0 (Kd.S (Kd.slice 5 (Kd.int .u8)) 24 wc w.heap.size (fun k_ => some k_ ≠ (v308 : Value).ownBlock) v299 t297) ∧ Aside0 (Kd.S (Kd.slice 5 (Kd.int .u8)) 24 wc w.heap.size (fun k_ => some k_ ≠ (v299 : Value).ownBlock) v308 t306) ∧ Aside0 (Kd.C (Kd.int .u8) wc Ao32 y302.length y302) ∧ Aside0 (Below w.heap.size w wc))
                            case first =>
                              have H := HC31.out
                              clear HC31
                              by_cases c36 : t298 = (x5_2.length : Int)
                              · rw [if_pos c36] at H
                                have c36b0 : (t298 == (x5_2.length : Int)) = true := beq_iff_eq.mpr c36
                                have c36b1 : (t298 != (x5_2.length : Int)) = false := bne_eq_false_iff_eq.mpr c36
                                clear c36
                                (first | rw [c36b0] | (simp only [i64_w, i32_w]; rw [c36b0]) | skip)
                                by_cases c37 : (t297.length : Int) = (l0.length : Int)
                                · rw [if_pos c37] at H
                                  have c37b0 : ((t297.length : Int) == (l0.length : Int)) = true := beq_iff_eq.mpr c37
                                  have c37b1 : ((t297.length : Int) != (l0.length : Int)) = false := bne_eq_false_iff_eq.mpr c37
                                  have c37b2 : (t297.length == l0.length) = true := by first | simpa using c37 | (simp at c37 ⊢; omega)
                                  clear c37
                                  by_cases c38 : (t306.length : Int) = (ji20)
                                  · rw [if_pos c38] at H
                                    have c38b0 : ((t306.length : Int) == (ji20)) = true := beq_iff_eq.mpr c38
                                    have c38b1 : ((t306.length : Int) != (ji20)) = false := bne_eq_false_iff_eq.mpr c38
                                    clear c38
                                    have H' := Aside0.mk H
                                    clear H
                                    obtain ⟨Ao39, co39, eo39⟩ := Kd.S_slice HO300.out
                                    subst eo39
                                    obtain ⟨Ao40, co40, eo40⟩ := Kd.S_slice HO309.out
                                    subst eo40
                                    have p310 : 0 ≤ ((ji20) : Int) := of_decide_eq_true (by first | (with_reducible assumption) | assumption)
                                    have q310 : (ji20) < (l0.length : Int) := of_decide_eq_true (by first | (with_reducible assumption) | assumption)
                                    obtain ⟨ad310, A310_0, c310_0, e310, hx310_0, hl310_0, hi310_0⟩ := at_L1 HR0.out (ji20) p310 q310
                                    obtain rfl : ad301 = ad310 := (by injection e310)
                                    replace hx310_0 := (HB.out.cell (World.block_lt_of_cell? w _ hx310_0)).trans hx310_0
                                    have HR310_0 := Aside0.mk hi310_0
                                    have HC310_0 := Aside0.mk hl310_0
                                    clear hi310_0 hl310_0
                                    replace p310 := eq_true p310
                                    replace q310 := eq_true q310
                                    go_wp2
                                    go_meet
                                    case rel => exact ⟨_, ((t307 != (wrap64 ((wrap64 ((x5_2.length : Int) - 8)) - ((rd_L1 l0 (ji20)).length : Int))))), (by first | rfl | (simp; done) | (simp only [← hji20] <;> (first | rfl | simp)) | (simp [*]; done)), H', ⟨by have := HJ4.out; have := HK2.out; first | omega | exact Nat.le_refl _⟩, ⟨by (with_reducible repeat (first | apply Kd.S_alloc | apply Kd.S_drewN | apply Kd.S_drew)); exact Kd.S_mono HO300.out (fun _ hk => hk.2)⟩, ⟨by (with_reducible repeat (first | apply Kd.S_alloc | apply Kd.S_drewN | apply Kd.S_drew)); exact Kd.S_mono HO309.out (fun _ hk => hk.2)⟩, ⟨by repeat (first | (with_reducible exact HR305.out) | (with_reducible refine Kd.C_alloc ?_ _) | (with_reducible refine Kd.C_drewN ?_ _) | (with_reducible refine Kd.C_drew ?_) | exact HR305.out)⟩, ⟨by repeat (first | (with_reducible first | exact HB.out | apply below_alloc | apply pw_below_drewN | apply below_drew1) | exact HB.out)⟩⟩
                                  · rw [if_neg c38] at H
                                    have c38b0 : ((t306.length : Int) == (ji20)) = false := beq_eq_false_iff_ne.mpr c38
                                    have c38b1 : ((t306.length : Int) != (ji20)) = true := bne_iff_ne.mpr c38
                                    have H' := Aside0.mk H
                                    clear H
                                    obtain ⟨Ao41, co41, eo41⟩ := Kd.S_slice HO300.out
                                    subst eo41
                                    obtain ⟨Ao42, co42, eo42⟩ := Kd.S_slice HO309.out
                                    subst eo42
                                    go_wp2
                                    go_meet
                                    case rel => exact ⟨_, (true), (by first | rfl | (simp; done) | (simp [*]; done)), H', ⟨by have := HJ4.out; have := HK2.out; first | omega | exact Nat.le_refl _⟩, ⟨by (with_reducible repeat (first | apply Kd.S_alloc | apply Kd.S_drewN | apply Kd.S_drew)); exact Kd.S_mono HO300.out (fun _ hk => hk.2)⟩, ⟨by (with_reducible repeat (first | apply Kd.S_alloc | apply Kd.S_drewN | apply Kd.S_drew)); exact Kd.S_mono HO309.out (fun _ hk => hk.2)⟩, ⟨by repeat (first | (with_reducible exact HR305.out) | (with_reducible refine Kd.C_alloc ?_ _) | (with_reducible refine Kd.C_drewN ?_ _) | (with_reducible refine Kd.C_drew ?_) | exact HR305.out)⟩, ⟨by repeat (first | (with_reducible first | exact HB.out | apply below_alloc | apply pw_below_drewN | apply below_drew1) | exact HB.out)⟩⟩
                                · rw [if_neg c37] at H
                                  have c37b0 : ((t297.length : Int) == (l0.length : Int)) = false := beq_eq_false_iff_ne.mpr c37
                                  have c37b1 : ((t297.length : Int) != (l0.length : Int)) = true := bne_iff_ne.mpr c37
                                  have c37b2 : (t297.length == l0.length) = false := by first | simpa using c37 | (simp at c37 ⊢; omega)
                                  have H' := Aside0.mk H
                                  clear H
                                  obtain ⟨Ao43, co43, eo43⟩ := Kd.S_slice HO300.out
                                  subst eo43
                                  go_wp2
                                  go_meet
                                  case rel => exact ⟨_, (true), (by first | rfl | (simp; done) | (simp [*]; done)), H', ⟨by have := HJ4.out; have := HK2.out; first | omega | exact Nat.le_refl _⟩, ⟨by (with_reducible repeat (first | apply Kd.S_alloc | apply Kd.S_drewN | apply Kd.S_drew)); exact Kd.S_mono HO300.out (fun _ hk => hk.2)⟩, ⟨by (with_reducible repeat (first | apply Kd.S_alloc | apply Kd.S_drewN | apply Kd.S_drew)); exact Kd.S_mono HO309.out (fun _ hk => hk.2)⟩, ⟨by repeat (first | (with_reducible exact HR305.out) | (with_reducible refine Kd.C_alloc ?_ _) | (with_reducible refine Kd.C_drewN ?_ _) | (with_reducible refine Kd.C_drew ?_) | exact HR305.out)⟩, ⟨by repeat (first | (with_reducible first | exact HB.out | apply below_alloc | apply pw_below_drewN | apply below_drew1) | exact HB.out)⟩⟩
                              · rw [if_neg c36] at H
                                have c36b0 : (t298 == (x5_2.length : Int)) = false := beq_eq_false_iff_ne.mpr c36
                                have c36b1 : (t298 != (x5_2.length : Int)) = true := bne_iff_ne.mpr c36
                                (first | rw [c36b0] | (simp only [i64_w, i32_w]; rw [c36b0]) | skip)
                                have H' := Aside0.mk H
                                clear H
                                go_wp2
                                go_meet
                                case rel => exact ⟨_, (true), (by first | rfl | (simp; done) | (simp [*]; done)), H', ⟨by have := HJ4.out; have := HK2.out; first | omega | exact Nat.le_refl _⟩, ⟨by (with_reducible repeat (first | apply Kd.S_alloc | apply Kd.S_drewN | apply Kd.S_drew)); exact Kd.S_mono HO300.out (fun _ hk => hk.2)⟩, ⟨by (with_reducible repeat (first | apply Kd.S_alloc | apply Kd.S_drewN | apply Kd.S_drew)); exact Kd.S_mono HO309.out (fun _ hk => hk.2)⟩, ⟨by repeat (first | (with_reducible exact HR305.out) | (with_reducible refine Kd.C_alloc ?_ _) | (with_reducible refine Kd.C_drewN ?_ _) | (with_reducible refine Kd.C_drew ?_) | exact HR305.out)⟩, ⟨by repeat (first | (with_reducible first | exact HB.out | apply below_alloc | apply pw_below_drewN | apply below_drew1) | exact HB.out)⟩⟩
                            case rest =>
                              clear HC31
                              try clear c1
                              try clear c2
                              try clear p2
                              try clear q2
                              try clear hx2
                              try clear c3
                              try clear p3
                              try clear q3
                              try clear hx3
                              try clear c4
                              try clear p6
                              try clear c7
                              try clear c7b0
                              try clear c7b1
                              try clear c8
                              try clear c8b0
                              try clear c8b1
                              try clear c9
                              try clear c10
                              try clear c10b0
                              try clear c11
                              try clear c11b0
                              try clear c12
                              try clear c12b0
                              try clear c13
                              try clear c13b0
                              try clear c13b1
                              try clear c15
                              try clear c19
                              try clear c21
                              try clear c21b0
                              try clear c22
                              try clear c22b0
                              try clear c23
                              try clear c23b0
                              try clear c23b1
                              try clear c24
                              try clear c24b0
                              try clear c28
                              try clear c28b0
                              try clear c28b1
                              try clear p28
                              try clear q28
                              try clear hx28
                              try clear c29
                              try clear c29b0
                              try clear c29b1
                              try clear c30
                              try clear p30
                              try clear q30
                              try clear hx30
                              try clear c31
                              try clear p31
                              try clear q31
                              try clear hx31
                              try clear q34
                              try clear c36
                              try clear c36b0
                              try clear c36b1
                              try clear c37
                              try clear c37b0
                              try clear c37b1
                              try clear c37b2
                              try clear c38
                              try clear c38b0
                              try clear c38b1
                              try clear hx289_0
                              try clear hx301_0
                              try clear hx310_0
                              try clear p2
                              try clear p289
                              try clear p301
                              try clear p310
                              try clear q289
                              try clear q301
                              try clear q310
                              try clear q34
                              obtain ⟨kq, x110_30, rfl, HA, HJ30, HO_10, HO_14, HR305, HB⟩ := hcut
                              cases kq with
                              | zero => exact absurd HA.out (by simp [slipwaylaw11_SumCuts.j2])
                              | succ kj30 =>
                                have H := HA.out
                                clear HA
                                simp only [slipwaylaw11_SumCuts.j2] at H
                                by_cases c44 : x110_30 = true
                                · subst c44
                                  have H1 : (some false) = some r := by rw [if_pos rfl] at H; exact H
                                  clear H
                                  have H := H1
                                  clear H1
                                  obtain rfl := Option.some.inj H
                                  go_wp2
                                  go_ret
                                  exact ⟨by first | rfl | (simp [errW_none, errW_some] <;> rfl) | (simp only [← hji20, ← hji27]; first | rfl | (simp [errW_none, errW_some] <;> rfl)) | (simp [*, errW_none, errW_some] <;> rfl), by repeat (first | (with_reducible first | exact HB.out | apply below_alloc | apply pw_below_drewN | apply below_drew1) | exact HB.out)⟩
                                · replace c44 := Bool.eq_false_iff.mpr c44
                                  subst c44
                                  have H1 : (slipwaylaw11_SumCuts.l1 kj30 t297 ji20 t306 l0 (l0.length : Int) 0) = some r := by rw [if_neg (show ¬ (false = true) by decide)] at H; exact H
                                  clear H
                                  have H := H1
                                  clear H1
                                  have H' := Aside0.mk H
                                  clear H
                                  go_wp2
                                  go_loopg [113] kj30 (fun kq v113 w' => ∃ (x113_4 : Int), v113 = .int .i64 x113_4 ∧ Aside0 (slipwaylaw11_SumCuts.l1 kq t297 ji20 t306 l0 (l0.length : Int) x113_4 = some r) ∧ Aside0 (kq ≤ kj30) ∧ Aside0 (Kd.S (Kd.slice 5 (Kd.int .u8)) 24 w' w.heap.size (fun k_ => some k_ ≠ (v308 : Value).ownBlock) v299 t297) ∧ Aside0 (Kd.S (Kd.slice 5 (Kd.int .u8)) 24 w' w.heap.size (fun k_ => some k_ ≠ (v299 : Value).ownBlock) v308 t306) ∧ Aside0 (Kd.C (Kd.int .u8) w' Ao32 y302.length y302) ∧ Aside0 (Below w.heap.size w w'))
                                  case atStart => exact ⟨(0), (by first | rfl | (simp; done) | (simp [*]; done)), H', ⟨Nat.le_refl _⟩, ⟨by (with_reducible repeat (first | apply Kd.S_alloc | apply Kd.S_drewN | apply Kd.S_drew)); exact HO_10.out⟩, ⟨by (with_reducible repeat (first | apply Kd.S_alloc | apply Kd.S_drewN | apply Kd.S_drew)); exact HO_14.out⟩, ⟨by repeat (first | (with_reducible exact HR305.out) | (with_reducible refine Kd.C_alloc ?_ _) | (with_reducible refine Kd.C_drewN ?_ _) | (with_reducible refine Kd.C_drew ?_) | exact HR305.out)⟩, ⟨by repeat (first | (with_reducible first | exact HB.out | apply below_alloc | apply pw_below_drewN | apply below_drew1) | exact HB.out)⟩⟩
                                  case round =>
                                    clear H'
                                    try clear c1
                                    try clear c2
                                    try clear p2
                                    try clear q2
                                    try clear hx2
                                    try clear c3
                                    try clear p3
                                    try clear q3
                                    try clear hx3
                                    try clear c4
                                    try clear p6
                                    try clear c7
                                    try clear c7b0
                                    try clear c7b1
                                    try clear c8
                                    try clear c8b0
                                    try clear c8b1
                                    try clear c9
                                    try clear c10
                                    try clear c10b0
                                    try clear c11
                                    try clear c11b0
                                    try clear c12
                                    try clear c12b0
                                    try clear c13
                                    try clear c13b0
                                    try clear c13b1
                                    try clear c15
                                    try clear c19
                                    try clear c21
                                    try clear c21b0
                                    try clear c22
                                    try clear c22b0
                                    try clear c23
                                    try clear c23b0
                                    try clear c23b1
                                    try clear c24
                                    try clear c24b0
                                    try clear c28
                                    try clear c28b0
                                    try clear c28b1
                                    try clear p28
                                    try clear q28
                                    try clear hx28
                                    try clear c29
                                    try clear c29b0
                                    try clear c29b1
                                    try clear c30
                                    try clear p30
                                    try clear q30
                                    try clear hx30
                                    try clear c31
                                    try clear p31
                                    try clear q31
                                    try clear hx31
                                    try clear q34
                                    try clear c36
                                    try clear c36b0
                                    try clear c36b1
                                    try clear c37
                                    try clear c37b0
                                    try clear c37b1
                                    try clear c37b2
                                    try clear c38
                                    try clear c38b0
                                    try clear c38b1
                                    try clear c44
                                    try clear hx289_0
                                    try clear hx301_0
                                    try clear hx310_0
                                    try clear p2
                                    try clear p28
                                    try clear p289
                                    try clear p3
                                    try clear p30
                                    try clear p301
                                    try clear p31
                                    try clear p310
                                    try clear p6
                                    try clear q2
                                    try clear q28
                                    try clear q289
                                    try clear q3
                                    try clear q30
                                    try clear q301
                                    try clear q31
                                    try clear q310
                                    try clear q34
                                    obtain ⟨x113_4, rfl, HA, HK4, HO_10, HO_14, HR305, HB⟩ := hrel
                                    cases gk with
                                    | zero => exact absurd HA.out (by simp [slipwaylaw11_SumCuts.l1])
                                    | succ k4 =>
                                      have H := HA.out
                                      clear HA
                                      simp only [slipwaylaw11_SumCuts.l1] at H
                                      by_cases c45 : x113_4 < (l0.length : Int)
                                      · rw [if_pos c45] at H
                                        have c45b0 : decide (x113_4 < (l0.length : Int)) = true := decide_eq_true c45
                                        clear c45
                                        by_cases c46 : 0 ≤ x113_4
                                        · rw [if_pos c46] at H
                                          have c46b0 : decide (0 ≤ x113_4) = true := decide_eq_true c46
                                          clear c46
                                          by_cases c47 : x113_4 < (l0.length : Int)
                                          · rw [if_pos c47] at H
                                            have c47b0 : decide (x113_4 < (l0.length : Int)) = true := decide_eq_true c47
                                            clear c47
                                            by_cases c48 : x113_4 < (t297.length : Int)
                                            · rw [if_pos c48] at H
                                              have c48b0 : decide (x113_4 < (t297.length : Int)) = true := decide_eq_true c48
                                              clear c48
                                              replace H := Option.bind_eq_some_iff.mp H
                                              obtain ⟨t313, A490, H⟩ := H
                                              replace H : (if t313 = true then (if x113_4 < ji20 then (if x113_4 < (t306.length : Int) then ((slipwayref11_Same.f k4 (rd_L1 t306 x113_4) (rd_L1 l0 x113_4)).bind fun t315 => (if t315 = true then (slipwaylaw11_SumCuts.l1 k4 t297 ji20 t306 l0 (l0.length : Int) (wrap64 (x113_4 + 1))) else (some false))) else (none)) else (slipwaylaw11_SumCuts.l1 k4 t297 ji20 t306 l0 (l0.length : Int) (wrap64 (x113_4 + 1)))) else (some false)) = some r := H
                                              have A49 := Aside0.mk A490
                                              clear A490
                                              by_cases c50 : t313 = true
                                              · subst c50
                                                have H1 : (if x113_4 < ji20 then (if x113_4 < (t306.length : Int) then ((slipwayref11_Same.f k4 (rd_L1 t306 x113_4) (rd_L1 l0 x113_4)).bind fun t315 => (if t315 = true then (slipwaylaw11_SumCuts.l1 k4 t297 ji20 t306 l0 (l0.length : Int) (wrap64 (x113_4 + 1))) else (some false))) else (none)) else (slipwaylaw11_SumCuts.l1 k4 t297 ji20 t306 l0 (l0.length : Int) (wrap64 (x113_4 + 1)))) = some r := by rw [if_pos rfl] at H; exact H
                                                clear H
                                                have H := H1
                                                clear H1
                                                by_cases c51 : x113_4 < ji20
                                                · rw [if_pos c51] at H
                                                  have c51b0 : decide (x113_4 < ji20) = true := decide_eq_true c51
                                                  clear c51
                                                  by_cases c52 : x113_4 < (t306.length : Int)
                                                  · rw [if_pos c52] at H
                                                    have c52b0 : decide (x113_4 < (t306.length : Int)) = true := decide_eq_true c52
                                                    clear c52
                                                    replace H := Option.bind_eq_some_iff.mp H
                                                    obtain ⟨t315, A530, H⟩ := H
                                                    replace H : (if t315 = true then (slipwaylaw11_SumCuts.l1 k4 t297 ji20 t306 l0 (l0.length : Int) (wrap64 (x113_4 + 1))) else (some false)) = some r := H
                                                    have A53 := Aside0.mk A530
                                                    clear A530
                                                    by_cases c54 : t315 = true
                                                    · subst c54
                                                      have H1 : (slipwaylaw11_SumCuts.l1 k4 t297 ji20 t306 l0 (l0.length : Int) (wrap64 (x113_4 + 1))) = some r := by rw [if_pos rfl] at H; exact H
                                                      clear H
                                                      have H := H1
                                                      clear H1
                                                      have H' := Aside0.mk H
                                                      clear H
                                                      have p311 : 0 ≤ (x113_4 : Int) := of_decide_eq_true (by first | (with_reducible assumption) | assumption)
                                                      have q311 : x113_4 < (l0.length : Int) := of_decide_eq_true (by first | (with_reducible assumption) | assumption)
                                                      obtain ⟨ad311, A311_0, c311_0, e311, hx311_0, hl311_0, hi311_0⟩ := at_L1 HR0.out x113_4 p311 q311
                                                      obtain rfl : ad301 = ad311 := (by injection e311)
                                                      replace hx311_0 := (HB.out.cell (World.block_lt_of_cell? w _ hx311_0)).trans hx311_0
                                                      have HR311_0 := Aside0.mk hi311_0
                                                      have HC311_0 := Aside0.mk hl311_0
                                                      clear hi311_0 hl311_0
                                                      replace p311 := eq_true p311
                                                      replace q311 := eq_true q311
                                                      obtain ⟨Ao55, co55, eo55⟩ := Kd.S_slice HO_10.out
                                                      subst eo55
                                                      have p312 : 0 ≤ (x113_4 : Int) := of_decide_eq_true (by first | (with_reducible assumption) | assumption)
                                                      have q312 : x113_4 < (t297.length : Int) := of_decide_eq_true (by first | (with_reducible assumption) | assumption)
                                                      obtain ⟨ad312, A312_0, c312_0, e312, hx312_0, hl312_0, hi312_0⟩ := at_L1 (Kd.S_reads' HO_10.out).2.2 x113_4 p312 q312
                                                      cases e312
                                                      obtain ⟨ce312, hce312, hMe312, hcc312⟩ := Kd.S_get HO_10.out [] x113_4 p312 (by first | exact q312 | exact of_decide_eq_true (by first | (with_reducible assumption) | assumption) | (have e_ := (Kd.S_reads' HO_10.out).1; omega))
                                                      obtain ⟨ve312_0, rfl, ge312_0⟩ := hMe312
                                                      have hv312_0 := hcc312 0 _ rfl
                                                      rw [Nat.add_zero, show ((Kd.slice 5 (Kd.int .u8))).sz = 1 from rfl, Nat.mul_one] at hv312_0
                                                      replace hv312_0 := Option.some.inj (hv312_0.symm.trans hx312_0)
                                                      rw [hv312_0] at ge312_0
                                                      have HL312_0 := Aside0.mk (show Kd.R (Kd.int .u8) 5 _ _ _ _ (rd_L1 t297 x113_4) from ge312_0)
                                                      clear hv312_0 ge312_0
                                                      clear hcc312 hce312
                                                      have HR312_0 := Aside0.mk hi312_0
                                                      have HC312_0 := Aside0.mk hl312_0
                                                      clear hi312_0 hl312_0
                                                      replace p312 := eq_true p312
                                                      replace q312 := eq_true q312
                                                      go_wp2_with (first | ((with_reducible refine gate_callee (f := 17) rfl ?_); refine goesL_ (some 123) rfl rfl Try.func17 (by kernel_rfl) rfl #[.slice A312_0 (rd_L1 t297 x113_4).length c312_0, .slice A311_0 (rd_L1 l0 x113_4).length c311_0] rfl (by (try simp only [List.map_toArray, List.map_cons, List.map_nil]); first | done | rfl | (simp only [List.length_drop, List.length_take]; rfl)) ?_; (with_reducible refine (slipwayref11_Same.calls k4 _ _ (rd_L1 t297 x113_4) _ _ (rd_L1 l0 x113_4) true _ ?side1 ?side2 ?side3 ?side4 A49.out).mono ?_); (case side1 => repeat (first | exact (by repeat (first | (with_reducible exact HR312_0.out) | (with_reducible refine Kd.C_alloc ?_ _) | (with_reducible refine Kd.C_drewN ?_ _) | (with_reducible refine Kd.C_drew ?_) | exact HR312_0.out)) | (with_reducible refine Kd.C_alloc ?_ _) | (with_reducible refine Kd.C_drewN ?_ _) | (with_reducible refine Kd.C_drew ?_))); (case side2 => exact HC312_0.out); (case side3 => repeat (first | exact (Kd.C_below HR311_0.out HB.out) | (with_reducible refine Kd.C_alloc ?_ _) | (with_reducible refine Kd.C_drewN ?_ _) | (with_reducible refine Kd.C_drew ?_))); (case side4 => exact HC311_0.out); rintro e w' ⟨rfl, ⟨nd, rfl⟩⟩; refine ⟨_, rfl, ?_⟩; obtain ⟨Ao56, co56, eo56⟩ := Kd.S_slice HO_14.out; subst eo56; have p314 : 0 ≤ (x113_4 : Int) := of_decide_eq_true (by first | (with_reducible assumption) | assumption); have q314 : x113_4 < (t306.length : Int) := of_decide_eq_true (by first | (with_reducible assumption) | assumption); obtain ⟨ad314, A314_0, c314_0, e314, hx314_0, hl314_0, hi314_0⟩ := at_L1 (Kd.S_reads' HO_14.out).2.2 x113_4 p314 q314; cases e314; obtain ⟨ce314, hce314, hMe314, hcc314⟩ := Kd.S_get HO_14.out [] x113_4 p314 (by first | exact q314 | exact of_decide_eq_true (by first | (with_reducible assumption) | assumption) | (have e_ := (Kd.S_reads' HO_14.out).1; omega)); obtain ⟨ve314_0, rfl, ge314_0⟩ := hMe314; have hv314_0 := hcc314 0 _ rfl; rw [Nat.add_zero, show ((Kd.slice 5 (Kd.int .u8))).sz = 1 from rfl, Nat.mul_one] at hv314_0; replace hv314_0 := Option.some.inj (hv314_0.symm.trans hx314_0); rw [hv314_0] at ge314_0; have HL314_0 := Aside0.mk (show Kd.R (Kd.int .u8) 5 _ _ _ _ (rd_L1 t306 x113_4) from ge314_0); clear hv314_0 ge314_0; clear hcc314 hce314; have HR314_0 := Aside0.mk hi314_0; have HC314_0 := Aside0.mk hl314_0; clear hi314_0 hl314_0; replace p314 := eq_true p314; replace q314 := eq_true q314) | (go_at_call 17; (with_reducible refine (slipwayref11_Same.calls k4 _ _ (rd_L1 t306 x113_4) _ _ (rd_L1 l0 x113_4) true _ ?side1 ?side2 ?side3 ?side4 A53.out).mono ?_); (case side1 => repeat (first | exact (by repeat (first | (with_reducible exact HR314_0.out) | (with_reducible refine Kd.C_alloc ?_ _) | (with_reducible refine Kd.C_drewN ?_ _) | (with_reducible refine Kd.C_drew ?_) | exact HR314_0.out)) | (with_reducible refine Kd.C_alloc ?_ _) | (with_reducible refine Kd.C_drewN ?_ _) | (with_reducible refine Kd.C_drew ?_))); (case side2 => exact HC314_0.out); (case side3 => repeat (first | exact (Kd.C_below HR311_0.out (by repeat (first | (with_reducible first | exact HB.out | apply below_alloc | apply pw_below_drewN | apply below_drew1) | exact HB.out))) | (with_reducible refine Kd.C_alloc ?_ _) | (with_reducible refine Kd.C_drewN ?_ _) | (with_reducible refine Kd.C_drew ?_))); (case side4 => exact HC311_0.out); rintro e w' ⟨rfl, ⟨nd, rfl⟩⟩))
                                                      go_roundg k4
                                                      case measure => have := HJ4.out; have := HK2.out; have := HJ30.out; have := HK4.out; omega
                                                      case rel => exact ⟨(wrap64 (x113_4 + 1)), (by first | rfl | (simp; done) | (simp [*]; done)), H', ⟨by have := HJ4.out; have := HK2.out; have := HJ30.out; have := HK4.out; omega⟩, ⟨by (with_reducible repeat (first | apply Kd.S_alloc | apply Kd.S_drewN | apply Kd.S_drew)); exact HO_10.out⟩, ⟨by (with_reducible repeat (first | apply Kd.S_alloc | apply Kd.S_drewN | apply Kd.S_drew)); exact HO_14.out⟩, ⟨by repeat (first | (with_reducible exact HR305.out) | (with_reducible refine Kd.C_alloc ?_ _) | (with_reducible refine Kd.C_drewN ?_ _) | (with_reducible refine Kd.C_drew ?_) | exact HR305.out)⟩, ⟨by repeat (first | (with_reducible first | exact HB.out | apply below_alloc | apply pw_below_drewN | apply below_drew1) | exact HB.out)⟩⟩
                                                    · replace c54 := Bool.eq_false_iff.mpr c54
                                                      subst c54
                                                      have H1 : (some false) = some r := by rw [if_neg (show ¬ (false = true) by decide)] at H; exact H
                                                      clear H
                                                      have H := H1
                                                      clear H1
                                                      obtain rfl := Option.some.inj H
                                                      have p311 : 0 ≤ (x113_4 : Int) := of_decide_eq_true (by first | (with_reducible assumption) | assumption)
                                                      have q311 : x113_4 < (l0.length : Int) := of_decide_eq_true (by first | (with_reducible assumption) | assumption)
                                                      obtain ⟨ad311, A311_0, c311_0, e311, hx311_0, hl311_0, hi311_0⟩ := at_L1 HR0.out x113_4 p311 q311
                                                      obtain rfl : ad301 = ad311 := (by injection e311)
                                                      replace hx311_0 := (HB.out.cell (World.block_lt_of_cell? w _ hx311_0)).trans hx311_0
                                                      have HR311_0 := Aside0.mk hi311_0
                                                      have HC311_0 := Aside0.mk hl311_0
                                                      clear hi311_0 hl311_0
                                                      replace p311 := eq_true p311
                                                      replace q311 := eq_true q311
                                                      obtain ⟨Ao57, co57, eo57⟩ := Kd.S_slice HO_10.out
                                                      subst eo57
                                                      have p312 : 0 ≤ (x113_4 : Int) := of_decide_eq_true (by first | (with_reducible assumption) | assumption)
                                                      have q312 : x113_4 < (t297.length : Int) := of_decide_eq_true (by first | (with_reducible assumption) | assumption)
                                                      obtain ⟨ad312, A312_0, c312_0, e312, hx312_0, hl312_0, hi312_0⟩ := at_L1 (Kd.S_reads' HO_10.out).2.2 x113_4 p312 q312
                                                      cases e312
                                                      obtain ⟨ce312, hce312, hMe312, hcc312⟩ := Kd.S_get HO_10.out [] x113_4 p312 (by first | exact q312 | exact of_decide_eq_true (by first | (with_reducible assumption) | assumption) | (have e_ := (Kd.S_reads' HO_10.out).1; omega))
                                                      obtain ⟨ve312_0, rfl, ge312_0⟩ := hMe312
                                                      have hv312_0 := hcc312 0 _ rfl
                                                      rw [Nat.add_zero, show ((Kd.slice 5 (Kd.int .u8))).sz = 1 from rfl, Nat.mul_one] at hv312_0
                                                      replace hv312_0 := Option.some.inj (hv312_0.symm.trans hx312_0)
                                                      rw [hv312_0] at ge312_0
                                                      have HL312_0 := Aside0.mk (show Kd.R (Kd.int .u8) 5 _ _ _ _ (rd_L1 t297 x113_4) from ge312_0)
                                                      clear hv312_0 ge312_0
                                                      clear hcc312 hce312
                                                      have HR312_0 := Aside0.mk hi312_0
                                                      have HC312_0 := Aside0.mk hl312_0
                                                      clear hi312_0 hl312_0
                                                      replace p312 := eq_true p312
                                                      replace q312 := eq_true q312
                                                      go_wp2_with (first | ((with_reducible refine gate_callee (f := 17) rfl ?_); refine goesL_ (some 123) rfl rfl Try.func17 (by kernel_rfl) rfl #[.slice A312_0 (rd_L1 t297 x113_4).length c312_0, .slice A311_0 (rd_L1 l0 x113_4).length c311_0] rfl (by (try simp only [List.map_toArray, List.map_cons, List.map_nil]); first | done | rfl | (simp only [List.length_drop, List.length_take]; rfl)) ?_; (with_reducible refine (slipwayref11_Same.calls k4 _ _ (rd_L1 t297 x113_4) _ _ (rd_L1 l0 x113_4) true _ ?side1 ?side2 ?side3 ?side4 A49.out).mono ?_); (case side1 => repeat (first | exact (by repeat (first | (with_reducible exact HR312_0.out) | (with_reducible refine Kd.C_alloc ?_ _) | (with_reducible refine Kd.C_drewN ?_ _) | (with_reducible refine Kd.C_drew ?_) | exact HR312_0.out)) | (with_reducible refine Kd.C_alloc ?_ _) | (with_reducible refine Kd.C_drewN ?_ _) | (with_reducible refine Kd.C_drew ?_))); (case side2 => exact HC312_0.out); (case side3 => repeat (first | exact (Kd.C_below HR311_0.out HB.out) | (with_reducible refine Kd.C_alloc ?_ _) | (with_reducible refine Kd.C_drewN ?_ _) | (with_reducible refine Kd.C_drew ?_))); (case side4 => exact HC311_0.out); rintro e w' ⟨rfl, ⟨nd, rfl⟩⟩; refine ⟨_, rfl, ?_⟩; obtain ⟨Ao58, co58, eo58⟩ := Kd.S_slice HO_14.out; subst eo58; have p314 : 0 ≤ (x113_4 : Int) := of_decide_eq_true (by first | (with_reducible assumption) | assumption); have q314 : x113_4 < (t306.length : Int) := of_decide_eq_true (by first | (with_reducible assumption) | assumption); obtain ⟨ad314, A314_0, c314_0, e314, hx314_0, hl314_0, hi314_0⟩ := at_L1 (Kd.S_reads' HO_14.out).2.2 x113_4 p314 q314; cases e314; obtain ⟨ce314, hce314, hMe314, hcc314⟩ := Kd.S_get HO_14.out [] x113_4 p314 (by first | exact q314 | exact of_decide_eq_true (by first | (with_reducible assumption) | assumption) | (have e_ := (Kd.S_reads' HO_14.out).1; omega)); obtain ⟨ve314_0, rfl, ge314_0⟩ := hMe314; have hv314_0 := hcc314 0 _ rfl; rw [Nat.add_zero, show ((Kd.slice 5 (Kd.int .u8))).sz = 1 from rfl, Nat.mul_one] at hv314_0; replace hv314_0 := Option.some.inj (hv314_0.symm.trans hx314_0); rw [hv314_0] at ge314_0; have HL314_0 := Aside0.mk (show Kd.R (Kd.int .u8) 5 _ _ _ _ (rd_L1 t306 x113_4) from ge314_0); clear hv314_0 ge314_0; clear hcc314 hce314; have HR314_0 := Aside0.mk hi314_0; have HC314_0 := Aside0.mk hl314_0; clear hi314_0 hl314_0; replace p314 := eq_true p314; replace q314 := eq_true q314) | (go_at_call 17; (with_reducible refine (slipwayref11_Same.calls k4 _ _ (rd_L1 t306 x113_4) _ _ (rd_L1 l0 x113_4) false _ ?side1 ?side2 ?side3 ?side4 A53.out).mono ?_); (case side1 => repeat (first | exact (by repeat (first | (with_reducible exact HR314_0.out) | (with_reducible refine Kd.C_alloc ?_ _) | (with_reducible refine Kd.C_drewN ?_ _) | (with_reducible refine Kd.C_drew ?_) | exact HR314_0.out)) | (with_reducible refine Kd.C_alloc ?_ _) | (with_reducible refine Kd.C_drewN ?_ _) | (with_reducible refine Kd.C_drew ?_))); (case side2 => exact HC314_0.out); (case side3 => repeat (first | exact (Kd.C_below HR311_0.out (by repeat (first | (with_reducible first | exact HB.out | apply below_alloc | apply pw_below_drewN | apply below_drew1) | exact HB.out))) | (with_reducible refine Kd.C_alloc ?_ _) | (with_reducible refine Kd.C_drewN ?_ _) | (with_reducible refine Kd.C_drew ?_))); (case side4 => exact HC311_0.out); rintro e w' ⟨rfl, ⟨nd, rfl⟩⟩))
                                                      go_ret
                                                      exact ⟨by first | rfl | (simp [errW_none, errW_some] <;> rfl) | (simp only [← hji20, ← hji27]; first | rfl | (simp [errW_none, errW_some] <;> rfl)) | (simp [*, errW_none, errW_some] <;> rfl), by repeat (first | (with_reducible first | exact HB.out | apply below_alloc | apply pw_below_drewN | apply below_drew1) | exact HB.out)⟩
                                                  · rw [if_neg c52] at H
                                                    exact absurd H (by simp)
                                                · rw [if_neg c51] at H
                                                  have c51b0 : decide (x113_4 < ji20) = false := decide_eq_false c51
                                                  clear c51
                                                  have H' := Aside0.mk H
                                                  clear H
                                                  have p311 : 0 ≤ (x113_4 : Int) := of_decide_eq_true (by first | (with_reducible assumption) | assumption)
                                                  have q311 : x113_4 < (l0.length : Int) := of_decide_eq_true (by first | (with_reducible assumption) | assumption)
                                                  obtain ⟨ad311, A311_0, c311_0, e311, hx311_0, hl311_0, hi311_0⟩ := at_L1 HR0.out x113_4 p311 q311
                                                  obtain rfl : ad301 = ad311 := (by injection e311)
                                                  replace hx311_0 := (HB.out.cell (World.block_lt_of_cell? w _ hx311_0)).trans hx311_0
                                                  have HR311_0 := Aside0.mk hi311_0
                                                  have HC311_0 := Aside0.mk hl311_0
                                                  clear hi311_0 hl311_0
                                                  replace p311 := eq_true p311
                                                  replace q311 := eq_true q311
                                                  obtain ⟨Ao59, co59, eo59⟩ := Kd.S_slice HO_10.out
                                                  subst eo59
                                                  have p312 : 0 ≤ (x113_4 : Int) := of_decide_eq_true (by first | (with_reducible assumption) | assumption)
                                                  have q312 : x113_4 < (t297.length : Int) := of_decide_eq_true (by first | (with_reducible assumption) | assumption)
                                                  obtain ⟨ad312, A312_0, c312_0, e312, hx312_0, hl312_0, hi312_0⟩ := at_L1 (Kd.S_reads' HO_10.out).2.2 x113_4 p312 q312
                                                  cases e312
                                                  obtain ⟨ce312, hce312, hMe312, hcc312⟩ := Kd.S_get HO_10.out [] x113_4 p312 (by first | exact q312 | exact of_decide_eq_true (by first | (with_reducible assumption) | assumption) | (have e_ := (Kd.S_reads' HO_10.out).1; omega))
                                                  obtain ⟨ve312_0, rfl, ge312_0⟩ := hMe312
                                                  have hv312_0 := hcc312 0 _ rfl
                                                  rw [Nat.add_zero, show ((Kd.slice 5 (Kd.int .u8))).sz = 1 from rfl, Nat.mul_one] at hv312_0
                                                  replace hv312_0 := Option.some.inj (hv312_0.symm.trans hx312_0)
                                                  rw [hv312_0] at ge312_0
                                                  have HL312_0 := Aside0.mk (show Kd.R (Kd.int .u8) 5 _ _ _ _ (rd_L1 t297 x113_4) from ge312_0)
                                                  clear hv312_0 ge312_0
                                                  clear hcc312 hce312
                                                  have HR312_0 := Aside0.mk hi312_0
                                                  have HC312_0 := Aside0.mk hl312_0
                                                  clear hi312_0 hl312_0
                                                  replace p312 := eq_true p312
                                                  replace q312 := eq_true q312
                                                  go_wp2_with (first | ((with_reducible refine gate_callee (f := 17) rfl ?_); refine goesL_ (some 123) rfl rfl Try.func17 (by kernel_rfl) rfl #[.slice A312_0 (rd_L1 t297 x113_4).length c312_0, .slice A311_0 (rd_L1 l0 x113_4).length c311_0] rfl (by (try simp only [List.map_toArray, List.map_cons, List.map_nil]); first | done | rfl | (simp only [List.length_drop, List.length_take]; rfl)) ?_; (with_reducible refine (slipwayref11_Same.calls k4 _ _ (rd_L1 t297 x113_4) _ _ (rd_L1 l0 x113_4) true _ ?side1 ?side2 ?side3 ?side4 A49.out).mono ?_); (case side1 => repeat (first | exact (by repeat (first | (with_reducible exact HR312_0.out) | (with_reducible refine Kd.C_alloc ?_ _) | (with_reducible refine Kd.C_drewN ?_ _) | (with_reducible refine Kd.C_drew ?_) | exact HR312_0.out)) | (with_reducible refine Kd.C_alloc ?_ _) | (with_reducible refine Kd.C_drewN ?_ _) | (with_reducible refine Kd.C_drew ?_))); (case side2 => exact HC312_0.out); (case side3 => repeat (first | exact (Kd.C_below HR311_0.out HB.out) | (with_reducible refine Kd.C_alloc ?_ _) | (with_reducible refine Kd.C_drewN ?_ _) | (with_reducible refine Kd.C_drew ?_))); (case side4 => exact HC311_0.out); rintro e w' ⟨rfl, ⟨nd, rfl⟩⟩; refine ⟨_, rfl, ?_⟩))
                                                  go_roundg k4
                                                  case measure => have := HJ4.out; have := HK2.out; have := HJ30.out; have := HK4.out; omega
                                                  case rel => exact ⟨(wrap64 (x113_4 + 1)), (by first | rfl | (simp; done) | (simp [*]; done)), H', ⟨by have := HJ4.out; have := HK2.out; have := HJ30.out; have := HK4.out; omega⟩, ⟨by (with_reducible repeat (first | apply Kd.S_alloc | apply Kd.S_drewN | apply Kd.S_drew)); exact HO_10.out⟩, ⟨by (with_reducible repeat (first | apply Kd.S_alloc | apply Kd.S_drewN | apply Kd.S_drew)); exact HO_14.out⟩, ⟨by repeat (first | (with_reducible exact HR305.out) | (with_reducible refine Kd.C_alloc ?_ _) | (with_reducible refine Kd.C_drewN ?_ _) | (with_reducible refine Kd.C_drew ?_) | exact HR305.out)⟩, ⟨by repeat (first | (with_reducible first | exact HB.out | apply below_alloc | apply pw_below_drewN | apply below_drew1) | exact HB.out)⟩⟩
                                              · replace c50 := Bool.eq_false_iff.mpr c50
                                                subst c50
                                                have H1 : (some false) = some r := by rw [if_neg (show ¬ (false = true) by decide)] at H; exact H
                                                clear H
                                                have H := H1
                                                clear H1
                                                obtain rfl := Option.some.inj H
                                                have p311 : 0 ≤ (x113_4 : Int) := of_decide_eq_true (by first | (with_reducible assumption) | assumption)
                                                have q311 : x113_4 < (l0.length : Int) := of_decide_eq_true (by first | (with_reducible assumption) | assumption)
                                                obtain ⟨ad311, A311_0, c311_0, e311, hx311_0, hl311_0, hi311_0⟩ := at_L1 HR0.out x113_4 p311 q311
                                                obtain rfl : ad301 = ad311 := (by injection e311)
                                                replace hx311_0 := (HB.out.cell (World.block_lt_of_cell? w _ hx311_0)).trans hx311_0
                                                have HR311_0 := Aside0.mk hi311_0
                                                have HC311_0 := Aside0.mk hl311_0
                                                clear hi311_0 hl311_0
                                                replace p311 := eq_true p311
                                                replace q311 := eq_true q311
                                                obtain ⟨Ao60, co60, eo60⟩ := Kd.S_slice HO_10.out
                                                subst eo60
                                                have p312 : 0 ≤ (x113_4 : Int) := of_decide_eq_true (by first | (with_reducible assumption) | assumption)
                                                have q312 : x113_4 < (t297.length : Int) := of_decide_eq_true (by first | (with_reducible assumption) | assumption)
                                                obtain ⟨ad312, A312_0, c312_0, e312, hx312_0, hl312_0, hi312_0⟩ := at_L1 (Kd.S_reads' HO_10.out).2.2 x113_4 p312 q312
                                                cases e312
                                                obtain ⟨ce312, hce312, hMe312, hcc312⟩ := Kd.S_get HO_10.out [] x113_4 p312 (by first | exact q312 | exact of_decide_eq_true (by first | (with_reducible assumption) | assumption) | (have e_ := (Kd.S_reads' HO_10.out).1; omega))
                                                obtain ⟨ve312_0, rfl, ge312_0⟩ := hMe312
                                                have hv312_0 := hcc312 0 _ rfl
                                                rw [Nat.add_zero, show ((Kd.slice 5 (Kd.int .u8))).sz = 1 from rfl, Nat.mul_one] at hv312_0
                                                replace hv312_0 := Option.some.inj (hv312_0.symm.trans hx312_0)
                                                rw [hv312_0] at ge312_0
                                                have HL312_0 := Aside0.mk (show Kd.R (Kd.int .u8) 5 _ _ _ _ (rd_L1 t297 x113_4) from ge312_0)
                                                clear hv312_0 ge312_0
                                                clear hcc312 hce312
                                                have HR312_0 := Aside0.mk hi312_0
                                                have HC312_0 := Aside0.mk hl312_0
                                                clear hi312_0 hl312_0
                                                replace p312 := eq_true p312
                                                replace q312 := eq_true q312
                                                go_wp2_with (first | ((with_reducible refine gate_callee (f := 17) rfl ?_); refine goesL_ (some 123) rfl rfl Try.func17 (by kernel_rfl) rfl #[.slice A312_0 (rd_L1 t297 x113_4).length c312_0, .slice A311_0 (rd_L1 l0 x113_4).length c311_0] rfl (by (try simp only [List.map_toArray, List.map_cons, List.map_nil]); first | done | rfl | (simp only [List.length_drop, List.length_take]; rfl)) ?_; (with_reducible refine (slipwayref11_Same.calls k4 _ _ (rd_L1 t297 x113_4) _ _ (rd_L1 l0 x113_4) false _ ?side1 ?side2 ?side3 ?side4 A49.out).mono ?_); (case side1 => repeat (first | exact (by repeat (first | (with_reducible exact HR312_0.out) | (with_reducible refine Kd.C_alloc ?_ _) | (with_reducible refine Kd.C_drewN ?_ _) | (with_reducible refine Kd.C_drew ?_) | exact HR312_0.out)) | (with_reducible refine Kd.C_alloc ?_ _) | (with_reducible refine Kd.C_drewN ?_ _) | (with_reducible refine Kd.C_drew ?_))); (case side2 => exact HC312_0.out); (case side3 => repeat (first | exact (Kd.C_below HR311_0.out HB.out) | (with_reducible refine Kd.C_alloc ?_ _) | (with_reducible refine Kd.C_drewN ?_ _) | (with_reducible refine Kd.C_drew ?_))); (case side4 => exact HC311_0.out); rintro e w' ⟨rfl, ⟨nd, rfl⟩⟩; refine ⟨_, rfl, ?_⟩))
                                                go_ret
                                                exact ⟨by first | rfl | (simp [errW_none, errW_some] <;> rfl) | (simp only [← hji20, ← hji27]; first | rfl | (simp [errW_none, errW_some] <;> rfl)) | (simp [*, errW_none, errW_some] <;> rfl), by repeat (first | (with_reducible first | exact HB.out | apply below_alloc | apply pw_below_drewN | apply below_drew1) | exact HB.out)⟩
                                            · rw [if_neg c48] at H
                                              exact absurd H (by simp)
                                          · rw [if_neg c47] at H
                                            exact absurd H (by simp)
                                        · rw [if_neg c46] at H
                                          exact absurd H (by simp)
                                      · rw [if_neg c45] at H
                                        have c45b0 : decide (x113_4 < (l0.length : Int)) = false := decide_eq_false c45
                                        clear c45
                                        obtain rfl := Option.some.inj H
                                        go_wp2
                                        go_ret
                                        exact ⟨by first | rfl | (simp [errW_none, errW_some] <;> rfl) | (simp only [← hji20, ← hji27]; first | rfl | (simp [errW_none, errW_some] <;> rfl)) | (simp [*, errW_none, errW_some] <;> rfl), by repeat (first | (with_reducible first | exact HB.out | apply below_alloc | apply pw_below_drewN | apply below_drew1) | exact HB.out)⟩
                          · rw [if_neg c29] at H
                            exact absurd H (by simp)
                        · rw [if_neg c28] at H
                          exact absurd H (by simp)
                  · rw [if_neg c22] at H
                    exact absurd H (by simp)
                · rw [if_neg c21] at H
                  exact absurd H (by simp)
  · replace c4 := Bool.eq_false_iff.mpr c4
    subst c4
    have H1 : (some false) = some r := by rw [if_neg (show ¬ (false = true) by decide)] at H; exact H
    clear H
    have H := H1
    clear H1
    obtain rfl := Option.some.inj H
    go_enter Try.func8, Try.ntmps8
    go_wp2_with (first | ((with_reducible refine gate_callee (f := 9) rfl ?_); refine goesL_ (some 18) rfl rfl Try.func9 (by kernel_rfl) rfl #[] rfl (by (try simp only [List.map_toArray, List.map_cons, List.map_nil]); first | done | rfl | (simp only [List.length_drop, List.length_take]; rfl)) ?_; (with_reducible refine (slipwaylaw11_anchor.calls k  false _ A3.out).mono ?_); rintro e w61 ⟨rfl, hb⟩; refine ⟨_, rfl, ?_⟩; have n0_ := Aside0.mk (below_step (by repeat (first | (with_reducible first | exact HB.out | apply below_alloc | apply pw_below_drewN | apply below_drew1) | exact HB.out)) hb); clear HB; have HB := n0_; clear n0_; (try clear hb); (try clear hb2); (try clear hk); (try clear hi)))
    go_ret
    exact ⟨by first | rfl | (simp [errW_none, errW_some] <;> rfl) | (simp [*, errW_none, errW_some] <;> rfl), by repeat (first | (with_reducible first | exact HB.out | apply below_alloc | apply pw_below_drewN | apply below_drew1) | exact HB.out)⟩

end Go.Proofs.Ytobogmcihnikeaa.P
