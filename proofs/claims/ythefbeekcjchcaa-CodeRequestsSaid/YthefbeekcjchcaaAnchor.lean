import Derived.Test.YthefbeekcjchcaaGetAll
import Derived.Test.YthefbeekcjchcaaPx2
import Derived.Test.YthefbeekcjchcaaPx3
import Derived.Test.YthefbeekcjchcaaEvC
namespace Go.Proofs.Ythefbeekcjchcaa.P
open Go Go.RowKit Go.Proofs.YthefbeekcjchcaaW.PrintWords Go.Proofs.YthefbeekcjchcaaW.PrintLast Go.Proofs.YthefbeekcjchcaaW.PrintMore Go.Proofs.Ythefbeekcjchcaa.Pure
set_option linter.unusedVariables false
set_option linter.unusedSimpArgs false
theorem same_loop (l : List Int) (hl : l.length ≤ 1000000000) (d : Nat) : ∀ i : Nat, i + d = l.length → Ev (fun k => slipwayref11_Same.l0 k l l (i : Int)) true := by
  induction d with
  | zero =>
    intro i h
    refine Ev_succ ?_
    simp only [slipwayref11_Same.l0]
    exact Ev_neg (by omega) (Ev.now _)
  | succ d ih =>
    intro i h
    refine Ev_succ ?_
    simp only [slipwayref11_Same.l0]
    refine Ev_pos (by omega) (Ev_pos (by omega) (Ev_pos (by omega) (Ev_pos trivial ?_)))
    rw [show wrap64 ((i : Int) + 1) = ((i + 1 : Nat) : Int) by rw [w64 (by omega) (by omega)]; omega]
    exact ih (i + 1) (by omega)
theorem same_self (l : List Int) (hl : l.length ≤ 1000000000) : ∃ k, slipwayref11_Same.f k l l = some true := by
  refine Ev.rounds (g := fun k => slipwayref11_Same.f k l l) ?_
  unfold slipwayref11_Same.f
  exact Ev_pos rfl (same_loop l hl l.length 0 (by omega))
theorem ints_loop (l : List Int) (hl : l.length ≤ 1000000000) (d : Nat) : ∀ i : Nat, i + d = l.length → Ev (fun k => slipwaymade_Ints.l0 k l l (l.length : Int) (i : Int)) true := by
  induction d with
  | zero =>
    intro i h
    refine Ev_succ ?_
    simp only [slipwaymade_Ints.l0]
    exact Ev_neg (by omega) (Ev.now _)
  | succ d ih =>
    intro i h
    refine Ev_succ ?_
    simp only [slipwaymade_Ints.l0]
    refine Ev_pos (by omega) (Ev_pos (by omega) (Ev_pos (by omega) (Ev_pos (by omega) (Ev_pos trivial ?_))))
    rw [show wrap64 ((i : Int) + 1) = ((i + 1 : Nat) : Int) by rw [w64 (by omega) (by omega)]; omega]
    exact ih (i + 1) (by omega)
theorem ints_self (l : List Int) (hl : l.length ≤ 1000000000) : ∃ k, slipwaymade_Ints.f k l l = some true := by
  refine Ev.rounds (g := fun k => slipwaymade_Ints.f k l l) ?_
  unfold slipwaymade_Ints.f
  exact Ev_pos rfl (ints_loop l hl l.length 0 (by omega))
theorem lit_C (W : World) (k : IntKind) (e : TypeId) (xs : List Int) (h : xs.length ≤ 9223372036854775807) : Kd.C (Kd.int k) (W.alloc (.cells (xs.map (Value.int k)).toArray e)) (some ⟨W.heap.size, 0, none⟩) xs.length xs := by
  have h2 := World.ownsRow_lit (base := 0) (e := e) (size := 1) W (xs.map (Value.int k)).toArray xs.length (Nat.zero_le _) (by simpa [maxLen] using h) (by simp)
  have hR : Kd.R (Kd.int k) e (W.alloc (.cells (xs.map (Value.int k)).toArray e)) 0 (fun _ => True) (.slice (some ⟨W.heap.size, 0, none⟩) xs.length xs.length) xs := Kd.R_of_own (h1 := fun _ => rfl) (by simpa [encs] using h2) (fun _ _ => trivial)
  exact (Kd.R_reads' hR).2.2
theorem anchor_coded : coded [1, 128] = [2, 1, 128, 1] ∧ codedE [1, 128] = 0 := by
  have h1 : enc 128 = [128, 1] := by rw [enc_big (by omega), show 128 / 128 = 1 by decide, enc_small (by omega)]; rfl
  have h : puts [1, 128] ([], false) = ([2, 1, 128, 1], false) := by
    unfold puts putf putn
    simp [fits, h1, enc_small (show 2 < 128 by omega), enc_small (show 1 < 128 by omega)]
  unfold coded codedE
  rw [h]
  exact ⟨rfl, rfl⟩
theorem anchor_read : readE [1, 128, 0] = 12 := by decide
set_option maxHeartbeats 4000000 in
set_option maxRecDepth 20000 in
theorem anchor_calls (w : World) : Calls Try.prog 11 #[] w fun e w' => e = .returned (.bool true) ∧ Below w.heap.size w w' := by
  have K := Aside0.mk (PutNumbers_calls (some ⟨w.heap.size, 0, none⟩) 2 [1, 128] _ (lit_C w .i64 3 [1, 128] (by simp)) (by simp))
  rw [anchor_coded.1, anchor_coded.2] at K
  have HB0 := Aside0.mk (below_alloc (Below.refl w.heap.size w) (Obj.cells #[.int .i64 1, .int .i64 128] 3))
  go_enter Try.func11, Try.ntmps11
  go_wp2_with (fail)
  refine K.out.mono ?_
  rintro e w1 ⟨v, rfl, hr, hb⟩
  obtain ⟨A1, c1, rfl, hc, hC⟩ := Kd.R_reads hr
  have HC := Aside0.mk hC
  have HCC := Aside0.mk hc
  have HB := Aside0.mk (below_step HB0.out hb)
  clear hr hb hC hc K HB0
  have K2 := Aside0.mk (GetNumbers_calls (some ⟨w1.heap.size, 0, none⟩) 3 [1, 128, 0] _ (lit_C w1 .u8 5 [1, 128, 0] (by simp)) (by simp) (by unfold Bytes; decide) (by simp))
  rw [anchor_read] at K2
  have HB1 := Aside0.mk (below_alloc HB.out (Obj.cells #[.int .u8 1, .int .u8 128, .int .u8 0] 5))
  have HB1' := Aside0.mk (below_alloc (Below.refl w1.heap.size w1) (Obj.cells #[.int .u8 1, .int .u8 128, .int .u8 0] 5))
  go_wp2_with (fail)
  refine K2.out.mono ?_
  rintro e w2 ⟨v, rfl, hr, hb⟩
  have HB2 := Aside0.mk (below_step HB1.out hb)
  have HC2 := Aside0.mk (Kd.C_below HC.out (below_step HB1'.out hb))
  clear hr hb K2 HB1 HB1'
  obtain ⟨ks, hs⟩ := same_self [2, 1, 128, 1] (by simp)
  have K3 := Aside0.mk (slipwayref11_Same.calls ks A1 c1 [2, 1, 128, 1] (some ⟨w2.heap.size, 0, none⟩) 4 [2, 1, 128, 1] true _ (Kd.C_alloc HC2.out _) HCC.out (lit_C w2 .u8 5 [2, 1, 128, 1] (by simp)) (by simp) hs)
  have HB3 := Aside0.mk (below_alloc HB2.out (Obj.cells #[.int .u8 2, .int .u8 1, .int .u8 128, .int .u8 1] 5))
  clear hs
  go_wp2_with (fail)
  refine K3.out.mono ?_
  rintro e w3 ⟨rfl, ⟨⟨n3, rfl⟩⟩⟩
  go_wp2
  go_ret
  exact ⟨rfl, pw_below_drewN HB3.out n3⟩
end Go.Proofs.Ythefbeekcjchcaa.P
