/- lattice: Down, Up. -/
import Derived.Test.YtplhihakeodadaaDoorLtSpr
namespace Go.Proofs.YtplhihakeodadaaDoor.Sg
open Go Go.RowKit Go.Proofs.YtplhihakeodadaaDoorW.PrintWords Go.Proofs.YtplhihakeodadaaDoorW.PrintLast Go.Proofs.YtplhihakeodadaaDoorW.PrintMore
set_option linter.unusedVariables false
set_option linter.unusedSimpArgs false
theorem inside_right {N : Int} {E : List Stp} {s : Nat} (h : insideE N E s = 0) : rightG N E = true := by
  cases hr : rightG N E with
  | true => rfl
  | false => unfold insideE at h; rw [hr] at h; cases h
set_option maxHeartbeats 4000000 in
set_option maxRecDepth 20000 in
theorem Down_T (N : Int) (E : List Stp) (A : Option Addr) (c s : Nat) (w : World) (hs : s < 2 ^ 64) (h : Kd.C kP w A E.length E) (hE : E.length ≤ 1000000000) (hl : N ≤ 9223372036854775807) (hl0 : -9223372036854775808 ≤ N) :
    Calls Tryd.prog 37 #[.agg #[.int .i64 N, .slice A E.length c], .int .u64 (s : Int)] w fun e w' => ∃ d : Nat, e = .returned (.tuple #[.int .u64 (d : Int), .int .i64 (insideE N E s)]) ∧ (insideE N E s = 0 → Least Prod.snd Prod.fst E s d) ∧ (insideE N E s ≠ 0 → d = 0) ∧ Below w.heap.size w w' := by
  have hb0 := below_alloc (Below.refl w.heap.size w) (.cells #[.int .i64 N, .slice A E.length c] 62)
  have HX := Aside0.mk (heap_last w (.cells #[.int .i64 N, .slice A E.length c] 62))
  have K := Aside0.mk (right_T N E A c s (w.alloc (.cells #[.int .i64 N, .slice A E.length c] 62)) hs (Kd.C_below h hb0) hE hl hl0)
  have HB := Aside0.mk hb0
  have HC := Aside0.mk h
  have HS := Aside0.mk hs
  have h0 := (blk_cell HX.out) 0
  have h1 := (blk_cell HX.out) 1
  clear hb0 h hs hE hl hl0
  go_enter Tryd.func37, Tryd.ntmps37
  go_wp2_with (fail)
  refine K.out.mono ?_
  rintro e w1 ⟨rfl, hb⟩
  have HB1 := Aside0.mk (below_step HB.out hb)
  have HX1 := Aside0.mk (blk_below HX.out hb)
  clear K hb h0 h1
  by_cases ci : insideE N E s = 0
  · have HZ := Aside0.mk ci
    have hR := inside_right ci
    have h0n := (rightG_in hR).2.1.1
    obtain ⟨n, rfl⟩ := Int.eq_ofNat_of_zero_le h0n
    have K := Aside0.mk (spread10_T n E A c s w1 HS.out (Kd.C_below HC.out HB1.out) hR)
    have g0 := (blk_cell HX1.out) 0
    have g1 := (blk_cell HX1.out) 1
    rw [ci]
    clear hR h0n ci
    go_wp2_with (fail)
    refine K.out.mono ?_
    rintro e w2 ⟨d, rfl, hd, hb⟩
    have HD := Aside0.mk hd
    have HB2 := Aside0.mk (below_step HB1.out hb)
    clear g0 g1 hd hb K
    go_wp2
    refine bodyPost_ret (v := .tuple #[.int .u64 (d : Int), .int .i64 0]) (by simp [results, Tryd.results37, go_sem]) rfl ?_
    exact ⟨d, by rw [HZ.out], fun _ => HD.out, fun h => absurd HZ.out h, HB2.out⟩
  · have ci' : ((insideE N E s) != 0) = true := by simpa using ci
    have HZ := Aside0.mk ci
    clear ci
    go_wp2
    refine bodyPost_ret (v := .tuple #[.int .u64 0, .int .i64 (insideE N E s)]) (by simp [results, Tryd.results37, go_sem]) rfl ?_
    exact ⟨0, rfl, fun h => absurd h HZ.out, fun _ => rfl, HB1.out⟩
set_option maxHeartbeats 4000000 in
set_option maxRecDepth 20000 in
theorem Up_T (N : Int) (E : List Stp) (A : Option Addr) (c s : Nat) (w : World) (hs : s < 2 ^ 64) (h : Kd.C kP w A E.length E) (hE : E.length ≤ 1000000000) (hl : N ≤ 9223372036854775807) (hl0 : -9223372036854775808 ≤ N) :
    Calls Tryd.prog 38 #[.agg #[.int .i64 N, .slice A E.length c], .int .u64 (s : Int)] w fun e w' => ∃ d : Nat, e = .returned (.tuple #[.int .u64 (d : Int), .int .i64 (insideE N E s)]) ∧ (insideE N E s = 0 → Least Prod.fst Prod.snd E s d) ∧ (insideE N E s ≠ 0 → d = 0) ∧ Below w.heap.size w w' := by
  have hb0 := below_alloc (Below.refl w.heap.size w) (.cells #[.int .i64 N, .slice A E.length c] 62)
  have HX := Aside0.mk (heap_last w (.cells #[.int .i64 N, .slice A E.length c] 62))
  have K := Aside0.mk (right_T N E A c s (w.alloc (.cells #[.int .i64 N, .slice A E.length c] 62)) hs (Kd.C_below h hb0) hE hl hl0)
  have HB := Aside0.mk hb0
  have HC := Aside0.mk h
  have HS := Aside0.mk hs
  have h0 := (blk_cell HX.out) 0
  have h1 := (blk_cell HX.out) 1
  clear hb0 h hs hE hl hl0
  go_enter Tryd.func38, Tryd.ntmps38
  go_wp2_with (fail)
  refine K.out.mono ?_
  rintro e w1 ⟨rfl, hb⟩
  have HB1 := Aside0.mk (below_step HB.out hb)
  have HX1 := Aside0.mk (blk_below HX.out hb)
  clear K hb h0 h1
  by_cases ci : insideE N E s = 0
  · have HZ := Aside0.mk ci
    have hR := inside_right ci
    have h0n := (rightG_in hR).2.1.1
    obtain ⟨n, rfl⟩ := Int.eq_ofNat_of_zero_le h0n
    have K := Aside0.mk (spread01_T n E A c s w1 HS.out (Kd.C_below HC.out HB1.out) hR)
    have g0 := (blk_cell HX1.out) 0
    have g1 := (blk_cell HX1.out) 1
    rw [ci]
    clear hR h0n ci
    go_wp2_with (fail)
    refine K.out.mono ?_
    rintro e w2 ⟨d, rfl, hd, hb⟩
    have HD := Aside0.mk hd
    have HB2 := Aside0.mk (below_step HB1.out hb)
    clear g0 g1 hd hb K
    go_wp2
    refine bodyPost_ret (v := .tuple #[.int .u64 (d : Int), .int .i64 0]) (by simp [results, Tryd.results38, go_sem]) rfl ?_
    exact ⟨d, by rw [HZ.out], fun _ => HD.out, fun h => absurd HZ.out h, HB2.out⟩
  · have ci' : ((insideE N E s) != 0) = true := by simpa using ci
    have HZ := Aside0.mk ci
    clear ci
    go_wp2
    refine bodyPost_ret (v := .tuple #[.int .u64 0, .int .i64 (insideE N E s)]) (by simp [results, Tryd.results38, go_sem]) rfl ?_
    exact ⟨0, rfl, fun h => absurd h HZ.out, fun _ => rfl, HB1.out⟩
end Go.Proofs.YtplhihakeodadaaDoor.Sg
