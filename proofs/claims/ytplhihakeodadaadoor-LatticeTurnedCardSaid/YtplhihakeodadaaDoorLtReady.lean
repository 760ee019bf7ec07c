/- lattice: digraph's inside and Ready. -/
import Derived.Test.YtplhihakeodadaaDoorLtBits
import Derived.Test.YtplhihakeodadaaDoorLtLay
import Derived.BigQuiet
namespace Go.Proofs.YtplhihakeodadaaDoor.Sg
open Go Go.RowKit Go.Proofs.YtplhihakeodadaaDoorW.PrintWords Go.Proofs.YtplhihakeodadaaDoorW.PrintLast Go.Proofs.YtplhihakeodadaaDoorW.PrintMore
set_option linter.unusedVariables false
set_option linter.unusedSimpArgs false
theorem Len64_T (x : Nat) (hx : x < 2 ^ 64) (w : World) : Calls Tryd.prog 95 #[.int .u64 (x : Int)] w fun e w' => e = .returned (.int .i64 ((Lib.bitLen x : Nat) : Int)) ∧ w' = w := by
  have h := Any.bits_Len64 Tryd.len64L (x : Int) w (Int.natCast_nonneg x) (by omega)
  rw [Int.toNat_natCast] at h
  exact h
def insideE (N : Int) (E : List Stp) (s : Nat) : Int := if rightG N E then (if N < ((Lib.bitLen s : Nat) : Int) then 20 else 0) else 20
set_option maxHeartbeats 4000000 in
set_option maxRecDepth 20000 in
theorem Inside_T (N : Int) (E : List Stp) (A : Option Addr) (c s : Nat) (w : World) (hs : s < 2 ^ 64) (h : Kd.C kP w A E.length E) (hl : E.length ≤ 1000000000000) (hN : -9223372036854775808 ≤ N ∧ N < 9223372036854775808) :
    Calls Tryd.prog 78 #[.agg #[.int .i64 N, .slice A E.length c], .int .u64 (s : Int)] w fun e w' => e = .returned (.int .i64 (insideE N E s)) ∧ Below w.heap.size w w' := by
  have hb0 := below_alloc (Below.refl w.heap.size w) (.cells #[.int .i64 N, .slice A E.length c] 62)
  have HX := Aside0.mk (heap_last w (.cells #[.int .i64 N, .slice A E.length c] 62))
  have K := Aside0.mk (Check_T N E A c (w.alloc (.cells #[.int .i64 N, .slice A E.length c] 62)) (Kd.C_below h hb0) hl hN)
  have HB := Aside0.mk hb0
  have HS := Aside0.mk hs
  have h0 := (blk_cell HX.out) 0
  have h1 := (blk_cell HX.out) 1
  clear hb0 h hs hN hl
  go_enter Tryd.func78, Tryd.ntmps78
  go_wp2_with (fail)
  refine K.out.mono ?_
  rintro e w1 ⟨rfl, hb⟩
  have HB1 := Aside0.mk (below_step HB.out hb)
  have HX1 := Aside0.mk (blk_below HX.out hb)
  have HBD := Aside0.mk (below_drew1 HB1.out)
  have g0 := (blk_cell (blk_drew HX1.out)) 0
  have g0' := (blk_cell HX1.out) 0
  clear K hb h0 h1
  cases hr : rightG N E with
  | false =>
    have e1 : checkG N E = 20 := by unfold checkG; rw [hr]; rfl
    have HI : Aside0 (insideE N E s = 20) := ⟨by unfold insideE; rw [hr]; rfl⟩
    rw [e1]
    clear hr e1
    go_upto_region 2 with (fail)
    go_quiet (fail)
    go_wp2
    go_ret
    exact ⟨by rw [HI.out]; rfl, pw_below_drewN HB1.out _⟩
  | true =>
    have e1 : checkG N E = 0 := by unfold checkG; rw [hr]; rfl
    have HI : Aside0 (insideE N E s = if N < ((Lib.bitLen s : Nat) : Int) then 20 else 0) := ⟨by unfold insideE; rw [hr]; rfl⟩
    have K := fun W => Len64_T s HS.out W
    rw [e1]
    clear hr e1
    go_upto_region 2 with (fail)
    by_cases c1 : N < ((Lib.bitLen s : Nat) : Int)
    · have e1 : decide (N < ((Lib.bitLen s : Nat) : Int)) = true := decide_eq_true c1
      have hi := HI.out
      rw [if_pos c1] at hi
      have HI2 := Aside0.mk hi
      clear hi c1
      go_quiet ((go_at_call 95; refine Calls.quiet_of_same (K _)))
      go_wp2
      go_ret
      exact ⟨by rw [HI2.out]; rfl, pw_below_drewN HB1.out _⟩
    · have e1 : decide (N < ((Lib.bitLen s : Nat) : Int)) = false := decide_eq_false c1
      have hi := HI.out
      rw [if_neg c1] at hi
      have HI2 := Aside0.mk hi
      clear hi c1
      go_quiet ((go_at_call 95; refine Calls.quiet_of_same (K _)))
      go_wp2
      go_ret
      exact ⟨by rw [HI2.out]; rfl, pw_below_drewN HB1.out _⟩
set_option maxHeartbeats 4000000 in
set_option maxRecDepth 20000 in
theorem Ready_T (N : Nat) (E : List Stp) (A : Option Addr) (c s : Nat) (w : World) (hs : s < 2 ^ 64) (h : Kd.C kP w A E.length E) (hR : rightG N E = true) (hi : insideE N E s = 0) :
    Calls Tryd.prog 58 #[.agg #[.int .i64 (N : Int), .slice A E.length c], .int .u64 (s : Int)] w fun e w' => e = .returned (.tuple #[.int .u64 ((accR E s N : Nat) : Int), .int .i64 0]) ∧ Below w.heap.size w w' := by
  obtain ⟨_, hNN, hEl, _⟩ := rightG_in hR
  have hb0 := below_alloc (Below.refl w.heap.size w) (.cells #[.int .i64 (N : Int), .slice A E.length c] 62)
  have HX := Aside0.mk (heap_last w (.cells #[.int .i64 (N : Int), .slice A E.length c] 62))
  have K := Aside0.mk (Inside_T (N : Int) E A c s (w.alloc (.cells #[.int .i64 (N : Int), .slice A E.length c] 62)) hs (Kd.C_below h hb0) (by omega) (by omega))
  have K2 := Aside0.mk (fun W (hb : Below (w.alloc (.cells #[.int .i64 (N : Int), .slice A E.length c] 62)).heap.size (w.alloc (.cells #[.int .i64 (N : Int), .slice A E.length c] 62)) W) => ready_T N E A c s W hs (Kd.C_below (Kd.C_below h hb0) hb) hR)
  have HB := Aside0.mk hb0
  rw [hi] at K
  have h0 := (blk_cell HX.out) 0
  have h1 := (blk_cell HX.out) 1
  clear hb0 h hs hi hR hNN hEl
  go_enter Tryd.func58, Tryd.ntmps58
  go_wp2_with (fail)
  refine K.out.mono ?_
  rintro e w1 ⟨rfl, hb⟩
  have HB1 := Aside0.mk (below_step HB.out hb)
  have HX1 := Aside0.mk (blk_below HX.out hb)
  have K3 := Aside0.mk (K2.out w1 hb)
  have g0 := (blk_cell HX1.out) 0
  have g1 := (blk_cell HX1.out) 1
  clear K K2 hb h0 h1
  go_wp2_with (fail)
  refine K3.out.mono ?_
  rintro e w2 ⟨rfl, hb⟩
  have HB2 := Aside0.mk (below_step HB1.out hb)
  clear K3 hb
  go_wp2
  refine bodyPost_ret (v := .tuple #[.int .u64 ((accR E s N : Nat) : Int), .int .i64 0]) (by simp [results, Tryd.results58, go_sem]) rfl ?_
  exact ⟨rfl, HB2.out⟩
end Go.Proofs.YtplhihakeodadaaDoor.Sg
