/- lattice: Border. -/
import Derived.Test.YtplhihakeodadaaDoorLtDow
namespace Go.Proofs.YtplhihakeodadaaDoor.Sg
open Go Go.RowKit Go.Proofs.YtplhihakeodadaaDoorW.PrintWords Go.Proofs.YtplhihakeodadaaDoorW.PrintLast Go.Proofs.YtplhihakeodadaaDoorW.PrintMore
set_option linter.unusedVariables false
set_option linter.unusedSimpArgs false
theorem andPow (a x : Nat) : bits .andNot .u64 (a : Int) ((2 : Int) ^ x) = ((andN a (2 ^ x) : Nat) : Int) := by
  rw [← andNU]
  simp
/-- One of a set with one of the set behind it. -/
def behindE (E : List Stp) (s i : Nat) : Bool := E.any fun e => decide (e.1.toNat = i) && s.testBit e.2.toNat
set_option maxHeartbeats 8000000 in
set_option maxRecDepth 20000 in
theorem Border_T (N : Int) (E : List Stp) (A : Option Addr) (c s : Nat) (w : World) (hs : s < 2 ^ 64) (h : Kd.C kP w A E.length E) (hE : E.length ≤ 1000000000) (hl : N ≤ 9223372036854775807) (hl0 : -9223372036854775808 ≤ N) :
    Calls Tryd.prog 39 #[.agg #[.int .i64 N, .slice A E.length c], .int .u64 (s : Int)] w fun e w' => ∃ d : Nat, e = .returned (.tuple #[.int .u64 (d : Int), .int .i64 (insideE N E s)]) ∧ (insideE N E s = 0 → d < 2 ^ 64 ∧ ∀ i, d.testBit i = (s.testBit i && !behindE E s i)) ∧ (insideE N E s ≠ 0 → d = 0) ∧ Below w.heap.size w w' := by
  have hb0 := below_alloc (Below.refl w.heap.size w) (.cells #[.int .i64 N, .slice A E.length c] 62)
  have HX := Aside0.mk (heap_last w (.cells #[.int .i64 N, .slice A E.length c] 62))
  have K := Aside0.mk (right_T N E A c s (w.alloc (.cells #[.int .i64 N, .slice A E.length c] 62)) hs (Kd.C_below h hb0) hE hl hl0)
  have HB := Aside0.mk hb0
  have HC := Aside0.mk h
  have HS := Aside0.mk hs
  have h0 := (blk_cell HX.out) 0
  have h1 := (blk_cell HX.out) 1
  clear hb0 h hs hE hl hl0
  go_enter Tryd.func39, Tryd.ntmps39
  go_wp2_with (fail)
  refine K.out.mono ?_
  rintro e w1 ⟨rfl, hb⟩
  have HB1 := Aside0.mk (below_step HB.out hb)
  have HX1 := Aside0.mk (blk_below HX.out hb)
  clear K hb h0 h1
  by_cases ci : insideE N E s = 0
  · have HZ := Aside0.mk ci
    have hR := inside_right ci
    obtain ⟨hE, _, hl, _⟩ := rightG_in hR
    have HE := Aside0.mk hE
    have HL := Aside0.mk hl
    have g0 := (blk_cell HX1.out) 0
    have g1 := (blk_cell HX1.out) 1
    rw [ci]
    clear hR ci hE hl
    go_wp2
    clear g0 g1
    go_loopg [7, 20] E.length (fun kq v7 v20 w' => ∃ (d i : Nat), v7 = .int .u64 (d : Int) ∧ v20 = .int .i64 (i : Int) ∧ Aside0 (i + kq = E.length) ∧ Aside0 (d < 2 ^ 64) ∧ Aside0 (∀ j, d.testBit j = (s.testBit j && !behindE (E.take i) s j)) ∧ Aside0 (Below w.heap.size w w'))
    case atStart => exact ⟨s, 0, rfl, rfl, ⟨by omega⟩, HS, ⟨fun j => by simp [behindE]⟩, HB1⟩
    case round =>
      obtain ⟨d, i, rfl, rfl, HJ, HD, HF, HB2⟩ := hrel
      by_cases c1 : i < E.length
      · have e1 : decide (i < E.length) = true := decide_eq_true c1
        have HE5 : Aside0 (wrap64 ((i : Int) + 1) = ((i + 1 : Nat) : Int)) := ⟨by have := HL.out; unfold wrap64; omega⟩
        obtain ⟨ad, ea, hx, hy⟩ := at_stp HC.out i c1
        cases ea
        replace hx := pw_cell_below HB2.out hx
        replace hy := pw_cell_below HB2.out hy
        obtain ⟨e, he⟩ : ∃ e, E.getD i (0, 0) = e := ⟨_, rfl⟩
        have hm : e ∈ E := by rw [← he]; exact getD_mem c1 _
        obtain ⟨⟨p1, p2⟩, ⟨p3, p4⟩⟩ := HE.out e hm
        have htk : E.take (i + 1) = E.take i ++ [e] := by rw [List.take_add_one, ← he]; simp [c1]
        rw [he] at hx hy
        obtain ⟨p, q⟩ := e
        obtain ⟨p, rfl⟩ := Int.eq_ofNat_of_zero_le p1
        obtain ⟨q, rfl⟩ := Int.eq_ofNat_of_zero_le p3
        dsimp only at p2 p4 hx hy
        have hp64 : p < 64 := by omega
        have hq64 : q < 64 := by omega
        have hbe : ∀ j, behindE (E.take (i + 1)) s j = (behindE (E.take i) s j || (decide (p = j) && s.testBit q)) := fun j => by
          rw [htk]
          unfold behindE
          rw [List.any_append]
          simp
        have HBE := Aside0.mk hbe
        have HI := Aside0.mk c1
        have HB3 := Aside0.mk (below_alloc HB2.out (.cells #[.int .i64 (p : Int), .int .i64 (q : Int)] 74))
        have hc := setb s p HS.out
        have hc2 := setb s q HS.out
        have s0 : min p 64 = p := by omega
        have s0' : min q 64 = q := by omega
        have s1 := shlU p hp64
        have s2 := andPow d p
        obtain ⟨bp, hbp⟩ : ∃ b, s.testBit p = b := ⟨_, rfl⟩
        obtain ⟨bq, hbq⟩ : ∃ b, s.testBit q = b := ⟨_, rfl⟩
        rw [hbp] at hc
        rw [hbq] at hc2
        have HBP := Aside0.mk hbp
        have HBQ := Aside0.mk hbq
        clear he hm htk p1 p2 p3 p4 hbp hbq hbe
        cases bp with
        | false =>
          go_wp2
          go_roundg (gk - 1)
          case measure => have := HJ.out; have := HI.out; omega
          case rel =>
            refine ⟨d, i + 1, rfl, (by first | exact congrArg _ HE5.out | rfl), ⟨by have := HJ.out; have := HI.out; omega⟩, HD, ⟨fun j => ?_⟩, HB3⟩
            rw [HBE.out, HF.out]
            by_cases cj : p = j
            · subst cj
              rw [HBP.out]
              rfl
            · simp [cj]
        | true =>
          cases bq with
          | false =>
            go_wp2
            go_roundg (gk - 1)
            case measure => have := HJ.out; have := HI.out; omega
            case rel =>
              refine ⟨d, i + 1, rfl, (by first | exact congrArg _ HE5.out | rfl), ⟨by have := HJ.out; have := HI.out; omega⟩, HD, ⟨fun j => ?_⟩, HB3⟩
              rw [HBE.out, HF.out, HBQ.out, Bool.and_false, Bool.or_false]
          | true =>
            go_wp2
            go_roundg (gk - 1)
            case measure => have := HJ.out; have := HI.out; omega
            case rel =>
              refine ⟨andN d (2 ^ p), i + 1, rfl, (by first | exact congrArg _ HE5.out | rfl), ⟨by have := HJ.out; have := HI.out; omega⟩, ⟨andN_lt _ _⟩, ⟨fun j => ?_⟩, HB3⟩
              rw [HBE.out, andN_bit _ _ _ HD.out, HF.out, HBQ.out, Nat.testBit_two_pow]
              cases s.testBit j <;> cases behindE (E.take i) s j <;> simp
      · have e1 : decide (i < E.length) = false := decide_eq_false c1
        have HIT : Aside0 (E.take i = E) := ⟨List.take_of_length_le (by omega)⟩
        go_wp2
        refine bodyPost_ret (v := .tuple #[.int .u64 (d : Int), .int .i64 0]) (by simp [results, Tryd.results39, go_sem]) rfl ?_
        exact ⟨d, by rw [HZ.out], fun _ => ⟨HD.out, fun j => by rw [HF.out, HIT.out]⟩, fun h => absurd HZ.out h, HB2.out⟩
  · have ci' : ((insideE N E s) != 0) = true := by simpa using ci
    have HZ := Aside0.mk ci
    clear ci
    go_wp2
    refine bodyPost_ret (v := .tuple #[.int .u64 0, .int .i64 (insideE N E s)]) (by simp [results, Tryd.results39, go_sem]) rfl ?_
    exact ⟨0, rfl, fun h => absurd h HZ.out, fun _ => rfl, HB1.out⟩
end Go.Proofs.YtplhihakeodadaaDoor.Sg
