/- lattice: Graph.Closed and right. -/
import Derived.Test.YtplhihakeodadaaDoorLtReady
namespace Go.Proofs.YtplhihakeodadaaDoor.Sg
open Go Go.RowKit Go.Proofs.YtplhihakeodadaaDoorW.PrintWords Go.Proofs.YtplhihakeodadaaDoorW.PrintLast Go.Proofs.YtplhihakeodadaaDoorW.PrintMore
set_option linter.unusedVariables false
set_option linter.unusedSimpArgs false
theorem setb (s i : Nat) (hs : s < 2 ^ 64) : (bits .and .u64 ((s : Int) / 2 ^ i) 1 == 1) = s.testBit i := by
  have e : ((s : Int) / 2 ^ i) = ((s / 2 ^ i : Nat) : Int) := by simp
  have h := (bits_nat .u64 64 (by decide) (fun n h0 h1 => by simp only [IntKind.wrap, IntKind.bits, IntKind.signed]; simp; omega) (s / 2 ^ i) 1 (Nat.lt_of_le_of_lt (Nat.div_le_self _ _) hs) (by decide)).1
  rw [e, show (1 : Int) = ((1 : Nat) : Int) from rfl, h, Nat.and_one_is_mod, Nat.testBit_eq_decide_div_mod_eq]
  rcases Nat.mod_two_eq_zero_or_one (s / 2 ^ i) with c | c <;> rw [c] <;> simp
set_option maxHeartbeats 8000000 in
set_option maxRecDepth 20000 in
theorem DClosed_T (N : Int) (E : List Stp) (A : Option Addr) (c s : Nat) (w : World) (hs : s < 2 ^ 64) (h : Kd.C kP w A E.length E) (hE : E.length ≤ 1000000000) (hl : N ≤ 9223372036854775807) (hl0 : -9223372036854775808 ≤ N) :
    Calls Tryd.prog 74 #[.agg #[.int .i64 N, .slice A E.length c], .int .u64 (s : Int)] w fun e w' => ∃ b, e = .returned (.tuple #[.bool b, .int .i64 (insideE N E s)]) ∧ Below w.heap.size w w' := by
  have hb0 := below_alloc (Below.refl w.heap.size w) (.cells #[.int .i64 N, .slice A E.length c] 62)
  have HX := Aside0.mk (heap_last w (.cells #[.int .i64 N, .slice A E.length c] 62))
  have K := Aside0.mk (Inside_T N E A c s (w.alloc (.cells #[.int .i64 N, .slice A E.length c] 62)) hs (Kd.C_below h hb0) (by omega) (by omega))
  have HB := Aside0.mk hb0
  have HC := Aside0.mk h
  have HS := Aside0.mk hs
  have h0 := (blk_cell HX.out) 0
  have h1 := (blk_cell HX.out) 1
  clear hb0 h hs hE hl hl0
  go_enter Tryd.func74, Tryd.ntmps74
  go_wp2_with (fail)
  refine K.out.mono ?_
  rintro e w1 ⟨rfl, hb⟩
  have HB1 := Aside0.mk (below_step HB.out hb)
  have HX1 := Aside0.mk (blk_below HX.out hb)
  clear K hb h0 h1
  by_cases ci : insideE N E s = 0
  · have hR : rightG N E = true := by
      cases hr : rightG N E with
      | true => rfl
      | false => unfold insideE at ci; rw [hr] at ci; cases ci
    have HZ := Aside0.mk ci
    have h0n : 0 ≤ N := by
      unfold rightG at hR
      simp at hR
      omega
    obtain ⟨n, rfl⟩ := Int.eq_ofNat_of_zero_le h0n
    have HN : Aside0 (n ≤ 64) := ⟨by have := (rightG_in hR).2.1; omega⟩
    have K := Aside0.mk (ahead_T n E A c w1 (Kd.C_below HC.out HB1.out) hR)
    have g0 := (blk_cell HX1.out) 0
    have g1 := (blk_cell HX1.out) 1
    clear hR h0n
    rw [ci]
    clear ci
    go_wp2_with (fail)
    refine K.out.mono ?_
    rintro e w2 ⟨v, rfl, hr, hb⟩
    obtain ⟨A2, c2, rfl⟩ := Kd.R_slice hr
    obtain ⟨_, _, hC⟩ := Kd.R_reads' hr
    have HC2 := Aside0.mk hC
    have HB2 := Aside0.mk (below_step HB1.out hb)
    clear g0 g1 hr hb hC K
    rw [ahd_len]
    go_wp2
    go_loopg [18] n (fun kq v18 w' => ∃ (i : Nat), v18 = .int .i64 (i : Int) ∧ Aside0 (i + kq = n) ∧ w' = w2)
    case atStart => exact ⟨0, rfl, ⟨by omega⟩, rfl⟩
    case round =>
      obtain ⟨i, rfl, HJ, rfl⟩ := hrel
      by_cases cc : i < n
      · have e1 : decide (i < n) = true := decide_eq_true cc
        have HE5 : Aside0 (wrap64 ((i : Int) + 1) = ((i + 1 : Nat) : Int)) := ⟨by have := HN.out; unfold wrap64; omega⟩
        obtain ⟨ad, ea, hx⟩ := at_u64 HC2.out i (by rw [ahd_len]; exact cc)
        cases ea
        rw [ahd_get _ _ _ cc] at hx
        obtain ⟨p, hp⟩ : ∃ p, preds E i = p := ⟨_, rfl⟩
        have hi64 : i < 64 := by have := HN.out; omega
        have hc := setb s i HS.out
        have hn := andNU p s
        have s0 : min i 64 = i := by omega
        obtain ⟨z, hz⟩ : ∃ p', andN p s = p' := ⟨_, rfl⟩
        rw [hz] at hn
        obtain ⟨b, hb⟩ : ∃ b, s.testBit i = b := ⟨_, rfl⟩
        rw [hb] at hc
        have HI := Aside0.mk cc
        rw [hp] at hx
        clear hp hz hb
        cases b with
        | false =>
          go_wp2
          go_roundg (gk - 1)
          case measure => have := HJ.out; have := HI.out; omega
          case rel => exact ⟨i + 1, (by first | exact congrArg _ HE5.out | rfl), ⟨by have := HJ.out; have := HI.out; omega⟩, rfl⟩
        | true =>
          by_cases q : z = 0
          · subst q
            go_wp2
            go_roundg (gk - 1)
            case measure => have := HJ.out; have := HI.out; omega
            case rel => exact ⟨i + 1, (by first | exact congrArg _ HE5.out | rfl), ⟨by have := HJ.out; have := HI.out; omega⟩, rfl⟩
          · have q1 : ((z : Int) != 0) = true := by simp; omega
            go_wp2
            refine bodyPost_ret (v := .tuple #[.bool false, .int .i64 0]) (by simp [results, Tryd.results74, go_sem]) rfl ?_
            exact ⟨false, by rw [HZ.out], HB2.out⟩
      · have e1 : decide (i < n) = false := decide_eq_false cc
        go_wp2
        refine bodyPost_ret (v := .tuple #[.bool true, .int .i64 0]) (by simp [results, Tryd.results74, go_sem]) rfl ?_
        exact ⟨true, by rw [HZ.out], HB2.out⟩
  · have ci' : ((insideE N E s) != 0) = true := by simpa using ci
    clear ci
    go_wp2
    refine bodyPost_ret (v := .tuple #[.bool false, .int .i64 (insideE N E s)]) (by simp [results, Tryd.results74, go_sem]) rfl ?_
    exact ⟨false, rfl, HB1.out⟩
set_option maxHeartbeats 2000000 in
set_option maxRecDepth 20000 in
theorem right_T (N : Int) (E : List Stp) (A : Option Addr) (c s : Nat) (w : World) (hs : s < 2 ^ 64) (h : Kd.C kP w A E.length E) (hE : E.length ≤ 1000000000) (hl : N ≤ 9223372036854775807) (hl0 : -9223372036854775808 ≤ N) :
    Calls Tryd.prog 55 #[.agg #[.int .i64 N, .slice A E.length c], .int .u64 (s : Int)] w fun e w' => e = .returned (.int .i64 (insideE N E s)) ∧ Below w.heap.size w w' := by
  have hb0 := below_alloc (Below.refl w.heap.size w) (.cells #[.int .i64 N, .slice A E.length c] 62)
  have HX := Aside0.mk (heap_last w (.cells #[.int .i64 N, .slice A E.length c] 62))
  have K := Aside0.mk (DClosed_T N E A c s (w.alloc (.cells #[.int .i64 N, .slice A E.length c] 62)) hs (Kd.C_below h hb0) hE hl hl0)
  have HB := Aside0.mk hb0
  have h0 := (blk_cell HX.out) 0
  have h1 := (blk_cell HX.out) 1
  clear hb0 h hs hE hl hl0
  go_enter Tryd.func55, Tryd.ntmps55
  go_wp2_with (fail)
  refine K.out.mono ?_
  rintro e w1 ⟨b, rfl, hb⟩
  have HB1 := Aside0.mk (below_step HB.out hb)
  clear K hb h0 h1
  go_wp2
  go_ret
  exact ⟨rfl, HB1.out⟩
end Go.Proofs.YtplhihakeodadaaDoor.Sg
