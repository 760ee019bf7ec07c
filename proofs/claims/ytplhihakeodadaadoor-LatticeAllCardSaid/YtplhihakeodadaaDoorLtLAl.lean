/- lattice: the law LatticeAll, walked. -/
import Derived.Test.YtplhihakeodadaaDoorLtPd
namespace Go.Proofs.YtplhihakeodadaaDoor.Sg
open Go Go.RowKit Go.Proofs Go.Proofs.YtplhihakeodadaaDoor.IMap Go.Proofs.YtplhihakeodadaaDoorW.PrintWords Go.Proofs.YtplhihakeodadaaDoorW.PrintLast Go.Proofs.YtplhihakeodadaaDoorW.PrintMore
set_option linter.unusedVariables false
set_option linter.unusedSimpArgs false
set_option maxHeartbeats 16000000 in
set_option maxRecDepth 100000 in
theorem LatticeAll_main (N : Int) (E : List Stp) (A : Option Addr) (c : Nat) (w : World) (hT : TabW w) (h : Kd.C kP w A E.length E) (hN : -9223372036854775808 ≤ N ∧ N < 9223372036854775808) :
    Calls Tryd.prog 7 #[.agg #[.int .i64 N, .slice A E.length c]] w fun e w' => e = .returned (.bool true) ∧ Below w.heap.size w w' := by
  have hb0 := below_alloc (Below.refl w.heap.size w) (.cells #[.int .i64 N, .slice A E.length c] 62)
  have HX := Aside0.mk (heap_last w (.cells #[.int .i64 N, .slice A E.length c] 62))
  have HB := Aside0.mk hb0
  have K0 := Aside0.mk (Anchor_T (w.alloc (.cells #[.int .i64 N, .slice A E.length c] 62)) (hT.below hb0))
  have KP := Aside0.mk (fun W (hb : Below w.heap.size w W) => plain_T N E A c W (Kd.C_below h hb) hN)
  have HN := Aside0.mk hN
  have HC := Aside0.mk h
  have HT := Aside0.mk hT
  have h0 := (blk_cell HX.out) 0
  have h1 := (blk_cell HX.out) 1
  clear hb0 h hT
  obtain ⟨hN1, hN2⟩ := hN
  go_enter Tryd.func7, Tryd.ntmps7
  go_wp2_with (fail)
  refine K0.out.mono ?_
  rintro e w1 ⟨rfl, hb⟩
  have HB1 := Aside0.mk (below_step HB.out hb)
  have HX1 := Aside0.mk (blk_below HX.out hb)
  clear K0 hb h0 h1
  have h0 := (blk_cell HX1.out) 0
  have h1 := (blk_cell HX1.out) 1
  go_wp2_with (fail)
  refine (KP.out w1 HB1.out).mono ?_
  rintro e w2 ⟨rfl, hb⟩
  have HB2' := Aside0.mk (below_step HB1.out hb)
  have HX2' := Aside0.mk (blk_below HX1.out hb)
  clear KP hb h0 h1
  have HB2 := Aside0.mk (below_alloc HB2'.out (.cells #[.int .i64 N, .slice A E.length c] 55))
  have HX2 := Aside0.mk (blk_alloc HX2'.out (.cells #[.int .i64 N, .slice A E.length c] 55))
  have HP2 := Aside0.mk (heap_last w2 (.cells #[.int .i64 N, .slice A E.length c] 55))
  have h0 := (blk_cell HX2.out) 0
  have h1 := (blk_cell HX2.out) 1
  have HW2 : Aside0 (w.heap.size ≤ w2.heap.size) := ⟨below_size HB2'.out⟩
  clear HB1 HX1 HB HX HB2' HX2'
  by_cases hok : okG N E = true
  · rw [hok]
    have hl := okG_len hok
    have HOK := Aside0.mk hok
    have HL : Aside0 (E.length ≤ 60) := ⟨hl⟩
    have KR := Aside0.mk (fun W (hb : Below w.heap.size w W) => RRight_T N E A c W (Kd.C_below HC.out hb) (by omega) HN.out)
    clear hok hl
    cases hr : rightG N E with
    | false =>
      have ho : orderErr N E = 20 := by unfold orderErr; rw [hr]; rfl
      have KA := Aside0.mk (fun W (hb : Below w.heap.size w W) => AllE_T N E A c W (HT.out.below hb) (Kd.C_below HC.out hb) (by have := HL.out; omega) HN.out (by rw [ho]; decide))
      have KW := Aside0.mk (fun W (hb : Below w.heap.size w W) => WaysE_T N E A c W (HT.out.below hb) (Kd.C_below HC.out hb) (by have := HL.out; omega) HN.out (by rw [ho]; decide))
      rw [ho] at KA KW
      rw [hr] at KR
      clear hr ho
      go_wp2_with (fail)
      refine (KA.out _ HB2.out).mono ?_
      rintro e w3 ⟨rfl, hb⟩
      have HB3 := Aside0.mk (below_step HB2.out hb)
      have HX3 := Aside0.mk (blk_below HX2.out hb)
      have HP3 := Aside0.mk (blk_below HP2.out hb)
      clear KA hb h0 h1
      have h0 := (blk_cell HX3.out) 0
      have h1 := (blk_cell HX3.out) 1
      go_wp2_with (fail)
      refine (KW.out _ HB3.out).mono ?_
      rintro e w4 ⟨rfl, hb⟩
      have HB4 := Aside0.mk (below_step HB3.out hb)
      have HP4 := Aside0.mk (blk_below HP3.out hb)
      clear KW hb h0 h1
      have hp0 := (blk_cell HP4.out) 0
      have hp1 := (blk_cell HP4.out) 1
      go_wp2_with (fail)
      refine (KR.out _ HB4.out).mono ?_
      rintro e w5 ⟨rfl, hb⟩
      have HB5 := Aside0.mk (below_step HB4.out hb)
      clear KR hb hp0 hp1
      go_wp2
      go_ret
      exact ⟨by simp, HB5.out⟩
    | true =>
      have h0n := (rightG_in hr).2.1
      obtain ⟨n, rfl⟩ := Int.eq_ofNat_of_zero_le h0n.1
      have HR := Aside0.mk hr
      have KCI := Aside0.mk (fun W (hb : Below w.heap.size w W) => Circle_T n E A c W (Kd.C_below HC.out hb) hr (by have := HL.out; omega))
      rw [hr] at KR
      have hn10 := okG_ten HOK.out hr
      have HN10 := Aside0.mk hn10
      by_cases hc : Circ E n
      · have ho : orderErr (n : Int) E = 21 := by
          rcases orderErr_val hr with h | h
          · exact absurd hc ((orderErr_iff hr).1 h)
          · exact h
        have KA := Aside0.mk (fun W (hb : Below w.heap.size w W) => AllE_T n E A c W (HT.out.below hb) (Kd.C_below HC.out hb) (by have := HL.out; omega) HN.out (by rw [ho]; decide))
        have KW := Aside0.mk (fun W (hb : Below w.heap.size w W) => WaysE_T n E A c W (HT.out.below hb) (Kd.C_below HC.out hb) (by have := HL.out; omega) HN.out (by rw [ho]; decide))
        rw [ho] at KA KW
        have HCC := Aside0.mk hc
        clear hr ho h0n hn10 hc
        go_wp2_with (fail)
        refine (KA.out _ HB2.out).mono ?_
        rintro e w3 ⟨rfl, hb⟩
        have HB3 := Aside0.mk (below_step HB2.out hb)
        have HX3 := Aside0.mk (blk_below HX2.out hb)
        have HP3 := Aside0.mk (blk_below HP2.out hb)
        clear KA hb h0 h1
        have h0 := (blk_cell HX3.out) 0
        have h1 := (blk_cell HX3.out) 1
        go_wp2_with (fail)
        refine (KW.out _ HB3.out).mono ?_
        rintro e w4 ⟨rfl, hb⟩
        have HB4 := Aside0.mk (below_step HB3.out hb)
        have HP4 := Aside0.mk (blk_below HP3.out hb)
        clear KW hb h0 h1
        have hp0 := (blk_cell HP4.out) 0
        have hp1 := (blk_cell HP4.out) 1
        go_wp2_with (fail)
        refine (KR.out _ HB4.out).mono ?_
        rintro e w5 ⟨rfl, hb⟩
        have HB5 := Aside0.mk (below_step HB4.out hb)
        have HP5 := Aside0.mk (blk_below HP4.out hb)
        clear KR hb hp0 hp1
        have hp0 := (blk_cell HP5.out) 0
        have hp1 := (blk_cell HP5.out) 1
        go_wp2_with (fail)
        refine (KCI.out _ HB5.out).mono ?_
        rintro e w6 ⟨b, rfl, hbc, hb⟩
        obtain rfl : b = true := hbc.2 HCC.out
        have HB6 := Aside0.mk (below_step HB5.out hb)
        clear KCI hb hbc hp0 hp1
        go_wp2
        go_ret
        exact ⟨by simp, HB6.out⟩
      · have HCC := Aside0.mk hc
        have KA := Aside0.mk (fun W (hb : Below w.heap.size w W) => AllR_T n E A c W (HT.out.below hb) (Kd.C_below HC.out hb) HN10.out HR.out HCC.out)
        have KW := Aside0.mk (fun W (hb : Below w.heap.size w W) => WaysR_T n E A c W (HT.out.below hb) (Kd.C_below HC.out hb) HN10.out HR.out HCC.out)
        have HE := Aside0.mk (rightG_in hr).1
        obtain ⟨M, hM⟩ : ∃ M, 2 ^ n = M := ⟨_, rfl⟩
        obtain ⟨L, hL⟩ : ∃ L, (clF E (2 ^ n)).length = L := ⟨_, rfl⟩
        rw [hL] at KA
        rw [hM] at KA hL
        have hM2 : M ≤ 1024 := by rw [← hM]; exact Nat.pow_le_pow_right (n := 2) (by decide) HN10.out
        have HLM := Aside0.mk hL
        have hL2 : L ≤ 1024 := by rw [← hL]; exact Nat.le_trans (clF_len E M) hM2
        have HM := Aside0.mk hM
        have HM2 := Aside0.mk hM2
        have HL2 := Aside0.mk hL2
        clear hr h0n hn10 hc hL hM
        go_wp2_with (fail)
        refine (KA.out _ HB2.out).mono ?_
        rintro e w3 ⟨g, c', rfl, hlist, hb⟩
        have HB3 := Aside0.mk (below_step HB2.out hb)
        have HX3 := Aside0.mk (blk_below HX2.out hb)
        have HP3 := Aside0.mk (blk_below HP2.out hb)
        have HLI := Aside0.mk hlist
        clear KA hb h0 h1 hlist
        have h0 := (blk_cell HX3.out) 0
        have h1 := (blk_cell HX3.out) 1
        go_wp2_with (fail)
        refine (KW.out _ HB3.out).mono ?_
        rintro e w4 ⟨rfl, hb⟩
        have HB4 := Aside0.mk (below_step HB3.out hb)
        have HX4 := Aside0.mk (blk_below HX3.out hb)
        have HP4 := Aside0.mk (blk_below HP3.out hb)
        have HLI4 := Aside0.mk (Kd.C_below HLI.out hb)
        clear KW hb h0 h1 HLI
        have hp0 := (blk_cell HP4.out) 0
        have hp1 := (blk_cell HP4.out) 1
        go_wp2_with (fail)
        refine (KR.out _ HB4.out).mono ?_
        rintro e w5 ⟨rfl, hb⟩
        have HB5 := Aside0.mk (below_step HB4.out hb)
        have HX5 := Aside0.mk (blk_below HX4.out hb)
        have HP5 := Aside0.mk (blk_below HP4.out hb)
        have HLI5 := Aside0.mk (Kd.C_below HLI4.out hb)
        clear KR hb hp0 hp1 HLI4
        have hp0 := (blk_cell HP5.out) 0
        have hp1 := (blk_cell HP5.out) 1
        go_wp2_with (fail)
        refine (KCI.out _ HB5.out).mono ?_
        rintro e w6 ⟨b, rfl, hbc, hb⟩
        obtain rfl : b = false := by
          cases b with
          | false => rfl
          | true => exact absurd (hbc.1 rfl) HCC.out
        have HB6 := Aside0.mk (below_step HB5.out hb)
        have HX6 := Aside0.mk (blk_below HX5.out hb)
        have HP6 := Aside0.mk (blk_below HP5.out hb)
        have HLI6 := Aside0.mk (Kd.C_below HLI5.out hb)
        clear KCI hb hbc hp0 hp1 HLI5 HB2 HB3 HB4 HB5 HX2 HX3 HX4 HX5 HP2 HP3 HP4 HP5
        go_wp2
        go_loopg [9, 10] M (fun kq v9 v10 w' => ∃ (s a : Nat), v9 = .int .i64 (a : Int) ∧ v10 = .int .u64 (s : Int) ∧ Aside0 (s + kq = M) ∧ Aside0 (a = (clF E s).length) ∧ Aside0 (Below w6.heap.size w6 w'))
        case atStart => exact ⟨0, 0, rfl, rfl, ⟨by omega⟩, ⟨rfl⟩, ⟨Below.refl w6.heap.size w6⟩⟩
        case round =>
          obtain ⟨s, a, rfl, rfl, HJ, HA, HB7⟩ := hrel
          have s0 : min n 64 = n := by have := HN10.out; omega
          have s1 : IntKind.u64.wrap ((2 : Int) ^ n) = (M : Int) := by rw [shlU n (by have := HN10.out; omega), ← HM.out]; simp
          have h0 := (blk_cell (blk_below HX6.out HB7.out)) 0
          have hp0 := (blk_cell (blk_below HP6.out HB7.out)) 0
          have hp1 := (blk_cell (blk_below HP6.out HB7.out)) 1
          have HBW := Aside0.mk (below_step HB6.out HB7.out)
          by_cases c1 : s < M
          · have e1 : decide (s < M) = true := decide_eq_true c1
            have e0 : (s : Int) < (M : Int) := by omega
            have HI := Aside0.mk c1
            have HE5 : Aside0 (IntKind.u64.wrap ((s : Int) + 1) = ((s + 1 : Nat) : Int)) := ⟨by have := HM2.out; simp only [IntKind.wrap, IntKind.bits, IntKind.signed]; simp; omega⟩
            have K1 := Aside0.mk (Closed_T (n : Int) E A c s wr (by have := HM2.out; omega) (Kd.C_below HC.out HBW.out) HE.out (by have := HL.out; omega))
            clear c1
            cases hcl : closedE E s with
            | false =>
              rw [hcl] at K1
              have HS1 : Aside0 ((clF E (s + 1)).length = (clF E s).length) := ⟨by rw [clF_succ, hcl]; simp⟩
              clear hcl
              go_wp2_with (fail)
              refine K1.out.mono ?_
              rintro e w8 ⟨rfl, hb⟩
              have HB8 := Aside0.mk (HB7.out.trans (hb.mono HB7.out.size))
              clear K1 hb h0 hp0 hp1
              go_wp2
              go_roundg (gk - 1)
              case measure => have := HJ.out; have := HI.out; omega
              case rel => exact ⟨s + 1, a, rfl, (by first | exact congrArg _ HE5.out | rfl), ⟨by have := HJ.out; have := HI.out; omega⟩, ⟨by rw [HS1.out]; exact HA.out⟩, HB8⟩
            | true =>
              rw [hcl] at K1
              have hat := clF_at HI.out hcl
              rw [HLM.out, ← HA.out] at hat
              have HS1 : Aside0 ((clF E (s + 1)).length = a + 1) := ⟨by rw [clF_succ, hcl, HA.out]; simp⟩
              have HAT := Aside0.mk hat
              have ha := hat.1
              clear hcl hat
              go_wp2_with (fail)
              refine K1.out.mono ?_
              rintro e w8 ⟨rfl, hb⟩
              have HB8 := Aside0.mk (HB7.out.trans (hb.mono HB7.out.size))
              clear K1 hb h0 hp0 hp1
              have hu := C_cellU (Kd.C_below HLI6.out HB8.out) a ha
              rw [clL_get, HAT.out.2] at hu
              have d1 : decide (L ≤ a) = false := decide_eq_false (by omega)
              have d2 : (a : Int) < (L : Int) := by omega
              clear e0 e1
              go_wp2_with (fail)
              go_roundg (gk - 1)
              case measure => have := HJ.out; have := HI.out; omega
              case rel => exact ⟨s + 1, a + 1, (by first | rfl | (congr 1; go_num)), (by first | exact congrArg _ HE5.out | rfl), ⟨by have := HJ.out; have := HI.out; omega⟩, ⟨HS1.out.symm⟩, HB8⟩
          · have e1 : decide (s < M) = false := decide_eq_false c1
            have e0 : ¬ (s : Int) < (M : Int) := by omega
            have hsm : s = M := by have := HJ.out; omega
            subst hsm
            obtain rfl : a = L := by rw [HA.out, HLM.out]
            go_wp2
            go_ret
            exact ⟨by simp, HBW.out⟩
  · rw [Bool.not_eq_true] at hok
    rw [hok]
    clear hok
    go_wp2
    go_ret
    exact ⟨by simp, HB2.out⟩
theorem LatticeAll_card (N : Int) (E : List Stp) (A : Option Addr) (c : Nat) (w : World) (hT : TabW w) (h : Kd.C kP w A E.length E) (hN : (Lit.int .i64 N).wf = true) :
    Calls Tryd.prog 7 #[.agg #[.int .i64 N, .slice A E.length c]] w fun e w' => e = .returned (.bool true) ∧ Below w.heap.size w w' :=
  LatticeAll_main N E A c w hT h (wf_i64 hN)
end Go.Proofs.YtplhihakeodadaaDoor.Sg
