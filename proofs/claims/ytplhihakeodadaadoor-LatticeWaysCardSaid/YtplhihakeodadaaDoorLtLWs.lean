/- lattice: the law LatticeWays, walked. -/
import Derived.Test.YtplhihakeodadaaDoorLtFrm
import Derived.Test.YtplhihakeodadaaDoorLtDp
namespace Go.Proofs.YtplhihakeodadaaDoor.Sg
open Go Go.RowKit Go.Proofs Go.Proofs.YtplhihakeodadaaDoor.IMap Go.Proofs.YtplhihakeodadaaDoorW.PrintWords Go.Proofs.YtplhihakeodadaaDoorW.PrintLast Go.Proofs.YtplhihakeodadaaDoorW.PrintMore
set_option linter.unusedVariables false
set_option linter.unusedSimpArgs false
set_option maxHeartbeats 16000000 in
set_option maxRecDepth 100000 in
theorem LatticeWays_main (N : Int) (E : List Stp) (A : Option Addr) (c : Nat) (w : World) (hT : TabW w) (h : Kd.C kP w A E.length E) (hN : -9223372036854775808 ≤ N ∧ N < 9223372036854775808) :
    Calls Tryd.prog 8 #[.agg #[.int .i64 N, .slice A E.length c]] w fun e w' => e = .returned (.bool true) ∧ Below w.heap.size w w' := by
  have hb0 := below_alloc (Below.refl w.heap.size w) (.cells #[.int .i64 N, .slice A E.length c] 62)
  have HX := Aside0.mk (heap_last w (.cells #[.int .i64 N, .slice A E.length c] 62))
  have HB := Aside0.mk hb0
  have K0 := Aside0.mk (Anchor_T (w.alloc (.cells #[.int .i64 N, .slice A E.length c] 62)) (hT.below hb0))
  have KP := Aside0.mk (fun W (hb : Below w.heap.size w W) => plain_T N E A c W (Kd.C_below h hb) hN)
  have HN := Aside0.mk hN
  have HC := Aside0.mk h
  have HT := Aside0.mk hT
  have h0 := (blk_cell HX.out) 0
  have h1 := (blk_cell HX.out) 1
  clear hb0 h hT
  obtain ⟨hN1, hN2⟩ := hN
  go_enter Tryd.func8, Tryd.ntmps8
  go_wp2_with (fail)
  refine K0.out.mono ?_
  rintro e w1 ⟨rfl, hb⟩
  have HB1 := Aside0.mk (below_step HB.out hb)
  have HX1 := Aside0.mk (blk_below HX.out hb)
  clear K0 hb h0 h1
  have h0 := (blk_cell HX1.out) 0
  have h1 := (blk_cell HX1.out) 1
  go_wp2_with (fail)
  refine (KP.out w1 HB1.out).mono ?_
  rintro e w2 ⟨rfl, hb⟩
  have HB2' := Aside0.mk (below_step HB1.out hb)
  have HX2' := Aside0.mk (blk_below HX1.out hb)
  clear KP hb h0 h1
  have HB2 := Aside0.mk (below_alloc HB2'.out (.cells #[.int .i64 N, .slice A E.length c] 55))
  have HX2 := Aside0.mk (blk_alloc HX2'.out (.cells #[.int .i64 N, .slice A E.length c] 55))
  have HP2 := Aside0.mk (heap_last w2 (.cells #[.int .i64 N, .slice A E.length c] 55))
  have h0 := (blk_cell HX2.out) 0
  have h1 := (blk_cell HX2.out) 1
  have hp0 := (blk_cell HP2.out) 0
  have hp1 := (blk_cell HP2.out) 1
  have HW2 : Aside0 (w.heap.size ≤ w2.heap.size) := ⟨below_size HB2'.out⟩
  clear HB1 HX1 HB HX HB2' HX2'
  by_cases hok : okG N E = true
  · rw [hok]
    have hl := okG_len hok
    have HOK := Aside0.mk hok
    have HL : Aside0 (E.length ≤ 60) := ⟨hl⟩
    have KR := Aside0.mk (fun W (hb : Below w.heap.size w W) => RRight_T N E A c W (Kd.C_below HC.out hb) (by omega) HN.out)
    clear hok hl
    cases hr : rightG N E with
    | false =>
      rw [hr] at KR
      clear hr
      go_wp2_with (fail)
      refine (KR.out _ HB2.out).mono ?_
      rintro e w4 ⟨rfl, hb⟩
      have HB4 := Aside0.mk (below_step HB2.out hb)
      clear KR hb hp0 hp1 h0 h1
      go_wp2
      go_ret
      exact ⟨by simp, HB4.out⟩
    | true =>
      have h0n := (rightG_in hr).2.1
      obtain ⟨n, rfl⟩ := Int.eq_ofNat_of_zero_le h0n.1
      have HR := Aside0.mk hr
      have KCI := Aside0.mk (fun W (hb : Below w.heap.size w W) => Circle_T n E A c W (Kd.C_below HC.out hb) hr (by have := HL.out; omega))
      rw [hr] at KR
      have hn10 := okG_ten HOK.out hr
      have HN10 := Aside0.mk hn10
      by_cases hc : Circ E n
      · have HCC := Aside0.mk hc
        clear hr h0n hn10 hc
        go_wp2_with (fail)
        refine (KR.out _ HB2.out).mono ?_
        rintro e w4 ⟨rfl, hb⟩
        have HB4 := Aside0.mk (below_step HB2.out hb)
        have HP4 := Aside0.mk (blk_below HP2.out hb)
        clear KR hb hp0 hp1 h0 h1
        have hp0 := (blk_cell HP4.out) 0
        have hp1 := (blk_cell HP4.out) 1
        go_wp2_with (fail)
        refine (KCI.out _ HB4.out).mono ?_
        rintro e w5 ⟨b, rfl, hbc, hb⟩
        obtain rfl : b = true := hbc.2 HCC.out
        have HB5 := Aside0.mk (below_step HB4.out hb)
        clear KCI hb hbc hp0 hp1
        go_wp2
        go_ret
        exact ⟨by simp, HB5.out⟩
      · have ho := (orderErr_iff hr).2 hc
        have HO0 := Aside0.mk ho
        have HCC := Aside0.mk hc
        have HEE := Aside0.mk (rightG_in hr).1
        have HE2 := Aside0.mk (right_edges hr)
        clear hr ho h0n hn10 hc
        go_wp2_with (fail)
        refine (KR.out _ HB2.out).mono ?_
        rintro e w4 ⟨rfl, hb⟩
        have HB4 := Aside0.mk (below_step HB2.out hb)
        have HX4 := Aside0.mk (blk_below HX2.out hb)
        have HP4 := Aside0.mk (blk_below HP2.out hb)
        clear KR hb hp0 hp1 h0 h1
        have hp0 := (blk_cell HP4.out) 0
        have hp1 := (blk_cell HP4.out) 1
        go_wp2_with (fail)
        refine (KCI.out _ HB4.out).mono ?_
        rintro e w5 ⟨b, rfl, hbc, hb⟩
        obtain rfl : b = false := by
          cases b with
          | false => rfl
          | true => exact absurd (hbc.1 rfl) HCC.out
        have HB5 := Aside0.mk (below_step HB4.out hb)
        have HX5 := Aside0.mk (blk_below HX4.out hb)
        have HP5 := Aside0.mk (blk_below HP4.out hb)
        clear KCI hb hbc hp0 hp1 HB4 HX4 HP4 HB2 HX2 HP2
        have h0 := (blk_cell HX5.out) 0
        obtain ⟨M, hM⟩ : ∃ M, 2 ^ n = M := ⟨_, rfl⟩
        have hM1 : 0 < M := by rw [← hM]; exact Nat.two_pow_pos n
        have hM2 : M ≤ 1024 := by rw [← hM]; exact Nat.pow_le_pow_right (n := 2) (by decide) HN10.out
        have s0 : min n 64 = n := by have := HN10.out; omega
        have s1 : wrap64 ((2 : Int) ^ n) = (M : Int) := by
          have e : ((2 : Int) ^ n) = ((2 ^ n : Nat) : Int) := by simp
          rw [e, hM]
          unfold wrap64
          omega
        have HM := Aside0.mk hM
        have HM1 := Aside0.mk hM1
        have HM2 := Aside0.mk hM2
        clear hM hM1 hM2
        go_wp2_with (first | ((with_reducible refine gate_dst (N := 31) rfl ?_); refine Kd.R_make kI (w0 := w5) w5.heap.size 3 rfl (N := 31) rfl 22 (.tmp 30) (.tmp 30) rfl (M : Int) (by simp [Act.eval, s0, s1]) (by simp [Act.eval, s0, s1]) Tryd.underlying22 (.int .i64 0) 8 info_int rfl (by decide) (by decide) (0 : Int) (ok := fun _ => True) (okp := fun _ => True) rfl (fun _ h => h) trivial (by omega) (by have := HM2.out; omega) (Below.refl w5.heap.size w5) (Nat.le_refl _) ?_; intro v1 w6 ho hb hg hat; refine Halt.out ?_))
        unfold Halt
        obtain ⟨A5, c5, rfl⟩ := Kd.R_slice ho
        rw [List.length_replicate, Int.toNat_natCast] at ho ⊢
        obtain ⟨g, rfl⟩ : ∃ g, A5 = some ⟨g, 0, none⟩ := by
          obtain ⟨inner, hz, hx⟩ := Kd.R_own ho
          rcases hx with ⟨hv, hn⟩ | ⟨g, cap, cur, hv, _⟩
          · rw [List.length_replicate] at hn
            have := HM1.out
            omega
          · injection hv with h1
            exact ⟨g, h1⟩
        have HO := Aside0.mk ho
        have HB6 := Aside0.mk hb
        have hM1 := HM1.out
        obtain ⟨hu, huf⟩ := Kd.R_celln (0 : Int) HO.out 0 (by omega) (by omega)
        obtain ⟨r1, r2⟩ := Kd.R_putg HO.out 0 (1 : Int)
        rw [show (0 : Int).toNat = 0 from rfl] at hu huf r1 r2
        have HO1 : Aside0 (Kd.R kI 3 (w6.setCell ⟨g, 0, none⟩ (.int .i64 1)) w5.heap.size (fun _ => True) (.slice (some ⟨g, 0, none⟩) M c5) (dpL E n (Ds 0 0))) := ⟨by rw [← dp_start, HM.out]; exact r1⟩
        have HB7 := Aside0.mk (pw_below_grown HB6.out (some g) HB6.out.size r2 (fun k hk => by cases hk; exact Kd.R_base HO.out g rfl))
        clear ho hb hg hat r1 r2 h0 s0 s1 HO HB6
        go_wp2_with (fail)
        clear hu huf hM1
        go_loopg [6] M (fun kq v6 w' => ∃ (s : Nat), v6 = .int .u64 (s : Int) ∧ Aside0 (s + kq = M) ∧ Aside0 (Kd.R kI 3 w' w5.heap.size (fun _ => True) (.slice (some ⟨g, 0, none⟩) M c5) (dpL E n (Ds s 0))) ∧ Aside0 (Below w5.heap.size w5 w'))
        case atStart => exact ⟨0, rfl, ⟨by omega⟩, HO1, HB7⟩
        case round =>
          clear HO1 HB7
          obtain ⟨s, rfl, HJ, HO, HB8⟩ := hrel
          have s0 : min n 64 = n := by have := HN10.out; omega
          have s1 : IntKind.u64.wrap ((2 : Int) ^ n) = (M : Int) := by rw [shlU n (by have := HN10.out; omega), ← HM.out]; simp
          have h0 := (blk_cell (blk_below HX5.out HB8.out)) 0
          by_cases c1 : s < M
          · have e1 : decide (s < M) = true := decide_eq_true c1
            have e0 : (s : Int) < (M : Int) := by omega
            have HI := Aside0.mk c1
            have HE5 : Aside0 (IntKind.u64.wrap ((s : Int) + 1) = ((s + 1 : Nat) : Int)) := ⟨by have := HM2.out; simp only [IntKind.wrap, IntKind.bits, IntKind.signed]; simp; omega⟩
            obtain ⟨ko, hko⟩ : ∃ k, k = gk := ⟨_, rfl⟩
            have HKO := Aside0.mk hko
            clear hko c1
            go_wp2_with (fail)
            clear h0 s0 s1 e0 e1
            go_loopg [7] n (fun kq v7 w' => ∃ (i : Nat), v7 = .int .i64 (i : Int) ∧ Aside0 (i + kq = n) ∧ Aside0 (Kd.R kI 3 w' w5.heap.size (fun _ => True) (.slice (some ⟨g, 0, none⟩) M c5) (dpL E n (Ds s i))) ∧ Aside0 (Below w5.heap.size w5 w'))
            case atStart => exact ⟨0, rfl, ⟨by omega⟩, HO, HB8⟩
            case round =>
              rename_i wr0 J0 K0 hJ0 hK0
              clear HO HB8
              obtain ⟨i, rfl, HJ2, HO, HB8⟩ := hrel
              have h0 := (blk_cell (blk_below HX5.out HB8.out)) 0
              have hp0 := (blk_cell (blk_below HP5.out HB8.out)) 0
              have hp1 := (blk_cell (blk_below HP5.out HB8.out)) 1
              by_cases c2 : i < n
              · have e1 : decide (i < n) = true := decide_eq_true c2
                have e0 : (i : Int) < (n : Int) := by omega
                have HE6 : Aside0 (wrap64 ((i : Int) + 1) = ((i + 1 : Nat) : Int)) := ⟨by have := HN10.out; unfold wrap64; omega⟩
                have HI2 := Aside0.mk c2
                have b0 : (s : Int) < (M : Int) := by have := HI.out; omega
                have hsM : s < 2 ^ n := by rw [HM.out]; exact HI.out
                obtain ⟨hu, huf⟩ := Kd.R_celln (0 : Int) HO.out (s : Int) (by omega) b0
                rw [Int.toNat_natCast, show rdOf 0 (dpL E n (Ds s i)) (s : Int) = ((ways E n s : Nat) : Int) by unfold rdOf; rw [Int.toNat_natCast, dp_get _ hsM, ds_own]] at hu
                rw [Int.toNat_natCast] at huf
                obtain ⟨W, hW⟩ : ∃ W, ways E n s = W := ⟨_, rfl⟩
                rw [hW] at hu
                by_cases cw : W = 0
                · subst cw
                  have hsk := dp_skip (i := i) (Or.inl hW : ways E n s = 0 ∨ rdy E s i = false)
                  have HSK := Aside0.mk hsk
                  clear hsk hW hsM c2
                  go_wp2
                  go_roundg (gk - 1)
                  case measure => have := HJ2.out; have := HI2.out; omega
                  case rel => exact ⟨i + 1, (by first | exact congrArg _ HE6.out | rfl), ⟨by have := HJ2.out; have := HI2.out; omega⟩, ⟨by rw [← HSK.out]; exact HO.out⟩, HB8⟩
                · obtain ⟨wz, hwz⟩ : ∃ z : Int, (W : Int) = z := ⟨_, rfl⟩
                  rw [hwz] at hu
                  have d1 : decide (wz > 0) = true := decide_eq_true (by omega)
                  have d2 : (0 : Int) < wz := by omega
                  have HWZ := Aside0.mk hwz
                  clear hwz
                  have hs64 : s < 2 ^ 64 := by have := HI.out; have := HM2.out; omega
                  have K1 := Aside0.mk (RReady_T (n : Int) E A c s i wr hs64 (by have := HN10.out; omega) (Kd.C_below HC.out (below_step HB5.out HB8.out)) HEE.out (by have := HL.out; omega))
                  rw [rdyE_rdy HEE.out] at K1
                  obtain ⟨br, hbr⟩ : ∃ b, rdy E s i = b := ⟨_, rfl⟩
                  rw [hbr] at K1
                  cases br with
                  | false =>
                    have HSK := Aside0.mk (dp_skip (N := n) (Or.inr hbr : ways E n s = 0 ∨ rdy E s i = false))
                    clear hW hsM c2 hbr hs64 cw
                    go_wp2_with (fail)
                    refine K1.out.mono ?_
                    rintro e w7 ⟨rfl, hb⟩
                    have HB9 := Aside0.mk (HB8.out.trans (hb.mono HB8.out.size))
                    have HO9 := Aside0.mk (Kd.R_below HO.out hb)
                    clear K1 hb h0 hp0 hp1 hu huf
                    go_wp2
                    go_roundg (gk - 1)
                    case measure => have := HJ2.out; have := HI2.out; omega
                    case rel => exact ⟨i + 1, (by first | exact congrArg _ HE6.out | rfl), ⟨by have := HJ2.out; have := HI2.out; omega⟩, ⟨by rw [← HSK.out]; exact HO9.out⟩, HB9⟩
                  | true =>
                    have HST := Aside0.mk (dp_step c2 hsM hbr)
                    have hy : s ||| 2 ^ i < M := by rw [← HM.out]; exact Nat.or_lt_two_pow hsM (Nat.pow_lt_pow_right (by decide) c2)
                    have hpp := ds_next (E := E) (N := n) (s := s) c2 hbr (s ||| 2 ^ i)
                    rw [if_pos rfl, hW] at hpp
                    have hp3 := ds_small (E := E) (N := n) HN10.out s (i + 1) (s ||| 2 ^ i)
                    rw [hpp] at hp3
                    rw [hW] at HST
                    obtain ⟨y, hy0⟩ : ∃ y, s ||| 2 ^ i = y := ⟨_, rfl⟩
                    have s2 := orPow s i hs64 (by have := HN10.out; omega)
                    rw [hy0] at HST hy hp3 s2
                    obtain ⟨p, hp⟩ : ∃ p, part E n (Ds s i) y = p := ⟨_, rfl⟩
                    rw [hp] at HST hp3
                    have HY := Aside0.mk hy
                    have HPY := Aside0.mk hp
                    have HP3 := Aside0.mk hp3
                    have HWN := Aside0.mk hW
                    clear hW hsM c2 hbr hs64 cw hpp hy0 hp hp3 hy
                    go_wp2_with (fail)
                    refine K1.out.mono ?_
                    rintro e w7 ⟨rfl, hb⟩
                    have HB9 := Aside0.mk (HB8.out.trans (hb.mono HB8.out.size))
                    have HO9 := Aside0.mk (Kd.R_below HO.out hb)
                    clear K1 hb h0 hp0 hp1 hu huf
                    obtain ⟨hu, huf⟩ := Kd.R_celln (0 : Int) HO9.out (s : Int) (by omega) b0
                    have hsM : s < 2 ^ n := by rw [HM.out]; exact HI.out
                    have hyM : y < 2 ^ n := by rw [HM.out]; exact HY.out
                    have b1 : (y : Int) < (M : Int) := by have := HY.out; omega
                    rw [Int.toNat_natCast, show rdOf 0 (dpL E n (Ds s i)) (s : Int) = wz by unfold rdOf; rw [Int.toNat_natCast, dp_get _ hsM, ds_own, HWN.out, HWZ.out]] at hu
                    rw [Int.toNat_natCast] at huf
                    obtain ⟨pz, hpz⟩ : ∃ z : Int, (p : Int) = z := ⟨_, rfl⟩
                    obtain ⟨hv, hvf⟩ := Kd.R_celln (0 : Int) HO9.out (y : Int) (by omega) b1
                    rw [Int.toNat_natCast, show rdOf 0 (dpL E n (Ds s i)) (y : Int) = pz by unfold rdOf; rw [Int.toNat_natCast, dp_get _ hyM, HPY.out, hpz]] at hv
                    rw [Int.toNat_natCast] at hvf
                    obtain ⟨qz, hqz⟩ : ∃ z : Int, ((p + W : Nat) : Int) = z := ⟨_, rfl⟩
                    have s3 : wrap64 (pz + wz) = qz := by have := HP3.out; have := HWZ.out; unfold wrap64; omega
                    have HQZ := Aside0.mk hqz
                    have s0 : min i 64 = i := by have := HN10.out; have := HI2.out; omega
                    have s1 := shlU i (by have := HN10.out; have := HI2.out; omega)
                    clear hpz hqz hsM hyM
                    go_wp2_with (fail)
                    go_big_region
                    go_wp2_with (fail)
                    obtain ⟨r1, r2⟩ := Kd.R_putg HO9.out (y : Int) qz
                    rw [Int.toNat_natCast] at r1 r2
                    have hbb := pw_below_grown HB9.out (some g) HB9.out.size r2 (fun k hk => by cases hk; exact Kd.R_base HO9.out g rfl)
                    go_roundg (gk - 1)
                    case measure => have := HJ2.out; have := HI2.out; omega
                    case rel =>
                      refine ⟨i + 1, (by first | exact congrArg _ HE6.out | rfl), ⟨by have := HJ2.out; have := HI2.out; omega⟩, ⟨?_⟩, ⟨below_drew1 hbb⟩⟩
                      rw [← HST.out, HQZ.out]
                      exact Kd.R_drew r1
              · have e1 : decide (i < n) = false := decide_eq_false c2
                have e0 : ¬ (i : Int) < (n : Int) := by omega
                have hin : i = n := by have := HJ2.out; omega
                subst hin
                go_wp2_with (fail)
                go_roundg (ko - 1)
                case measure => have := HKO.out; have := HJ.out; have := HI.out; omega
                case rel => exact ⟨s + 1, (by first | exact congrArg _ HE5.out | rfl), ⟨by have := HKO.out; have := HJ.out; have := HI.out; omega⟩, ⟨by rw [← dp_row]; exact HO.out⟩, HB8⟩
          · have e1 : decide (s < M) = false := decide_eq_false c1
            have e0 : ¬ (s : Int) < (M : Int) := by omega
            have hsm : s = M := by have := HJ.out; omega
            subst hsm
            have HBW := Aside0.mk (below_step HB5.out HB8.out)
            have h1 := (blk_cell (blk_below HX5.out HB8.out)) 1
            have KW := Aside0.mk (Ways_T n E A c wr (HT.out.below HBW.out) (Kd.C_below HC.out HBW.out) HR.out HO0.out (count_ok HN10.out) (by have := HN10.out; omega) (by rw [count_way HN10.out]; have := ways_small (E := E) HN10.out (2 ^ n - 1); omega))
            rw [count_way HN10.out, HM.out] at KW
            have hl : s - 1 < s := by have := HM1.out; omega
            obtain ⟨W, hW⟩ : ∃ W : Int, ((ways E n (s - 1) : Nat) : Int) = W := ⟨_, rfl⟩
            rw [hW] at KW
            have HW := Aside0.mk hW
            have HLT := Aside0.mk hl
            clear hl hW
            go_wp2_with (fail)
            refine KW.out.mono ?_
            rintro e w7 ⟨rfl, hb⟩
            have HO9 := Aside0.mk (Kd.R_below HO.out hb)
            have HB9 := Aside0.mk (HB8.out.trans (hb.mono HB8.out.size))
            clear KW hb h0 h1
            obtain ⟨m, hm⟩ : ∃ m, s - 1 = m := ⟨_, rfl⟩
            have e5 : wrap64 ((s : Int) - 1) = (m : Int) := by have := HLT.out; have := HM2.out; unfold wrap64; omega
            have b1 : (m : Int) < (s : Int) := by have := HLT.out; omega
            obtain ⟨hu, huf⟩ := Kd.R_celln (0 : Int) HO9.out (m : Int) (by omega) b1
            rw [Int.toNat_natCast, show rdOf 0 (dpL E n (Ds s 0)) (m : Int) = W by
              unfold rdOf
              have hlt : m < 2 ^ n := by rw [HM.out]; omega
              rw [Int.toNat_natCast, dp_get _ hlt, ← HM.out, dp_end hlt, ← hm]
              exact HW.out] at hu
            clear hm
            go_wp2
            go_ret
            exact ⟨by simp, below_step HB5.out HB9.out⟩
  · rw [Bool.not_eq_true] at hok
    rw [hok]
    clear hok
    go_wp2
    go_ret
    exact ⟨by simp, HB2.out⟩
theorem LatticeWays_card (N : Int) (E : List Stp) (A : Option Addr) (c : Nat) (w : World) (hT : TabW w) (h : Kd.C kP w A E.length E) (hN : (Lit.int .i64 N).wf = true) :
    Calls Tryd.prog 8 #[.agg #[.int .i64 N, .slice A E.length c]] w fun e w' => e = .returned (.bool true) ∧ Below w.heap.size w w' :=
  LatticeWays_main N E A c w hT h (wf_i64 hN)
end Go.Proofs.YtplhihakeodadaaDoor.Sg
