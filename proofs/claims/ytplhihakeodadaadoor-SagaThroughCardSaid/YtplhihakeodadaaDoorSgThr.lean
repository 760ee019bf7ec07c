/- saga: the law SagaThrough, walked. (written by gen_thr.py) -/
import Derived.Test.YtplhihakeodadaaDoorSgThr1
namespace Go.Proofs.YtplhihakeodadaaDoor.Sg
open Go Go.RowKit Go.Proofs.YtplhihakeodadaaDoorW.PrintWords Go.Proofs.YtplhihakeodadaaDoorW.PrintLast Go.Proofs.YtplhihakeodadaaDoorW.PrintMore
set_option linter.unusedVariables false
set_option linter.unusedSimpArgs false
set_option maxHeartbeats 32000000 in
set_option maxRecDepth 20000 in
theorem SagaThrough_main (p : Pln) (V : PV) (ps : List Int) (give : Int) (A : Option Addr) (c : Nat) (w : World) (hT : TabW w) (h : PlC w V p) (hk : Kd.C kI w A ps.length ps) (hl : ps.length ≤ 9223372036854775807) :
    Calls Tryd.prog 3 #[.agg (plv V), .slice A ps.length c, .int .i64 give] w fun e w' => e = .returned (.bool true) ∧ Below w.heap.size w w' := by
  obtain ⟨Af, cf, At, ct, As, cs, Ab, cb, rfl, hST⟩ := h.opened'
  unfold plv
  dsimp only
  have hb0 := below_alloc (Below.refl w.heap.size w) (.cells #[.slice Af p.1.length cf, .slice At p.2.1.length ct, .slice As p.2.2.1.length cs, .slice Ab p.2.2.2.length cb] 26)
  have hg0 := heap_last w (.cells #[.slice Af p.1.length cf, .slice At p.2.1.length ct, .slice As p.2.2.1.length cs, .slice Ab p.2.2.2.length cb] 26)
  obtain ⟨W0, hW0⟩ : ∃ W, w.alloc (.cells #[.slice Af p.1.length cf, .slice At p.2.1.length ct, .slice As p.2.2.1.length cs, .slice Ab p.2.2.2.length cb] 26) = W := ⟨_, rfl⟩
  rw [hW0] at hb0 hg0
  have HT := Aside0.mk hT
  have HPC := Aside0.mk h
  have HKC := Aside0.mk hk
  have HLM := Aside0.mk hl
  have HB0 := Aside0.mk hb0
  have HP0 := Aside0.mk hg0
  have K1 := Aside0.mk (anchor_T W0 (hT.below hb0))
  clear hT h hk hl hb0 hg0 hST
  go_enter Tryd.func3, Tryd.ntmps3
  go_upto_region 1 with (fail)
  clear hW0
  go_wp2_with (fail)
  refine K1.out.mono ?_
  rintro e w1 ⟨rfl, hb⟩
  have HB1 := Aside0.mk (below_step HB0.out hb)
  have HP1 := Aside0.mk (blk_below HP0.out hb)
  have K2 := Aside0.mk (Plan_T ⟨.slice Af p.1.length cf, .slice At p.2.1.length ct, .slice As p.2.2.1.length cs, .slice Ab p.2.2.2.length cb⟩ p w1 (HPC.out.below HB1.out))
  unfold plv at K2
  unfold Planned at K2
  dsimp only at K2
  obtain ⟨B, hB⟩ : ∃ B, okPlan p = B := ⟨_, rfl⟩
  simp only [hB] at K2
  have HOK := Aside0.mk hB
  have hp0 := (blk_cell HP1.out) 0
  have hp1 := (blk_cell HP1.out) 1
  have hp2 := (blk_cell HP1.out) 2
  have hp3 := (blk_cell HP1.out) 3
  clear K1 hb hB
  go_wp2_with (fail)
  refine K2.out.mono ?_
  rintro e w2 ⟨A5, n5, c5, rfl, -, hb⟩
  have hb2 := below_alloc (Below.refl w2.heap.size w2) (.cells #[.slice Af p.1.length cf, .slice At p.2.1.length ct, .slice A5 n5 c5, .slice Ab p.2.2.2.length cb] 30)
  have HB2 := Aside0.mk (below_step (below_step HB1.out hb) hb2)
  have HP2 := Aside0.mk (blk_below (blk_below HP1.out hb) hb2)
  clear K2 hb hb2 hp0 hp1 hp2 hp3
  cases B with
  | false =>
    go_wp2
    go_ret
    exact ⟨rfl, HB2.out⟩
  | true =>
    by_cases c1 : 200 < ps.length
    · have e1 : decide ((200 : Int) < (ps.length : Int)) = true := decide_eq_true (by omega)
      go_wp2
      go_ret
      exact ⟨rfl, HB2.out⟩
    · have e1 : decide ((200 : Int) < (ps.length : Int)) = false := decide_eq_false (by omega)
      have HL : Aside0 (ps.length ≤ 200) := ⟨by omega⟩
      obtain ⟨W2, hW2⟩ : ∃ W, w2.alloc (.cells #[.slice Af p.1.length cf, .slice At p.2.1.length ct, .slice A5 n5 c5, .slice Ab p.2.2.2.length cb] 30) = W := ⟨_, rfl⟩
      rw [hW2] at HB2 HP2
      have K3 := Aside0.mk (Take_T sv0 ss0 ⟨.slice Af p.1.length cf, .slice At p.2.1.length ct, .slice As p.2.2.1.length cs, .slice Ab p.2.2.2.length cb⟩ ⟨1, 0, p⟩ W2 (HT.out.below HB2.out) (StR.zero W2 0).c (HPC.out.below HB2.out) HOK.out (Bd.zero _))
      obtain ⟨s1, hs1⟩ : ∃ s1, (take ss0 ⟨1, 0, p⟩).1 = s1 := ⟨_, rfl⟩
      obtain ⟨E1, hE1⟩ : ∃ E1, (take ss0 ⟨1, 0, p⟩).2 = E1 := ⟨_, rfl⟩
      rw [hs1, hE1] at K3
      unfold stv sv0 pv0 ss0 rrv at K3
      dsimp only at K3
      have HTK : Aside0 (take ss0 ⟨1, 0, p⟩ = (s1, E1)) := ⟨by rw [← hs1, ← hE1]⟩
      clear c1 hs1 hE1
      have hp0 := (blk_cell HP2.out) 0
      have hp1 := (blk_cell HP2.out) 1
      have hp2 := (blk_cell HP2.out) 2
      have hp3 := (blk_cell HP2.out) 3
      go_upto_region 6 with (fail)
      clear hW2
      go_wp2_with (fail)
      refine K3.out.mono ?_
      rintro e w3 ⟨V1, rfl, hr3, hb3⟩
      have hb3' := hb3.size
      obtain ⟨A1f, c1f, A1t, c1t, A1s, c1s, A1b, c1b, A1o, c1o, A1d, c1d, rfl⟩ := hr3.opened
      have HB3 := Aside0.mk (below_step HB2.out hb3)
      have HP3 := Aside0.mk (blk_below HP2.out hb3)
      have HV3 := Aside0.mk hr3
      clear K3 hr3 hb3 hp0 hp1 hp2 hp3
      have hb4 := below_alloc (Below.refl w3.heap.size w3) (.cells #[.int .i64 s1.num, .int .i64 s1.ph, .slice A1f s1.pl.1.length c1f, .slice A1t s1.pl.2.1.length c1t, .slice A1s s1.pl.2.2.1.length c1s, .slice A1b s1.pl.2.2.2.length c1b, .slice A1o s1.op.length c1o, .slice A1d s1.dn.length c1d] 34)
      have HB4 := Aside0.mk (below_step HB3.out hb4)
      have HP4 := Aside0.mk (blk_below HP3.out hb4)
      have HV4 := Aside0.mk ((HV3.out.lower (base' := 0) (Nat.zero_le _)).below hb4)
      have HW4 := Aside0.mk (HV3.out.below hb4)
      have HG4 := Aside0.mk (heap_last w3 (.cells #[.int .i64 s1.num, .int .i64 s1.ph, .slice A1f s1.pl.1.length c1f, .slice A1t s1.pl.2.1.length c1t, .slice A1s s1.pl.2.2.1.length c1s, .slice A1b s1.pl.2.2.2.length c1b, .slice A1o s1.op.length c1o, .slice A1d s1.dn.length c1d] 34))
      have HWS2 : Aside0 (W2.heap.size ≤ w3.heap.size) := ⟨hb3'⟩
      have HWS : Aside0 (w.heap.size ≤ w3.heap.size) := ⟨below_size HB3.out⟩
      clear hb4
      unfold stv
      dsimp only
      by_cases hz : E1 = 0
      · have e2 : (E1 != 0) = false := by simpa using hz
        obtain ⟨hs1, hbg⟩ := take_begin rfl HTK.out hz
        have HM0 : Aside0 (Th p s1) := ⟨by rw [hs1]; exact Th.start hbg HOK.out⟩
        have HD0 : Aside0 (s1.dn = []) := ⟨by rw [hs1]⟩
        have HO0 : Aside0 (s1.op = []) := ⟨by rw [hs1]⟩
        clear hz hs1 hbg
        go_upto_block 0 with (fail)
        go_cut [] (fun wx => ∃ (s : SS) (V : SV), Aside0 (Th p s) ∧ Aside0 (s.ph = 1 → marks s = false) ∧ Aside0 (wx.heap[w3.heap.size]? = some (.cells (stv V s) 34 (0, 0))) ∧ Aside0 (StR wx 0 V s) ∧ Aside0 (Below w3.heap.size w3 wx))
        case first =>
          have HBZ : Aside0 (Below w3.heap.size w3 (w3.alloc (.cells #[.int .i64 s1.num, .int .i64 s1.ph, .slice A1f s1.pl.1.length c1f, .slice A1t s1.pl.2.1.length c1t, .slice A1s s1.pl.2.2.1.length c1s, .slice A1b s1.pl.2.2.2.length c1b, .slice A1o s1.op.length c1o, .slice A1d s1.dn.length c1d] 34))) := ⟨below_alloc (Below.refl _ _) _⟩
          have HLS := Aside0.mk (okPlan_le HOK.out)
          go_wp2_with (fail)
          go_loopg [12] (2 * p.2.2.1.length + 1) (fun kq v12 w' => ∃ (n : Nat) (s : SS) (V : SV), v12 = .int .i64 (n : Int) ∧ Aside0 (n + kq = 2 * p.2.2.1.length + 1) ∧ Aside0 (Th p s) ∧ Aside0 (mea s = n) ∧ Aside0 (w'.heap[w3.heap.size]? = some (.cells (stv V s) 34 (0, 0))) ∧ Aside0 (StR w' 0 V s) ∧ Aside0 (Below w3.heap.size w3 w'))
          case atStart => exact ⟨0, s1, ⟨⟨.slice A1f s1.pl.1.length c1f, .slice A1t s1.pl.2.1.length c1t, .slice A1s s1.pl.2.2.1.length c1s, .slice A1b s1.pl.2.2.2.length c1b⟩, .slice A1o s1.op.length c1o, .slice A1d s1.dn.length c1d⟩, rfl, ⟨by omega⟩, HM0, ⟨by unfold mea; rw [HD0.out, HO0.out]; rfl⟩, HG4, ⟨HW4.out.lower (Nat.zero_le _)⟩, HBZ⟩
          case round =>
            clear HBZ HG4 HV4 HW4 HV3 HD0 HM0 HO0
            obtain ⟨n, s, V, rfl, HJ, HM, HME, HG, HV, HB⟩ := hrel
            obtain ⟨ko, rfl⟩ : ∃ k, k = gk := ⟨_, rfl⟩
            have HPW := Aside0.mk (blk_below HP3.out HB.out)
            have hp2 := (blk_cell HPW.out) 2
            have HWR : Aside0 (wrap64 (2 * (p.2.2.1.length : Int)) = 2 * (p.2.2.1.length : Int)) := ⟨by have := HLS.out; unfold wrap64; omega⟩
            have hwr := HWR.out
            by_cases c1 : n ≤ 2 * p.2.2.1.length
            · have e1 : decide ((n : Int) ≤ 2 * (p.2.2.1.length : Int)) = true := decide_eq_true (by omega)
              have HE5 : Aside0 (wrap64 ((n : Int) + 1) = ((n + 1 : Nat) : Int)) := ⟨by have := HLS.out; unfold wrap64; omega⟩
              have HI := Aside0.mk c1
              clear c1
              obtain ⟨Azf, czf, Azt, czt, Azs, czs, Azb, czb, Azo, czo, Azd, czd, rfl⟩ := HV.out.opened
              have hstv : stv ⟨⟨.slice Azf s.pl.1.length czf, .slice Azt s.pl.2.1.length czt, .slice Azs s.pl.2.2.1.length czs, .slice Azb s.pl.2.2.2.length czb⟩, .slice Azo s.op.length czo, .slice Azd s.dn.length czd⟩ s = #[.int .i64 s.num, .int .i64 s.ph, .slice Azf s.pl.1.length czf, .slice Azt s.pl.2.1.length czt, .slice Azs s.pl.2.2.1.length czs, .slice Azb s.pl.2.2.2.length czb, .slice Azo s.op.length czo, .slice Azd s.dn.length czd] := rfl
              have HSV := Aside0.mk hstv
              rw [hstv] at HG
              clear hstv
              go_upto_region 13 with (fail)
              clear hp2 e1 hwr
              go_cut [63] (fun v63 wx => ∃ B : Bool, Aside0 (B = true → s.ph = 1) ∧ v63 = .bool B ∧ wx = wr)
              case first =>
                have hk1 := (blk_cell HG.out) 1
                by_cases cg : (n : Int) = give
                · have e3 : ((n : Int) == give) = true := by rw [cg]; exact beq_self_eq_true _
                  cases hph : (s.ph == 1) with
                  | true =>
                    have HPH : Aside0 (s.ph = 1) := ⟨by simpa using hph⟩
                    go_wp2_with (fail)
                    go_meet
                    exact ⟨true, ⟨fun _ => HPH.out⟩, rfl, rfl⟩
                  | false =>
                    go_wp2_with (fail)
                    go_meet
                    exact ⟨false, ⟨fun h => by cases h⟩, rfl, rfl⟩
                · have e3 : ((n : Int) == give) = false := by simpa using cg
                  go_wp2_with (fail)
                  go_meet
                  exact ⟨false, ⟨fun h => by cases h⟩, rfl, rfl⟩
              case rest =>
                obtain ⟨B, HBP, rfl, rfl⟩ := hcut
                go_upto_if 63 with (fail)
                go_cut [] (fun wx => ∃ (s : SS) (V : SV), Aside0 (Th p s) ∧ Aside0 (mea s = n) ∧ Aside0 (wx.heap[w3.heap.size]? = some (.cells (stv V s) 34 (0, 0))) ∧ Aside0 (StR wx 0 V s) ∧ Aside0 (Below w3.heap.size w3 wx))
                case first =>
                  cases B with
                  | false =>
                    go_wp2_with (fail)
                    go_meet
                    exact ⟨s, ⟨⟨.slice Azf s.pl.1.length czf, .slice Azt s.pl.2.1.length czt, .slice Azs s.pl.2.2.1.length czs, .slice Azb s.pl.2.2.2.length czb⟩, .slice Azo s.op.length czo, .slice Azd s.dn.length czd⟩, HM, HME, ⟨by rw [HSV.out]; exact HG.out⟩, HV, HB⟩
                  | true =>
                    obtain ⟨s2, ht, hm, hme⟩ := HM.out.abort (HBP.out rfl)
                    have HM2 := Aside0.mk hm
                    have HME2 := Aside0.mk (hme.trans HME.out)
                    have K := Aside0.mk (Thr1_T w3.heap.size ⟨⟨.slice Azf s.pl.1.length czf, .slice Azt s.pl.2.1.length czt, .slice Azs s.pl.2.2.1.length czs, .slice Azb s.pl.2.2.2.length czb⟩, .slice Azo s.op.length czo, .slice Azd s.dn.length czd⟩ s s2 5 0 wc (HT.out.below (below_step HB3.out HB.out)) (by rw [HSV.out]; exact HG.out) HV.out (HM.out.bd.le (by decide)) ht)
                    clear ht hm hme
                    go_wp2_with (fail)
                    refine K.out.mono ?_
                    rintro e w5 ⟨V5, rfl, hg, hv, hb⟩
                    have HG5 := Aside0.mk hg
                    have HV5 := Aside0.mk hv
                    have HB5 := Aside0.mk (HB.out.trans hb)
                    clear K hg hv hb
                    go_wp2_with (fail)
                    go_meet
                    exact ⟨s2, V5, HM2, HME2, HG5, HV5, HB5⟩
                case rest =>
                  clear HM HME HG HV HB HSV HPW HBP
                  obtain ⟨s, V, HM, HME, HG, HV, HB⟩ := hcut
                  obtain ⟨Azf, czf, Azt, czt, Azs, czs, Azb, czb, Azo, czo, Azd, czd, rfl⟩ := HV.out.opened
                  have hstv : stv ⟨⟨.slice Azf s.pl.1.length czf, .slice Azt s.pl.2.1.length czt, .slice Azs s.pl.2.2.1.length czs, .slice Azb s.pl.2.2.2.length czb⟩, .slice Azo s.op.length czo, .slice Azd s.dn.length czd⟩ s = #[.int .i64 s.num, .int .i64 s.ph, .slice Azf s.pl.1.length czf, .slice Azt s.pl.2.1.length czt, .slice Azs s.pl.2.2.1.length czs, .slice Azb s.pl.2.2.2.length czb, .slice Azo s.op.length czo, .slice Azd s.dn.length czd] := rfl
                  have HSV := Aside0.mk hstv
                  rw [hstv] at HG
                  clear hstv
                  go_upto_region 16 with (fail)
                  go_cut [75] (fun v75 wx => v75 = .bool false ∧ ∃ (s : SS) (V : SV), Aside0 (Th p s) ∧ Aside0 (mea s = n) ∧ Aside0 (s.ph = 1 → marks s = false) ∧ Aside0 (wx.heap[w3.heap.size]? = some (.cells (stv V s) 34 (0, 0))) ∧ Aside0 (StR wx 0 V s) ∧ Aside0 (Below w3.heap.size w3 wx))
                  case first =>
                    have K0 := Aside0.mk (Marks_T ⟨⟨.slice Azf s.pl.1.length czf, .slice Azt s.pl.2.1.length czt, .slice Azs s.pl.2.2.1.length czs, .slice Azb s.pl.2.2.2.length czb⟩, .slice Azo s.op.length czo, .slice Azd s.dn.length czd⟩ s wc HV.out.c (by rw [HM.out.pl]; exact HOK.out) (Nat.le_trans HM.out.bd.d (by decide)))
                    rw [HSV.out] at K0
                    have hg0 := (blk_cell HG.out) 0
                    have hg1 := (blk_cell HG.out) 1
                    have hg2 := (blk_cell HG.out) 2
                    have hg3 := (blk_cell HG.out) 3
                    have hg4 := (blk_cell HG.out) 4
                    have hg5 := (blk_cell HG.out) 5
                    have hg6 := (blk_cell HG.out) 6
                    have hg7 := (blk_cell HG.out) 7
                    cases hmk : marks s with
                    | false =>
                      rw [hmk] at K0
                      have HMK := Aside0.mk hmk
                      clear hmk
                      go_wp2_with (fail)
                      refine K0.out.mono ?_
                      rintro e w5 ⟨rfl, hb⟩
                      have HG5 := Aside0.mk (blk_below HG.out hb)
                      have HV5 := Aside0.mk (HV.out.below hb)
                      have HB5 := Aside0.mk (below_step HB.out hb)
                      clear K0 hb hg0 hg1 hg2 hg3 hg4 hg5 hg6 hg7
                      go_wp2_with (fail)
                      go_meet
                      exact ⟨rfl, s, ⟨⟨.slice Azf s.pl.1.length czf, .slice Azt s.pl.2.1.length czt, .slice Azs s.pl.2.2.1.length czs, .slice Azb s.pl.2.2.2.length czb⟩, .slice Azo s.op.length czo, .slice Azd s.dn.length czd⟩, HM, HME, ⟨fun _ => HMK.out⟩, ⟨by rw [HSV.out]; exact HG5.out⟩, HV5, HB5⟩
                    | true =>
                      rw [hmk] at K0
                      obtain ⟨s2, ht, hm, hme, hp3⟩ := HM.out.mark hmk
                      have HM2 := Aside0.mk hm
                      have HME2 := Aside0.mk (hme.trans HME.out)
                      have HP3' := Aside0.mk hp3
                      have K := Aside0.mk (fun W (hb : Below wc.heap.size wc W) => Thr1_T w3.heap.size ⟨⟨.slice Azf s.pl.1.length czf, .slice Azt s.pl.2.1.length czt, .slice Azs s.pl.2.2.1.length czs, .slice Azb s.pl.2.2.2.length czb⟩, .slice Azo s.op.length czo, .slice Azd s.dn.length czd⟩ s s2 7 0 W (HT.out.below (below_step HB3.out (below_step HB.out hb))) (by rw [HSV.out]; exact blk_below HG.out hb) (HV.out.below hb) (HM.out.bd.le (by decide)) ht)
                      clear ht hm hme hmk hp3
                      go_wp2_with (fail)
                      refine K0.out.mono ?_
                      rintro e w5 ⟨rfl, hb⟩
                      have K2 := Aside0.mk (K.out w5 hb)
                      have HB5 := Aside0.mk (below_step HB.out hb)
                      clear K0 K hb hg0 hg1 hg2 hg3 hg4 hg5 hg6 hg7
                      go_wp2_with (fail)
                      refine K2.out.mono ?_
                      rintro e w6 ⟨V6, rfl, hg, hv, hb⟩
                      have HG6 := Aside0.mk hg
                      have HV6 := Aside0.mk hv
                      have HB6 := Aside0.mk (HB5.out.trans hb)
                      clear K2 hg hv hb
                      go_wp2_with (fail)
                      go_meet
                      exact ⟨rfl, s2, V6, HM2, HME2, ⟨fun h => by rw [HP3'.out] at h; omega⟩, HG6, HV6, HB6⟩
                  case rest =>
                    clear HM HME HG HV HB HSV
                    obtain ⟨rfl, s, V, HM, HME, HMK, HG, HV, HB⟩ := hcut
                    obtain ⟨Azf, czf, Azt, czt, Azs, czs, Azb, czb, Azo, czo, Azd, czd, rfl⟩ := HV.out.opened
                    have hstv : stv ⟨⟨.slice Azf s.pl.1.length czf, .slice Azt s.pl.2.1.length czt, .slice Azs s.pl.2.2.1.length czs, .slice Azb s.pl.2.2.2.length czb⟩, .slice Azo s.op.length czo, .slice Azd s.dn.length czd⟩ s = #[.int .i64 s.num, .int .i64 s.ph, .slice Azf s.pl.1.length czf, .slice Azt s.pl.2.1.length czt, .slice Azs s.pl.2.2.1.length czs, .slice Azb s.pl.2.2.2.length czb, .slice Azo s.op.length czo, .slice Azd s.dn.length czd] := rfl
                    have HSV := Aside0.mk hstv
                    rw [hstv] at HG
                    clear hstv
                    have HPW := Aside0.mk (blk_below HP3.out HB.out)
                    have hp2 := (blk_cell HPW.out) 2
                    go_wp2_with (fail)
                    obtain ⟨wo, rfl⟩ : ∃ W, W = wc := ⟨_, rfl⟩
                    clear hp2
                    go_loopg [13, 79] p.2.2.1.length (fun kq v13 v79 w' => ∃ (i : Nat) (ks : List (Int × Int)), v79 = .int .i64 (i : Int) ∧ Aside0 (i + kq = p.2.2.1.length) ∧ Aside0 (∀ q ∈ ks, okR s q) ∧ Aside0 (ks.length ≤ i) ∧ Aside0 (Kd.R kRc 39 w' wo.heap.size (fun _ => True) v13 ks) ∧ Aside0 (Below wo.heap.size wo w'))
                    case atStart => exact ⟨0, [], rfl, ⟨by omega⟩, ⟨fun x hx => by cases hx⟩, ⟨Nat.le_refl _⟩, ⟨Kd.R_nil _ _ _ _ _⟩, ⟨Below.refl _ _⟩⟩
                    case round =>
                      obtain ⟨i, ks, rfl, HJ2, HKS, HKL, HR, HBI⟩ := hrel
                      have HGI := Aside0.mk (blk_below HG.out HBI.out)
                      by_cases c2 : i < p.2.2.1.length
                      · have e2 : decide (i < p.2.2.1.length) = true := decide_eq_true c2
                        have HI2 := Aside0.mk c2
                        have HE6 : Aside0 (wrap64 ((i : Int) + 1) = ((i + 1 : Nat) : Int)) := ⟨by have := HLS.out; unfold wrap64; omega⟩
                        have K := Aside0.mk (May_T ⟨⟨.slice Azf s.pl.1.length czf, .slice Azt s.pl.2.1.length czt, .slice Azs s.pl.2.2.1.length czs, .slice Azb s.pl.2.2.2.length czb⟩, .slice Azo s.op.length czo, .slice Azd s.dn.length czd⟩ s (i : Int) wr (HV.out.below HBI.out).c (by rw [HM.out.pl]; exact HOK.out) (Nat.le_trans HM.out.bd.o (by decide)) (Nat.le_trans HM.out.bd.d (by decide)))
                        rw [HSV.out] at K
                        obtain ⟨mb, hmb⟩ : ∃ b, may s (i : Int) = b := ⟨_, rfl⟩
                        rw [hmb] at K
                        have hi0 := (blk_cell HGI.out) 0
                        have hi1 := (blk_cell HGI.out) 1
                        have hi2 := (blk_cell HGI.out) 2
                        have hi3 := (blk_cell HGI.out) 3
                        have hi4 := (blk_cell HGI.out) 4
                        have hi5 := (blk_cell HGI.out) 5
                        have hi6 := (blk_cell HGI.out) 6
                        have hi7 := (blk_cell HGI.out) 7
                        have HMB := Aside0.mk hmb
                        clear c2 hmb
                        go_wp2_with (fail)
                        refine K.out.mono ?_
                        rintro e w4 ⟨rfl, hb⟩
                        have HB4' := Aside0.mk (below_step HBI.out hb)
                        have HR4 := Aside0.mk (Kd.R_below HR.out hb)
                        clear K hb hi0 hi1 hi2 hi3 hi4 hi5 hi6 hi7
                        cases mb with
                        | false =>
                          go_wp2_with (fail)
                          go_roundg (gk - 1)
                          case measure => have := HJ2.out; have := HI2.out; omega
                          case rel => exact ⟨i + 1, ks, (by first | exact congrArg _ HE6.out | rfl), ⟨by have := HJ2.out; have := HI2.out; omega⟩, HKS, ⟨Nat.le_succ_of_le HKL.out⟩, HR4, HB4'⟩
                        | true =>
                          obtain ⟨A13, c13, rfl⟩ := Kd.R_slice HR4.out
                          go_wp2_with (first
                            | ((with_reducible refine gate_dst (N := 88) rfl ?_); refine Kd.R_lit kRc w4.heap.size 39 ?hg (N := 88) ?hd (xs := [((2 : Int), (i : Int))]) (inner := [.int .i64 2, .int .i64 (i : Int), .slice none 0 0, .slice none 0 0, .slice none 0 0, .slice none 0 0]) (ok := fun k => True ∧ some k ≠ (Value.slice A13 ks.length c13).ownBlock) (okp := fun k => True ∧ some k ≠ (Value.slice A13 ks.length c13).ownBlock) ?hr ?hp (fun _ hk => hk) ⟨trivial, R_fresh HR4.out⟩ (Below.refl _ _) (Nat.le_refl _) (by simp) ?_; (case hd => rfl); (case hg => rfl); (case hr => first | (go_simp; done) | (go_simp; rfl)); (case hp => exact reps1 (show Kd.M kRc _ _ _ ((2 : Int), (i : Int)) [.int .i64 2, .int .i64 (i : Int), .slice none 0 0, .slice none 0 0, .slice none 0 0, .slice none 0 0] from rfl) rfl); intro v43 w7 ho hb hg_ hnew_; clear hg_ hnew_; obtain ⟨A43, c43, rfl, hcl43, hC43⟩ := OwnRow.reads ho.2; have HC43 := Aside0.mk hC43; have HO1 := Aside0.mk (Kd.R_below HR4.out hb); have HB7 := Aside0.mk (below_step HB4'.out hb); clear ho hb hC43 hcl43)
                            | ((with_reducible refine gate_builtin (b := .append) (xs := #[.tmp 85, .tmp 88]) rfl ?_); at_builtin; refine Halt.out ?_))
                          unfold Halt
                          refine Kd.R_append_rows kRc (w0 := wo) wo.heap.size rfl (.tmp 85) (.tmp 88) 41 39 (.agg #[.int .i64 0, .int .i64 0, .slice none 0 0, .slice none 0 0, .slice none 0 0, .slice none 0 0]) 112 rfl (by kernel_rfl) info_rec rfl (by decide) (by decide) (.slice A13 ks.length c13) ks [((2 : Int), (i : Int))] A43 1 c43 (fun _ => True) (fun k => (True ∧ some k ≠ (Value.slice A13 ks.length c13).ownBlock) ∧ some k ≠ (Value.slice A43 [((2 : Int), (i : Int))].length c43).ownBlock) rfl rfl HO1.out HC43.out (fun _ _ h => h) (fun k hk => ⟨trivial, hk.1.2⟩) (fun _ _ => trivial) HB7.out (below_size HB7.out) (by have := HKL.out; have := HI2.out; have := HLS.out; omega) ?_
                          intro v44 w8 ho hb hgr hat
                          have HO8 := Aside0.mk ho
                          have HB8 := Aside0.mk hb
                          clear ho hb hgr hat
                          go_wp2_with (fail)
                          go_roundg (gk - 1)
                          case measure => have := HJ2.out; have := HI2.out; omega
                          case rel => exact ⟨i + 1, ks ++ [((2 : Int), (i : Int))], (by first | exact congrArg _ HE6.out | rfl), ⟨by have := HJ2.out; have := HI2.out; omega⟩, ⟨okR_snoc HKS.out (.inl ⟨rfl, HMB.out⟩)⟩, ⟨by rw [snoc_len]; have := HKL.out; omega⟩, HO8, HB8⟩
                      · have e2 : decide (i < p.2.2.1.length) = false := decide_eq_false c2
                        have hk6 := (blk_cell HGI.out) 6
                        have HKI : Aside0 (ks.length ≤ 100) := ⟨by have := HKL.out; have := HJ2.out; have := HLS.out; omega⟩
                        obtain ⟨_, _, hoc⟩ := Kd.R_reads' HV.out.2.1
                        have HOC := Aside0.mk hoc
                        have HLO : Aside0 (s.op.length ≤ 100) := ⟨HM.out.bd.o⟩
                        clear c2 hoc
                        go_wp2_with (fail)
                        clear hk6 e2
                        go_loopg [13, 94] s.op.length (fun kq v13 v94 w' => ∃ (i : Nat) (ks : List (Int × Int)), v94 = .int .i64 (i : Int) ∧ Aside0 (i + kq = s.op.length) ∧ Aside0 (∀ q ∈ ks, okR s q) ∧ Aside0 (ks.length ≤ 100 + i) ∧ Aside0 (Kd.R kRc 39 w' wo.heap.size (fun _ => True) v13 ks) ∧ Aside0 (Below wo.heap.size wo w'))
                        case atStart => exact ⟨0, ks, rfl, ⟨by omega⟩, HKS, ⟨Nat.le_trans HKI.out (Nat.le_add_right _ _)⟩, HR, HBI⟩
                        case round =>
                          clear HJ2 HKS HKL HR HBI HGI HKI
                          obtain ⟨i, ks, rfl, HJ2, HKS, HKL, HR, HBI⟩ := hrel
                          have HGI := Aside0.mk (blk_below HG.out HBI.out)
                          by_cases c2 : i < s.op.length
                          · have e2 : decide (i < s.op.length) = true := decide_eq_true c2
                            have HI2 := Aside0.mk c2
                            have HE6 : Aside0 (wrap64 ((i : Int) + 1) = ((i + 1 : Nat) : Int)) := ⟨by have := HLO.out; unfold wrap64; omega⟩
                            obtain ⟨ad, ea, hx⟩ := at_int HOC.out i c2
                            cases ea
                            replace hx := pw_cell_below HBI.out hx
                            have hm : s.op.getD i 0 ∈ s.op := getD_mem c2 _
                            obtain ⟨x, hxx⟩ : ∃ x, s.op.getD i 0 = x := ⟨_, rfl⟩
                            rw [hxx] at hx hm
                            have HXM := Aside0.mk hm
                            have hk1 := (blk_cell HGI.out) 1
                            clear hm hxx
                            cases hp2 : (s.ph != 2) with
                            | false =>
                              go_wp2_with (fail)
                              go_roundg (gk - 1)
                              case measure => have := HJ2.out; have := HI2.out; omega
                              case rel => exact ⟨i + 1, ks, (by first | exact congrArg _ HE6.out | rfl), ⟨by have := HJ2.out; have := HI2.out; omega⟩, HKS, ⟨Nat.le_succ_of_le HKL.out⟩, HR, HBI⟩
                            | true =>
                              have HP2' : Aside0 (s.ph ≠ 2) := ⟨by simpa using hp2⟩
                              obtain ⟨A13, c13, rfl⟩ := Kd.R_slice HR.out
                              go_wp2_with (first
                                | ((with_reducible refine gate_dst (N := 104) rfl ?_); refine Kd.R_lit kRc wr.heap.size 39 ?hg (N := 104) ?hd (xs := [((3 : Int), x)]) (inner := [.int .i64 3, .int .i64 x, .slice none 0 0, .slice none 0 0, .slice none 0 0, .slice none 0 0]) (ok := fun k => True ∧ some k ≠ (Value.slice A13 ks.length c13).ownBlock) (okp := fun k => True ∧ some k ≠ (Value.slice A13 ks.length c13).ownBlock) ?hr ?hp (fun _ hk => hk) ⟨trivial, R_fresh HR.out⟩ (Below.refl _ _) (Nat.le_refl _) (by simp) ?_; (case hd => rfl); (case hg => rfl); (case hr => first | (go_simp; done) | (go_simp; rfl)); (case hp => exact reps1 (show Kd.M kRc _ _ _ ((3 : Int), x) [.int .i64 3, .int .i64 x, .slice none 0 0, .slice none 0 0, .slice none 0 0, .slice none 0 0] from rfl) rfl); intro v43 w7 ho hb hg_ hnew_; clear hg_ hnew_; obtain ⟨A43, c43, rfl, hcl43, hC43⟩ := OwnRow.reads ho.2; have HC43 := Aside0.mk hC43; have HO1 := Aside0.mk (Kd.R_below HR.out hb); have HB7 := Aside0.mk (below_step HBI.out hb); clear ho hb hC43 hcl43)
                                | ((with_reducible refine gate_builtin (b := .append) (xs := #[.tmp 101, .tmp 104]) rfl ?_); at_builtin; refine Halt.out ?_))
                              unfold Halt
                              refine Kd.R_append_rows kRc (w0 := wo) wo.heap.size rfl (.tmp 101) (.tmp 104) 41 39 (.agg #[.int .i64 0, .int .i64 0, .slice none 0 0, .slice none 0 0, .slice none 0 0, .slice none 0 0]) 112 rfl (by kernel_rfl) info_rec rfl (by decide) (by decide) (.slice A13 ks.length c13) ks [((3 : Int), x)] A43 1 c43 (fun _ => True) (fun k => (True ∧ some k ≠ (Value.slice A13 ks.length c13).ownBlock) ∧ some k ≠ (Value.slice A43 [((3 : Int), x)].length c43).ownBlock) rfl rfl HO1.out HC43.out (fun _ _ h => h) (fun k hk => ⟨trivial, hk.1.2⟩) (fun _ _ => trivial) HB7.out (below_size HB7.out) (by have := HKL.out; have := HI2.out; have := HLO.out; omega) ?_
                              intro v44 w8 ho hb hgr hat
                              have HO8 := Aside0.mk ho
                              have HB8 := Aside0.mk hb
                              clear ho hb hgr hat
                              go_wp2_with (fail)
                              go_roundg (gk - 1)
                              case measure => have := HJ2.out; have := HI2.out; omega
                              case rel => exact ⟨i + 1, ks ++ [((3 : Int), x)], (by first | exact congrArg _ HE6.out | rfl), ⟨by have := HJ2.out; have := HI2.out; omega⟩, ⟨okR_snoc HKS.out (.inr ⟨rfl, HXM.out, HP2'.out⟩)⟩, ⟨by rw [snoc_len]; have := HKL.out; omega⟩, HO8, HB8⟩
                          · have e2 : decide (i < s.op.length) = false := decide_eq_false c2
                            have HLW : Aside0 (w3.heap.size < wo.heap.size) := ⟨(Array.getElem?_eq_some_iff.1 HG.out).1⟩
                            obtain ⟨A13, c13, rfl⟩ := Kd.R_slice HR.out
                            clear c2
                            by_cases c3 : ks.length = 0
                            · have e3 : ((ks.length : Int) == 0) = true := by rw [c3]; rfl
                              clear c3
                              go_wp2_with (fail)
                              go_meet
                              exact ⟨s, ⟨⟨.slice Azf s.pl.1.length czf, .slice Azt s.pl.2.1.length czt, .slice Azs s.pl.2.2.1.length czs, .slice Azb s.pl.2.2.2.length czb⟩, .slice Azo s.op.length czo, .slice Azd s.dn.length czd⟩, HM, HMK, ⟨by rw [HSV.out]; exact HGI.out⟩, ⟨HV.out.below HBI.out⟩, ⟨below_step HB.out HBI.out⟩⟩
                            · have e3 : ((ks.length : Int) == 0) = false := by rw [beq_eq_false_iff_ne]; omega
                              have HL0 : Aside0 (0 < ks.length) := ⟨by omega⟩
                              have hne : ks ≠ [] := fun e => c3 (by rw [e]; rfl)
                              obtain ⟨_, _, hKC⟩ := Kd.R_reads' HR.out
                              have HKC2 := Aside0.mk hKC
                              clear c3 hKC
                              go_upto_if 113 with (fail)
                              go_cut [17] (fun v17 wx => ∃ kk : Int, v17 = .int .i64 (kk.tmod (ks.length : Int)) ∧ wx = wr)
                              case first =>
                                by_cases c4 : n < ps.length
                                · have e4 : decide (n < ps.length) = true := decide_eq_true c4
                                  obtain ⟨ad, ea, hx⟩ := at_int HKC.out n c4
                                  cases ea
                                  replace hx := pw_cell_below (below_step HB3.out (below_step HB.out HBI.out)) hx
                                  go_wp2_with (fail)
                                  go_meet
                                  exact ⟨_, rfl, rfl⟩
                                · have e4 : decide (n < ps.length) = false := decide_eq_false c4
                                  go_wp2_with (fail)
                                  go_meet
                                  exact ⟨0, by rw [Int.zero_tmod], rfl⟩
                              case rest =>
                                obtain ⟨kk, rfl, rfl⟩ := hcut
                                obtain ⟨t, ht, q, hq, hqq⟩ := pick_ix kk ks.length HL0.out (by have := HKL.out; have := HJ2.out; have := HLO.out; omega)
                                have HQQ := Aside0.mk hqq
                                obtain ⟨ad3, ea, hx0, hx1, hx2, hx3, hx4, hx5⟩ := rc_at HKC2.out q hq
                                cases ea
                                have hok := HKS.out _ (getD_mem hq (0, 0))
                                obtain ⟨⟨rk, rx⟩, hxx⟩ : ∃ x, ks.getD q (0, 0) = x := ⟨_, rfl⟩
                                rw [hxx] at hx0 hx1 hok
                                dsimp only at hx0 hx1
                                obtain ⟨s2, htk, hm, hme⟩ := HM.out.pick hok
                                have HM2 := Aside0.mk hm
                                have HME2 := Aside0.mk (hme.trans (congrArg (· + 1) HME.out))
                                have K := Aside0.mk (Thr1_T w3.heap.size ⟨⟨.slice Azf s.pl.1.length czf, .slice Azt s.pl.2.1.length czt, .slice Azs s.pl.2.2.1.length czs, .slice Azb s.pl.2.2.2.length czb⟩, .slice Azo s.op.length czo, .slice Azd s.dn.length czd⟩ s s2 rk rx wc (HT.out.below (below_step HB3.out (below_step HB.out HBI.out))) (by rw [HSV.out]; exact HGI.out) (HV.out.below HBI.out) (HM.out.bd.le (by decide)) htk)
                                rw [ht]
                                clear hqq hok hxx htk hm hme ht
                                rcases HQQ.out with ⟨hq1, hq2⟩ | ⟨hq1, hq2, hq3, hq4⟩
                                · go_wp2_with (fail)
                                  refine K.out.mono ?_
                                  rintro e w5 ⟨V5, rfl, hg, hv, hb⟩
                                  have HG5 := Aside0.mk hg
                                  have HV5 := Aside0.mk hv
                                  have HB5 := Aside0.mk (HB.out.trans ((HBI.out.mono (Nat.le_of_lt HLW.out)).trans hb))
                                  clear K hg hv hb hx0 hx1 hx2 hx3 hx4 hx5
                                  go_wp2_with (fail)
                                  go_roundg (ko - 1)
                                  case measure => have := HJ.out; have := HI.out; omega
                                  case rel => exact ⟨n + 1, s2, V5, (by first | exact congrArg _ HE5.out | rfl), ⟨by have := HJ.out; have := HI.out; omega⟩, HM2, HME2, HG5, HV5, HB5⟩
                                · rw [← hq4] at hx0 hx1 hx2 hx3 hx4 hx5
                                  clear hq4 hq
                                  go_wp2_with (fail)
                                  refine K.out.mono ?_
                                  rintro e w5 ⟨V5, rfl, hg, hv, hb⟩
                                  have HG5 := Aside0.mk hg
                                  have HV5 := Aside0.mk hv
                                  have HB5 := Aside0.mk (HB.out.trans ((HBI.out.mono (Nat.le_of_lt HLW.out)).trans hb))
                                  clear K hg hv hb hx0 hx1 hx2 hx3 hx4 hx5
                                  go_wp2_with (fail)
                                  go_roundg (ko - 1)
                                  case measure => have := HJ.out; have := HI.out; omega
                                  case rel => exact ⟨n + 1, s2, V5, (by first | exact congrArg _ HE5.out | rfl), ⟨by have := HJ.out; have := HI.out; omega⟩, HM2, HME2, HG5, HV5, HB5⟩
            · have h1 := HM.out.mea
              have h2 := HME.out
              have h3 := HJ.out
              omega
        case rest =>
          clear HG4 HV4 HW4 HV3 HP4 HB4 HD0 HM0 HO0
          obtain ⟨s, V, HM, HMK, HG, HV, HB⟩ := hcut
          have HLS := Aside0.mk (okPlan_le HOK.out)
          go_upto_block 6 with (fail)
          go_cut [] (fun wx => ∃ (s : SS) (V : SV), Aside0 (Th p s) ∧ Aside0 (s.ph = 1 → marks s = false) ∧ Aside0 (s.ph = 2 → s.op.length + s.dn.length = 0) ∧ Aside0 (wx.heap[w3.heap.size]? = some (.cells (stv V s) 34 (0, 0))) ∧ Aside0 (StR wx 0 V s) ∧ Aside0 (Below w3.heap.size w3 wx))
          case first =>
            go_wp2_with (fail)
            go_loopg [] (s.op.length + s.dn.length) (fun kq w' => ∃ (s : SS) (V : SV), Aside0 (s.op.length + s.dn.length = kq) ∧ Aside0 (Th p s) ∧ Aside0 (s.ph = 1 → marks s = false) ∧ Aside0 (w'.heap[w3.heap.size]? = some (.cells (stv V s) 34 (0, 0))) ∧ Aside0 (StR w' 0 V s) ∧ Aside0 (Below w3.heap.size w3 w'))
            case atStart => exact ⟨s, V, ⟨rfl⟩, HM, HMK, HG, HV, HB⟩
            case round =>
              clear HM HMK HG HV HB
              obtain ⟨s, V, HJ, HM, HMK, HG, HV, HB⟩ := hrel
              obtain ⟨Azf, czf, Azt, czt, Azs, czs, Azb, czb, Azo, czo, Azd, czd, rfl⟩ := HV.out.opened
              have hstv : stv ⟨⟨.slice Azf s.pl.1.length czf, .slice Azt s.pl.2.1.length czt, .slice Azs s.pl.2.2.1.length czs, .slice Azb s.pl.2.2.2.length czb⟩, .slice Azo s.op.length czo, .slice Azd s.dn.length czd⟩ s = #[.int .i64 s.num, .int .i64 s.ph, .slice Azf s.pl.1.length czf, .slice Azt s.pl.2.1.length czt, .slice Azs s.pl.2.2.1.length czs, .slice Azb s.pl.2.2.2.length czb, .slice Azo s.op.length czo, .slice Azd s.dn.length czd] := rfl
              have HSV := Aside0.mk hstv
              rw [hstv] at HG
              clear hstv
              have hk1 := (blk_cell HG.out) 1
              have hk6 := (blk_cell HG.out) 6
              have hk7 := (blk_cell HG.out) 7
              cases hph : (s.ph == 2) with
              | false =>
                have HPH : Aside0 (s.ph ≠ 2) := ⟨by simpa using hph⟩
                go_wp2_with (fail)
                go_meet
                exact ⟨s, ⟨⟨.slice Azf s.pl.1.length czf, .slice Azt s.pl.2.1.length czt, .slice Azs s.pl.2.2.1.length czs, .slice Azb s.pl.2.2.2.length czb⟩, .slice Azo s.op.length czo, .slice Azd s.dn.length czd⟩, HM, HMK, ⟨fun h => absurd h HPH.out⟩, ⟨by rw [HSV.out]; exact HG.out⟩, HV, HB⟩
              | true =>
                have HPH : Aside0 (s.ph = 2) := ⟨by simpa using hph⟩
                obtain ⟨L, hL⟩ : ∃ L, s.op.length + s.dn.length = L := ⟨_, rfl⟩
                have HL := Aside0.mk hL
                have hsum : wrap64 ((s.op.length : Int) + (s.dn.length : Int)) = (L : Int) := by have := HM.out.bd.o; have := HM.out.bd.d; unfold wrap64; omega
                clear hL
                by_cases c1 : 0 < L
                · have e1 : decide ((0 : Int) < (L : Int)) = true := decide_eq_true (by omega)
                  obtain ⟨x, s2, hT, htk, hm, hp2, hlt⟩ := HM.out.undo HPH.out (by have := HL.out; omega)
                  have HM2 := Aside0.mk hm
                  have HP2 := Aside0.mk hp2
                  have HLT2 := Aside0.mk hlt
                  have K0 := Aside0.mk (Top_T ⟨⟨.slice Azf s.pl.1.length czf, .slice Azt s.pl.2.1.length czt, .slice Azs s.pl.2.2.1.length czs, .slice Azb s.pl.2.2.2.length czb⟩, .slice Azo s.op.length czo, .slice Azd s.dn.length czd⟩ s wr HV.out.c (Nat.le_trans HM.out.bd.o (by decide)) (Nat.le_trans HM.out.bd.d (by decide)))
                  rw [HSV.out, hT] at K0
                  have K := Aside0.mk (fun W (hb : Below wr.heap.size wr W) => Thr1_T w3.heap.size ⟨⟨.slice Azf s.pl.1.length czf, .slice Azt s.pl.2.1.length czt, .slice Azs s.pl.2.2.1.length czs, .slice Azb s.pl.2.2.2.length czb⟩, .slice Azo s.op.length czo, .slice Azd s.dn.length czd⟩ s s2 6 x W (HT.out.below (below_step HB3.out (below_step HB.out hb))) (by rw [HSV.out]; exact blk_below HG.out hb) (HV.out.below hb) (HM.out.bd.le (by decide)) htk)
                  clear hT htk hm hp2 hlt hk1 hk6 hk7
                  have HLW : Aside0 (w3.heap.size < wr.heap.size) := ⟨(Array.getElem?_eq_some_iff.1 HG.out).1⟩
                  have hg0 := (blk_cell HG.out) 0
                  have hg1 := (blk_cell HG.out) 1
                  have hg2 := (blk_cell HG.out) 2
                  have hg3 := (blk_cell HG.out) 3
                  have hg4 := (blk_cell HG.out) 4
                  have hg5 := (blk_cell HG.out) 5
                  have hg6 := (blk_cell HG.out) 6
                  have hg7 := (blk_cell HG.out) 7
                  go_wp2_with (fail)
                  refine K0.out.mono ?_
                  rintro e w5 ⟨rfl, hb⟩
                  have K2 := Aside0.mk (K.out w5 hb)
                  have HB5 := Aside0.mk (below_step HB.out hb)
                  clear K0 K hb hg0 hg1 hg2 hg3 hg4 hg5 hg6 hg7
                  go_wp2_with (fail)
                  refine K2.out.mono ?_
                  rintro e w6 ⟨V6, rfl, hg, hv, hb⟩
                  have HG6 := Aside0.mk hg
                  have HV6 := Aside0.mk hv
                  have HB6 := Aside0.mk (HB5.out.trans hb)
                  clear K2 hg hv hb
                  go_wp2_with (fail)
                  go_roundg (s2.op.length + s2.dn.length)
                  case measure => have := HJ.out; have := HLT2.out; omega
                  case rel => exact ⟨s2, V6, ⟨rfl⟩, HM2, ⟨fun h => by rw [HP2.out] at h; omega⟩, HG6, HV6, HB6⟩
                · have e1 : decide ((0 : Int) < (L : Int)) = false := decide_eq_false (by omega)
                  have HL2 : Aside0 (s.op.length + s.dn.length = 0) := ⟨by have := HL.out; omega⟩
                  go_wp2_with (fail)
                  go_meet
                  exact ⟨s, ⟨⟨.slice Azf s.pl.1.length czf, .slice Azt s.pl.2.1.length czt, .slice Azs s.pl.2.2.1.length czs, .slice Azb s.pl.2.2.2.length czb⟩, .slice Azo s.op.length czo, .slice Azd s.dn.length czd⟩, HM, HMK, ⟨fun _ => HL2.out⟩, ⟨by rw [HSV.out]; exact HG.out⟩, HV, HB⟩
          case rest =>
            clear HM HMK HG HV HB
            obtain ⟨s, V, HM, HMK, HND, HG, HV, HB⟩ := hcut
            obtain ⟨Azf, czf, Azt, czt, Azs, czs, Azb, czb, Azo, czo, Azd, czd, rfl⟩ := HV.out.opened
            have hstv : stv ⟨⟨.slice Azf s.pl.1.length czf, .slice Azt s.pl.2.1.length czt, .slice Azs s.pl.2.2.1.length czs, .slice Azb s.pl.2.2.2.length czb⟩, .slice Azo s.op.length czo, .slice Azd s.dn.length czd⟩ s = #[.int .i64 s.num, .int .i64 s.ph, .slice Azf s.pl.1.length czf, .slice Azt s.pl.2.1.length czt, .slice Azs s.pl.2.2.1.length czs, .slice Azb s.pl.2.2.2.length czb, .slice Azo s.op.length czo, .slice Azd s.dn.length czd] := rfl
            have HSV := Aside0.mk hstv
            rw [hstv] at HG
            clear hstv
            have hg0 := (blk_cell HG.out) 0
            have hg1 := (blk_cell HG.out) 1
            have hg2 := (blk_cell HG.out) 2
            have hg3 := (blk_cell HG.out) 3
            have hg4 := (blk_cell HG.out) 4
            have hg5 := (blk_cell HG.out) 5
            have hg6 := (blk_cell HG.out) 6
            have hg7 := (blk_cell HG.out) 7
            cases hph : (s.ph == 1) with
            | true =>
              have hmk := HMK.out (by simpa using hph)
              have K0 := Aside0.mk (Marks_T ⟨⟨.slice Azf s.pl.1.length czf, .slice Azt s.pl.2.1.length czt, .slice Azs s.pl.2.2.1.length czs, .slice Azb s.pl.2.2.2.length czb⟩, .slice Azo s.op.length czo, .slice Azd s.dn.length czd⟩ s wc HV.out.c (by rw [HM.out.pl]; exact HOK.out) (Nat.le_trans HM.out.bd.d (by decide)))
              rw [HSV.out, hmk] at K0
              clear hmk
              go_wp2_with (fail)
              refine K0.out.mono ?_
              rintro e w5 ⟨rfl, hb⟩
              have HB5 := Aside0.mk (below_step HB.out hb)
              clear K0 hb hg0 hg1 hg2 hg3 hg4 hg5 hg6 hg7
              go_wp2
              go_ret
              exact ⟨rfl, below_step HB3.out HB5.out⟩
            | false =>
              have HPH : Aside0 (s.ph ≠ 1) := ⟨by simpa using hph⟩
              have HPW := Aside0.mk (blk_below HP3.out HB.out)
              have hp2 := (blk_cell HPW.out) 2
              have HLW : Aside0 (w3.heap.size < wc.heap.size) := ⟨(Array.getElem?_eq_some_iff.1 HG.out).1⟩
              by_cases c1 : s.ph = 3 ∧ s.dn.length < p.2.2.1.length
              · obtain ⟨c1, c2⟩ := c1
                have e3 : (s.ph == 3) = true := by rw [c1]; rfl
                have e4 : decide (s.dn.length < p.2.2.1.length) = true := decide_eq_true c2
                have hen := HM.out.not_ends c1 c2
                have K0 := Aside0.mk (Ends_T ⟨⟨.slice Azf s.pl.1.length czf, .slice Azt s.pl.2.1.length czt, .slice Azs s.pl.2.2.1.length czs, .slice Azb s.pl.2.2.2.length czb⟩, .slice Azo s.op.length czo, .slice Azd s.dn.length czd⟩ s wc HV.out.c (by rw [HM.out.pl]; exact HOK.out) (Nat.le_trans HM.out.bd.o (by decide)) (Nat.le_trans HM.out.bd.d (by decide)))
                rw [HSV.out, hen] at K0
                clear hen c1 c2
                go_wp2_with (fail)
                refine K0.out.mono ?_
                rintro e w5 ⟨rfl, hb⟩
                have HB5 := Aside0.mk (below_step HB.out hb)
                clear K0 hb hg0 hg1 hg2 hg3 hg4 hg5 hg6 hg7
                go_wp2
                go_ret
                exact ⟨rfl, below_step HB3.out HB5.out⟩
              · have hen := HM.out.ends HPH.out HND.out (fun h h2 => c1 ⟨h, h2⟩)
                obtain ⟨s2, htk, hp2', hp⟩ := HM.out.fin hen
                have K := Aside0.mk (Thr1_T w3.heap.size ⟨⟨.slice Azf s.pl.1.length czf, .slice Azt s.pl.2.1.length czt, .slice Azs s.pl.2.2.1.length czs, .slice Azb s.pl.2.2.2.length czb⟩, .slice Azo s.op.length czo, .slice Azd s.dn.length czd⟩ s s2 8 0 wc (HT.out.below (below_step HB3.out HB.out)) (by rw [HSV.out]; exact HG.out) HV.out (HM.out.bd.le (by decide)) htk)
                have HP2 := Aside0.mk hp2'
                have HPP := Aside0.mk hp
                have HC1 := Aside0.mk c1
                clear hen htk hp2' hp c1
                by_cases c3 : s.ph = 3
                · have e3 : (s.ph == 3) = true := by rw [c3]; rfl
                  have e4 : decide (s.dn.length < p.2.2.1.length) = false := decide_eq_false (fun h => HC1.out ⟨c3, h⟩)
                  have e5 : (s2.ph == 4) = true := by rw [HP2.out, if_pos c3]; rfl
                  clear c3
                  go_wp2_with (fail)
                  refine K.out.mono ?_
                  rintro e w5 ⟨V5, rfl, hg, hv, hb⟩
                  have hh1 := (blk_cell hg) 1
                  have HB5 := Aside0.mk (HB.out.trans hb)
                  clear K hg hv hb hg0 hg1 hg2 hg3 hg4 hg5 hg6 hg7
                  unfold stv at hh1
                  go_wp2_with (fail)
                  go_ret
                  exact ⟨rfl, below_step HB3.out HB5.out⟩
                · have e3 : (s.ph == 3) = false := by simpa using c3
                  have e4 : (s.ph == 2) = true := by
                    rcases HPP.out with h | h
                    · exact absurd h c3
                    · rw [h]; rfl
                  have e5 : (s2.ph == 5) = true := by rw [HP2.out, if_neg c3]; rfl
                  clear c3
                  go_wp2_with (fail)
                  refine K.out.mono ?_
                  rintro e w5 ⟨V5, rfl, hg, hv, hb⟩
                  have hh1 := (blk_cell hg) 1
                  have HB5 := Aside0.mk (HB.out.trans hb)
                  clear K hg hv hb hg0 hg1 hg2 hg3 hg4 hg5 hg6 hg7
                  unfold stv at hh1
                  go_wp2_with (fail)
                  go_ret
                  exact ⟨rfl, below_step HB3.out HB5.out⟩
      · have e2 : (E1 != 0) = true := by simpa using hz
        have hs0 : s1 = ss0 := by have h := take_bad (s := ss0) (r := ⟨1, 0, p⟩) (by rw [HTK.out]; exact hz); rw [HTK.out] at h; exact h
        have e3 : (s1.ph == 0) = true := by rw [hs0]; rfl
        have hk1 := (blk_cell HG4.out) 1
        clear hz hs0
        go_wp2
        go_ret
        exact ⟨rfl, HB4.out⟩
end Go.Proofs.YtplhihakeodadaaDoor.Sg
