/- saga: the law SagaMirrors, walked. (written by gen_mir.py) -/
import Derived.Test.YtplhihakeodadaaDoorSgMi
import Derived.Test.YtplhihakeodadaaDoorSgFun7
namespace Go.Proofs.YtplhihakeodadaaDoor.Sg
open Go Go.RowKit Go.Proofs.YtplhihakeodadaaDoorW.PrintWords Go.Proofs.YtplhihakeodadaaDoorW.PrintLast Go.Proofs.YtplhihakeodadaaDoorW.PrintMore
set_option linter.unusedVariables false
set_option linter.unusedSimpArgs false
theorem pick_ix (k : Int) (n : Nat) (h0 : 0 < n) (hn : n ≤ 1000000) : ∃ t : Int, k.tmod n = t ∧ ∃ q : Nat, q < n ∧ ((t < (q : Int) ∧ wrap64 (-t) = (q : Int)) ∨ (¬ t < wrap64 (-t) ∧ 0 ≤ t ∧ t < (n : Int) ∧ t.toNat = q)) := by
  have h1 := Int.tmod_lt_of_pos k (show (0 : Int) < n by omega)
  have h2 : -(n : Int) < k.tmod n := by
    have h3 := Int.tmod_lt_of_pos (-k) (show (0 : Int) < n by omega)
    rw [Int.neg_tmod] at h3
    omega
  obtain ⟨t, ht⟩ : ∃ t, k.tmod n = t := ⟨_, rfl⟩
  rw [ht] at h1 h2
  have hw : wrap64 (-t) = -t := by unfold wrap64; omega
  refine ⟨t, ht, ?_⟩
  rw [hw]
  by_cases c : t < -t
  · exact ⟨(-t).toNat, by omega, .inl ⟨by omega, by omega⟩⟩
  · exact ⟨t.toNat, by omega, .inr ⟨c, by omega, by omega, rfl⟩⟩
theorem Mi.step2 {p : Pln} {s : SS} {x : Int} (h : Mi p s) (hm : may s x = true) : ∃ t1 t2 : SS, take s ⟨2, x, pl0⟩ = (t1, 0) ∧ take t1 ⟨3, x, pl0⟩ = (t2, 0) ∧ Mi p t2 ∧ Bd 100 t1 ∧ t2.dn = s.dn ++ [x] := by
  obtain ⟨h1, h2, h3, h4⟩ := h.step hm
  exact ⟨_, _, h1, h2, h3, h4, rfl⟩
theorem StR_over {W w1 : World} {b b' : Nat} {V : SV} {s : SS} {v : Value} {xs : List Int} (h : StR W b V s) (hv : Kd.R kU 56 W b' (fun _ => True) v xs) (hg : W.grownBy w1 v.ownBlock) : StR w1 b V s :=
  ⟨⟨Kd.R_over h.1.1 hv (by decide) hg, Kd.R_over h.1.2.1 hv (by decide) hg, Kd.R_over h.1.2.2.1 hv (by decide) hg, Kd.R_over h.1.2.2.2 hv (by decide) hg⟩, Kd.R_over h.2.1 hv (by decide) hg, Kd.R_over h.2.2 hv (by decide) hg⟩
theorem R_sets {α : Type} {K : Kd α} {E base z T : Nat} {ok : Nat → Prop} {v : Value} {xs : List α} (hT : ∀ q, q ∈ E :: K.E → q ≠ T) : ∀ (l : List (Nat × Value)) (W : World) (cs : Array Value), W.heap[z]? = some (.cells cs T (0, 0)) → Kd.R K E W base ok v xs → Kd.R K E (sets z W l) base ok v xs
  | [], W, cs, hz, h => h
  | p :: l, W, cs, hz, h => R_sets hT l _ _ (box_set hz p.2) (Kd.R_set h hz hT p.1 p.2)
set_option maxHeartbeats 32000000 in
set_option maxRecDepth 20000 in
theorem SagaMirrors_main (p : Pln) (V : PV) (ps : List Int) (A : Option Addr) (c : Nat) (w : World) (hT : TabW w) (h : PlC w V p) (hk : Kd.C kI w A ps.length ps) (hl : ps.length ≤ 9223372036854775807) :
    Calls Tryd.prog 6 #[.agg (plv V), .slice A ps.length c] w fun e w' => e = .returned (.bool true) ∧ Below w.heap.size w w' := by
  obtain ⟨Af, cf, At, ct, As, cs, Ab, cb, rfl, hST⟩ := h.opened'
  unfold plv
  dsimp only
  have hb0 := below_alloc (Below.refl w.heap.size w) (.cells #[.slice Af p.1.length cf, .slice At p.2.1.length ct, .slice As p.2.2.1.length cs, .slice Ab p.2.2.2.length cb] 26)
  have hg0 := heap_last w (.cells #[.slice Af p.1.length cf, .slice At p.2.1.length ct, .slice As p.2.2.1.length cs, .slice Ab p.2.2.2.length cb] 26)
  obtain ⟨W0, hW0⟩ : ∃ W, w.alloc (.cells #[.slice Af p.1.length cf, .slice At p.2.1.length ct, .slice As p.2.2.1.length cs, .slice Ab p.2.2.2.length cb] 26) = W := ⟨_, rfl⟩
  rw [hW0] at hb0 hg0
  have HT := Aside0.mk hT
  have HPC := Aside0.mk h
  have HKC := Aside0.mk hk
  have HLM := Aside0.mk hl
  have HB0 := Aside0.mk hb0
  have HP0 := Aside0.mk hg0
  have K1 := Aside0.mk (anchor_T W0 (hT.below hb0))
  clear hT h hk hl hb0 hg0 hST
  go_enter Tryd.func6, Tryd.ntmps6
  go_upto_region 1 with (fail)
  clear hW0
  go_wp2_with (fail)
  refine K1.out.mono ?_
  rintro e w1 ⟨rfl, hb⟩
  have HB1 := Aside0.mk (below_step HB0.out hb)
  have HP1 := Aside0.mk (blk_below HP0.out hb)
  have K2 := Aside0.mk (Plan_T ⟨.slice Af p.1.length cf, .slice At p.2.1.length ct, .slice As p.2.2.1.length cs, .slice Ab p.2.2.2.length cb⟩ p w1 (HPC.out.below HB1.out))
  unfold plv at K2
  unfold Planned at K2
  dsimp only at K2
  obtain ⟨B, hB⟩ : ∃ B, okPlan p = B := ⟨_, rfl⟩
  simp only [hB] at K2
  have HOK := Aside0.mk hB
  have hp0 := (blk_cell HP1.out) 0
  have hp1 := (blk_cell HP1.out) 1
  have hp2 := (blk_cell HP1.out) 2
  have hp3 := (blk_cell HP1.out) 3
  clear K1 hb hB
  go_wp2_with (fail)
  refine K2.out.mono ?_
  rintro e w2 ⟨A5, n5, c5, rfl, -, hb⟩
  have hb2 := below_alloc (Below.refl w2.heap.size w2) (.cells #[.slice Af p.1.length cf, .slice At p.2.1.length ct, .slice A5 n5 c5, .slice Ab p.2.2.2.length cb] 30)
  have HB2 := Aside0.mk (below_step (below_step HB1.out hb) hb2)
  have HP2 := Aside0.mk (blk_below (blk_below HP1.out hb) hb2)
  clear K2 hb hb2 hp0 hp1 hp2 hp3
  cases B with
  | false =>
    go_wp2
    go_ret
    exact ⟨rfl, HB2.out⟩
  | true =>
    by_cases c1 : 40 < ps.length
    · have e1 : decide ((40 : Int) < (ps.length : Int)) = true := decide_eq_true (by omega)
      go_wp2
      go_ret
      exact ⟨rfl, HB2.out⟩
    · have e1 : decide ((40 : Int) < (ps.length : Int)) = false := decide_eq_false (by omega)
      have HL : Aside0 (ps.length ≤ 40) := ⟨by omega⟩
      obtain ⟨W2, hW2⟩ : ∃ W, w2.alloc (.cells #[.slice Af p.1.length cf, .slice At p.2.1.length ct, .slice A5 n5 c5, .slice Ab p.2.2.2.length cb] 30) = W := ⟨_, rfl⟩
      rw [hW2] at HB2 HP2
      have K3 := Aside0.mk (Take_T sv0 ss0 ⟨.slice Af p.1.length cf, .slice At p.2.1.length ct, .slice As p.2.2.1.length cs, .slice Ab p.2.2.2.length cb⟩ ⟨1, 0, p⟩ W2 (HT.out.below HB2.out) (StR.zero W2 0).c (HPC.out.below HB2.out) HOK.out (Bd.zero _))
      obtain ⟨s1, hs1⟩ : ∃ s1, (take ss0 ⟨1, 0, p⟩).1 = s1 := ⟨_, rfl⟩
      obtain ⟨E1, hE1⟩ : ∃ E1, (take ss0 ⟨1, 0, p⟩).2 = E1 := ⟨_, rfl⟩
      rw [hs1, hE1] at K3
      unfold stv sv0 pv0 ss0 rrv at K3
      dsimp only at K3
      have HTK : Aside0 (take ss0 ⟨1, 0, p⟩ = (s1, E1)) := ⟨by rw [← hs1, ← hE1]⟩
      clear c1 hs1 hE1
      have hp0 := (blk_cell HP2.out) 0
      have hp1 := (blk_cell HP2.out) 1
      have hp2 := (blk_cell HP2.out) 2
      have hp3 := (blk_cell HP2.out) 3
      go_upto_region 6 with (fail)
      clear hW2
      go_wp2_with (fail)
      refine K3.out.mono ?_
      rintro e w3 ⟨V1, rfl, hr3, hb3⟩
      have hb3' := hb3.size
      obtain ⟨A1f, c1f, A1t, c1t, A1s, c1s, A1b, c1b, A1o, c1o, A1d, c1d, rfl⟩ := hr3.opened
      have HB3 := Aside0.mk (below_step HB2.out hb3)
      have HP3 := Aside0.mk (blk_below HP2.out hb3)
      have HV3 := Aside0.mk hr3
      clear K3 hr3 hb3 hp0 hp1 hp2 hp3
      have hb4 := below_alloc (Below.refl w3.heap.size w3) (.cells #[.int .i64 s1.num, .int .i64 s1.ph, .slice A1f s1.pl.1.length c1f, .slice A1t s1.pl.2.1.length c1t, .slice A1s s1.pl.2.2.1.length c1s, .slice A1b s1.pl.2.2.2.length c1b, .slice A1o s1.op.length c1o, .slice A1d s1.dn.length c1d] 34)
      have HB4 := Aside0.mk (below_step HB3.out hb4)
      have HP4 := Aside0.mk (blk_below HP3.out hb4)
      have HV4 := Aside0.mk ((HV3.out.lower (base' := 0) (Nat.zero_le _)).below hb4)
      have HW4 := Aside0.mk (HV3.out.below hb4)
      have HG4 := Aside0.mk (heap_last w3 (.cells #[.int .i64 s1.num, .int .i64 s1.ph, .slice A1f s1.pl.1.length c1f, .slice A1t s1.pl.2.1.length c1t, .slice A1s s1.pl.2.2.1.length c1s, .slice A1b s1.pl.2.2.2.length c1b, .slice A1o s1.op.length c1o, .slice A1d s1.dn.length c1d] 34))
      have HWS2 : Aside0 (W2.heap.size ≤ w3.heap.size) := ⟨hb3'⟩
      have HWS : Aside0 (w.heap.size ≤ w3.heap.size) := ⟨below_size HB3.out⟩
      clear hb4
      unfold stv
      dsimp only
      by_cases hz : E1 = 0
      · have e2 : (E1 != 0) = false := by simpa using hz
        obtain ⟨hs1, hbg⟩ := take_begin rfl HTK.out hz
        have HM0 : Aside0 (Mi p s1) := ⟨by rw [hs1]; exact Mi.start hbg HOK.out⟩
        have HD0 : Aside0 (s1.dn = []) := ⟨by rw [hs1]⟩
        clear hz hs1 hbg
        go_upto_block 0 with (fail)
        go_cut [9] (fun v9 wx => ∃ (s : SS) (V : SV), Aside0 (Mi p s) ∧ Aside0 (wx.heap[w3.heap.size]? = some (.cells (stv V s) 34 (0, 0))) ∧ Aside0 (StR wx 0 V s) ∧ Aside0 (Kd.R kU 56 wx w3.heap.size (fun _ => True) v9 (SM s.dn)) ∧ Aside0 (Below w3.heap.size w3 wx))
        case first =>
          have HBZ : Aside0 (Below w3.heap.size w3 (w3.alloc (.cells #[.int .i64 s1.num, .int .i64 s1.ph, .slice A1f s1.pl.1.length c1f, .slice A1t s1.pl.2.1.length c1t, .slice A1s s1.pl.2.2.1.length c1s, .slice A1b s1.pl.2.2.2.length c1b, .slice A1o s1.op.length c1o, .slice A1d s1.dn.length c1d] 34))) := ⟨below_alloc (Below.refl _ _) _⟩
          go_wp2_with (fail)
          go_loopg [9, 50] ps.length (fun kq v9 v50 w' => ∃ (j : Nat) (s : SS) (V : SV), v50 = .int .i64 (j : Int) ∧ Aside0 (j + kq = ps.length) ∧ Aside0 (Mi p s) ∧ Aside0 (w'.heap[w3.heap.size]? = some (.cells (stv V s) 34 (0, 0))) ∧ Aside0 (StR w' 0 V s) ∧ Aside0 (Kd.R kU 56 w' w3.heap.size (fun _ => True) v9 (SM s.dn)) ∧ Aside0 (Below w3.heap.size w3 w'))
          case atStart =>
            refine ⟨0, s1, ⟨⟨.slice A1f s1.pl.1.length c1f, .slice A1t s1.pl.2.1.length c1t, .slice A1s s1.pl.2.2.1.length c1s, .slice A1b s1.pl.2.2.2.length c1b⟩, .slice A1o s1.op.length c1o, .slice A1d s1.dn.length c1d⟩, rfl, ⟨by omega⟩, HM0, HG4, ⟨HW4.out.lower (Nat.zero_le _)⟩, ⟨?_⟩, HBZ⟩
            · rw [HD0.out]; exact Kd.R_nil _ _ _ _ _
          case round =>
            clear HBZ HG4 HV4 HW4 HV3 HD0 HM0
            obtain ⟨j, s, V, rfl, HJ, HM, HG, HV, HS, HB⟩ := hrel
            obtain ⟨Azf, czf, Azt, czt, Azs, czs, Azb, czb, Azo, czo, Azd, czd, rfl⟩ := HV.out.opened
            have hstv : stv ⟨⟨.slice Azf s.pl.1.length czf, .slice Azt s.pl.2.1.length czt, .slice Azs s.pl.2.2.1.length czs, .slice Azb s.pl.2.2.2.length czb⟩, .slice Azo s.op.length czo, .slice Azd s.dn.length czd⟩ s = #[.int .i64 s.num, .int .i64 s.ph, .slice Azf s.pl.1.length czf, .slice Azt s.pl.2.1.length czt, .slice Azs s.pl.2.2.1.length czs, .slice Azb s.pl.2.2.2.length czb, .slice Azo s.op.length czo, .slice Azd s.dn.length czd] := rfl
            have HSV := Aside0.mk hstv
            rw [hstv] at HG
            clear hstv
            by_cases c1 : j < ps.length
            · have e1 : decide (j < ps.length) = true := decide_eq_true c1
              have HI := Aside0.mk c1
              have HE5 : Aside0 (wrap64 ((j : Int) + 1) = ((j + 1 : Nat) : Int)) := ⟨by have := HL.out; unfold wrap64; omega⟩
              have HBW := Aside0.mk (below_step HB3.out HB.out)
              obtain ⟨ad, ea, hx⟩ := at_int HKC.out j c1
              cases ea
              replace hx := pw_cell_below HBW.out hx
              obtain ⟨kk, hkk⟩ : ∃ x, ps.getD j 0 = x := ⟨_, rfl⟩
              rw [hkk] at hx
              have HPW := Aside0.mk (blk_below HP3.out HB.out)
              have hp2 := (blk_cell HPW.out) 2
              have HLS := Aside0.mk (okPlan_le HOK.out)
              clear hkk
              go_wp2_with (fail)
              obtain ⟨ko, rfl⟩ : ∃ k, k = gk := ⟨_, rfl⟩
              obtain ⟨wo, rfl⟩ : ∃ W, W = wr := ⟨_, rfl⟩
              clear hx hp2 c1
              go_loopg [12, 57] p.2.2.1.length (fun kq v12 v57 w' => ∃ (i : Nat) (ks : List Int), v57 = .int .i64 (i : Int) ∧ Aside0 (i + kq = p.2.2.1.length) ∧ Aside0 (∀ x ∈ ks, may s x = true) ∧ Aside0 (ks.length ≤ i) ∧ Aside0 (Kd.R kI 3 w' wo.heap.size (fun _ => True) v12 ks) ∧ Aside0 (Below wo.heap.size wo w'))
              case atStart => exact ⟨0, [], rfl, ⟨by omega⟩, ⟨fun x hx => by cases hx⟩, ⟨Nat.le_refl _⟩, ⟨Kd.R_nil _ _ _ _ _⟩, ⟨Below.refl _ _⟩⟩
              case round =>
                obtain ⟨i, ks, rfl, HJ2, HKS, HKL, HR, HBI⟩ := hrel
                by_cases c2 : i < p.2.2.1.length
                · have e2 : decide (i < p.2.2.1.length) = true := decide_eq_true c2
                  have HI2 := Aside0.mk c2
                  have HE6 : Aside0 (wrap64 ((i : Int) + 1) = ((i + 1 : Nat) : Int)) := ⟨by have := HLS.out; unfold wrap64; omega⟩
                  have HGI := Aside0.mk (blk_below HG.out HBI.out)
                  have K := Aside0.mk (May_T ⟨⟨.slice Azf s.pl.1.length czf, .slice Azt s.pl.2.1.length czt, .slice Azs s.pl.2.2.1.length czs, .slice Azb s.pl.2.2.2.length czb⟩, .slice Azo s.op.length czo, .slice Azd s.dn.length czd⟩ s (i : Int) wr (HV.out.below HBI.out).c (by rw [HM.out.pl]; exact HOK.out) (by rw [HM.out.op]; simp) (by have := HM.out.len; omega))
                  rw [HSV.out] at K
                  obtain ⟨mb, hmb⟩ : ∃ b, may s (i : Int) = b := ⟨_, rfl⟩
                  rw [hmb] at K
                  have hi0 := (blk_cell HGI.out) 0
                  have hi1 := (blk_cell HGI.out) 1
                  have hi2 := (blk_cell HGI.out) 2
                  have hi3 := (blk_cell HGI.out) 3
                  have hi4 := (blk_cell HGI.out) 4
                  have hi5 := (blk_cell HGI.out) 5
                  have hi6 := (blk_cell HGI.out) 6
                  have hi7 := (blk_cell HGI.out) 7
                  have HMB := Aside0.mk hmb
                  clear c2 hmb
                  go_wp2_with (fail)
                  refine K.out.mono ?_
                  rintro e w4 ⟨rfl, hb⟩
                  have HB4' := Aside0.mk (below_step HBI.out hb)
                  have HR4 := Aside0.mk (Kd.R_below HR.out hb)
                  clear K hb hi0 hi1 hi2 hi3 hi4 hi5 hi6 hi7
                  cases mb with
                  | false =>
                    go_wp2_with (fail)
                    go_roundg (gk - 1)
                    case measure => have := HJ2.out; have := HI2.out; omega
                    case rel => exact ⟨i + 1, ks, (by first | exact congrArg _ HE6.out | rfl), ⟨by have := HJ2.out; have := HI2.out; omega⟩, HKS, ⟨Nat.le_succ_of_le HKL.out⟩, HR4, HB4'⟩
                  | true =>
                    obtain ⟨A12, c12, rfl⟩ := Kd.R_slice HR4.out
                    go_wp2_with (first
                      | ((with_reducible refine gate_dst (N := 65) rfl ?_); refine Kd.R_lit kI w4.heap.size 3 ?hg (N := 65) ?hd (xs := [(i : Int)]) (inner := [.int .i64 (i : Int)]) (ok := fun _ => True) (okp := fun _ => True) ?hr ?hp (fun _ hk => hk) trivial (Below.refl _ _) (Nat.le_refl _) (by simp) ?_; (case hd => rfl); (case hg => rfl); (case hr => first | (go_simp; done) | (go_simp; rfl)); (case hp => exact (Reps.one (show Kd.M kI _ _ _ (i : Int) [.int .i64 (i : Int)] from rfl) (Reps.none _ _))); intro v43 w7 ho hb hg_ hnew_; clear hg_ hnew_; obtain ⟨A43, c43, rfl, hcl43, hC43⟩ := Kd.R_reads ho; have HC43 := Aside0.mk hC43; have HO1 := Aside0.mk (Kd.R_below HR4.out hb); have HB7 := Aside0.mk (below_step HB4'.out hb); clear ho hb hC43 hcl43)
                      | ((with_reducible refine gate_builtin (b := .append) (xs := #[.tmp 63, .tmp 65]) rfl ?_); at_builtin; refine Kd.R_append_row (Value.int .i64) 0 (h1 := fun _ => rfl) (w0 := wo) wo.heap.size rfl (.tmp 63) (.tmp 65) 22 3 (.int .i64 0) 8 rfl Tryd.underlying22 info_int rfl (by decide) (.slice A12 ks.length c12) ks [(i : Int)] A43 1 c43 (fun _ => True) rfl rfl (fun _ _ => trivial) HO1.out HC43.out HB7.out (below_size HB7.out) (by have := HKL.out; have := HI2.out; have := HLS.out; omega) ?_; intro v44 w8 ho hb hgr hat; have HO8 := Aside0.mk ho; have HB8 := Aside0.mk hb; clear ho hb hgr hat))
                    go_roundg (gk - 1)
                    case measure => have := HJ2.out; have := HI2.out; omega
                    case rel => exact ⟨i + 1, ks ++ [(i : Int)], (by first | exact congrArg _ HE6.out | rfl), ⟨by have := HJ2.out; have := HI2.out; omega⟩, ⟨fun x hx => by
                      rcases List.mem_append.1 hx with hx | hx
                      · exact HKS.out x hx
                      · rw [List.mem_singleton] at hx; rw [hx]; exact HMB.out⟩, ⟨by rw [len_snoc']; have := HKL.out; omega⟩, HO8, HB8⟩
                · have e2 : decide (i < p.2.2.1.length) = false := decide_eq_false c2
                  obtain ⟨A12, c12, rfl⟩ := Kd.R_slice HR.out
                  have HGI := Aside0.mk (blk_below HG.out HBI.out)
                  clear c2
                  by_cases c3 : ks.length = 0
                  · have e3 : ((ks.length : Int) == 0) = true := by rw [c3]; rfl
                    clear c3
                    go_wp2_with (fail)
                    go_meet
                    exact ⟨s, ⟨⟨.slice Azf s.pl.1.length czf, .slice Azt s.pl.2.1.length czt, .slice Azs s.pl.2.2.1.length czs, .slice Azb s.pl.2.2.2.length czb⟩, .slice Azo s.op.length czo, .slice Azd s.dn.length czd⟩, HM, ⟨by rw [HSV.out]; exact HGI.out⟩, ⟨HV.out.below HBI.out⟩, ⟨Kd.R_below HS.out HBI.out⟩, ⟨below_step HB.out HBI.out⟩⟩
                  · have e3 : ((ks.length : Int) == 0) = false := by rw [beq_eq_false_iff_ne]; omega
                    have HL0 : Aside0 (0 < ks.length) := ⟨by omega⟩
                    have hne : ks ≠ [] := fun e => c3 (by rw [e]; rfl)
                    obtain ⟨_, _, hKC⟩ := Kd.R_reads' HR.out
                    have HKC2 := Aside0.mk hKC
                    clear c3 hKC
                    obtain ⟨t, ht, q, hq, hqq⟩ := pick_ix kk ks.length HL0.out (by have := HKL.out; have := HJ2.out; have := HLS.out; omega)
                    have HQ := Aside0.mk hq
                    have HQQ := Aside0.mk hqq
                    clear hq hqq
                    go_upto_region 22 with (fail)
                    clear ht
                    go_cut [15] (fun v15 wx => ∃ x : Int, Aside0 (may s x = true) ∧ v15 = .int .i64 x ∧ wx = wr)
                    case first =>
                      obtain ⟨ad3, ea, hx⟩ := at_int HKC2.out q HQ.out
                      cases ea
                      have HMX : Aside0 (may s (ks.getD q 0) = true) := ⟨HKS.out _ (getD_mem HQ.out _)⟩
                      obtain ⟨x, hxx⟩ : ∃ x, ks.getD q 0 = x := ⟨_, rfl⟩
                      rw [hxx] at hx HMX
                      rcases HQQ.out with ⟨hq1, hq2⟩ | ⟨hq1, hq2, hq3, hq4⟩
                      · have hq := HQ.out
                        go_wp2_with (fail)
                        go_meet
                        exact ⟨x, HMX, rfl, rfl⟩
                      · rw [← hq4] at hx
                        clear hq4
                        go_wp2_with (fail)
                        go_meet
                        exact ⟨x, HMX, rfl, rfl⟩
                    case rest =>
                      obtain ⟨x, HMX, rfl, rfl⟩ := hcut
                      have HGJ := Aside0.mk (blk_below HG.out HBI.out)
                      have HVJ := Aside0.mk (HV.out.below HBI.out)
                      have HSJ := Aside0.mk (Kd.R_below HS.out HBI.out)
                      have HBJ := Aside0.mk (below_step HB.out HBI.out)
                      have K := Aside0.mk (Reached_T ⟨⟨.slice Azf s.pl.1.length czf, .slice Azt s.pl.2.1.length czt, .slice Azs s.pl.2.2.1.length czs, .slice Azb s.pl.2.2.2.length czb⟩, .slice Azo s.op.length czo, .slice Azd s.dn.length czd⟩ s wc HVJ.out.c (by rw [HM.out.op]; simp) (by have := HM.out.len; omega) (fun k hk => by rw [HM.out.op] at hk; exact HM.out.in64 k hk))
                      rw [HSV.out, HM.out.reach] at K
                      obtain ⟨A9, c9, rfl⟩ := Kd.R_slice HSJ.out
                      have hm64 := maskOf_lt s.dn 64 (fun k hk => by have := HM.out.in64 k hk; omega)
                      obtain ⟨mk, hmk⟩ : ∃ m, maskOf s.dn = m := ⟨_, rfl⟩
                      rw [hmk] at K
                      have HMK := Aside0.mk hmk
                      clear HBI HKC2 HR hm64 hmk e3
                      have hj0 := (blk_cell HGJ.out) 0
                      have hj1 := (blk_cell HGJ.out) 1
                      have hj2 := (blk_cell HGJ.out) 2
                      have hj3 := (blk_cell HGJ.out) 3
                      have hj4 := (blk_cell HGJ.out) 4
                      have hj5 := (blk_cell HGJ.out) 5
                      have hj6 := (blk_cell HGJ.out) 6
                      have hj7 := (blk_cell HGJ.out) 7
                      go_wp2_with (first
                        | (go_at_call 29; refine K.out.mono ?_; rintro e w4 ⟨rfl, hb⟩; have HG4 := Aside0.mk (blk_below HGJ.out hb); have HV4 := Aside0.mk (HVJ.out.below hb); have HS4 := Aside0.mk (Kd.R_below HSJ.out hb); have HB4' := Aside0.mk (below_step HBJ.out hb); clear K hb hj0 hj1 hj2 hj3 hj4 hj5 hj6 hj7)
                        | ((with_reducible refine gate_dst (N := 85) rfl ?_); refine Kd.R_lit kU w4.heap.size 56 ?hg (N := 85) ?hd (xs := [((mk : Nat) : Int)]) (inner := [.int .u64 ((mk : Nat) : Int)]) (ok := fun _ => True) (okp := fun _ => True) ?hr ?hp (fun _ hk => hk) trivial (Below.refl _ _) (Nat.le_refl _) (by simp) ?_; (case hd => rfl); (case hg => rfl); (case hr => first | (go_simp; done) | (go_simp; rfl)); (case hp => exact (Reps.one (show Kd.M kU _ _ _ ((mk : Nat) : Int) [.int .u64 ((mk : Nat) : Int)] from rfl) (Reps.none _ _))); intro v43 w7 ho hb hg_ hnew_; clear hg_ hnew_; obtain ⟨A43, c43, rfl, hcl43, hC43⟩ := Kd.R_reads ho; have HC43 := Aside0.mk hC43; have HO1 := Aside0.mk (Kd.R_below HS4.out hb); have HG7 := Aside0.mk (blk_below HG4.out hb); have HV7 := Aside0.mk (HV4.out.below hb); have HB7 := Aside0.mk (below_step HB4'.out hb); clear ho hb hC43 hcl43)
                        | ((with_reducible refine gate_builtin (b := .append) (xs := #[.tmp 82, .tmp 85]) rfl ?_); at_builtin; refine Halt.out ?_))
                      unfold Halt
                      refine Kd.R_append_row (Value.int .u64) 0 (h1 := fun _ => rfl) (w0 := w3) w3.heap.size rfl (.tmp 82) (.tmp 85) 60 56 (.int .u64 0) 8 rfl Tryd.underlying60 info_u64 rfl (by decide) (.slice A9 (SM s.dn).length c9) (SM s.dn) [((mk : Nat) : Int)] A43 1 c43 (fun _ => True) rfl rfl (fun _ _ => trivial) HO1.out HC43.out HB7.out (below_size HB7.out) (by rw [SM_len]; have := HM.out.len; omega) ?_
                      intro v44 w8 ho hb hgr hat
                      have HO8 := Aside0.mk ho
                      have HB8 := Aside0.mk hb
                      have HG8 := Aside0.mk (blk_grown HG7.out hgr (Kd.R_ne HO1.out HG7.out (by decide)))
                      have HV8 := Aside0.mk (StR_over HV7.out HO1.out hgr)
                      clear ho hb hgr hat
                      obtain ⟨t1, t2, ht1, ht2, hm2, hbd, hdn⟩ := HM.out.step2 HMX.out
                      have HM2 := Aside0.mk hm2
                      have HBD := Aside0.mk hbd
                      have HDN := Aside0.mk hdn
                      have HT2 := Aside0.mk ht2
                      have K2 := Aside0.mk (Take_T ⟨⟨.slice Azf s.pl.1.length czf, .slice Azt s.pl.2.1.length czt, .slice Azs s.pl.2.2.1.length czs, .slice Azb s.pl.2.2.2.length czb⟩, .slice Azo s.op.length czo, .slice Azd s.dn.length czd⟩ s pv0 ⟨2, x, pl0⟩ w8 (HT.out.below (below_step HB3.out HB8.out)) HV8.out.c (PlC.nil_ _) rfl (HM.out.bd.le (by decide)))
                      rw [HSV.out, ht1] at K2
                      unfold rrv pv0 at K2
                      dsimp only at K2
                      clear ht1 ht2 hm2 hbd hdn HGJ HVJ HSJ HBJ HG4 HV4 HS4 HB4' HG7 HV7 HB7 HO1 HC43 HV HG HS HB HBW HPW HP4 HB4
                      have hq0 := (blk_cell HG8.out) 0
                      have hq1 := (blk_cell HG8.out) 1
                      have hq2 := (blk_cell HG8.out) 2
                      have hq3 := (blk_cell HG8.out) 3
                      have hq4 := (blk_cell HG8.out) 4
                      have hq5 := (blk_cell HG8.out) 5
                      have hq6 := (blk_cell HG8.out) 6
                      have hq7 := (blk_cell HG8.out) 7
                      go_wp2_with (fail)
                      refine K2.out.mono ?_
                      rintro e w9 ⟨V9, rfl, hr, hb⟩
                      obtain ⟨Aaf, caf, Aat, cat, Aas, cas, Aab, cab, Aao, cao, Aad, cad, rfl⟩ := hr.opened
                      have hb9 := below_alloc (Below.refl w9.heap.size w9) (.cells #[.int .i64 t1.num, .int .i64 t1.ph, .slice Aaf t1.pl.1.length caf, .slice Aat t1.pl.2.1.length cat, .slice Aas t1.pl.2.2.1.length cas, .slice Aab t1.pl.2.2.2.length cab, .slice Aao t1.op.length cao, .slice Aad t1.dn.length cad] 34)
                      have HG9 := Aside0.mk (blk_below (blk_below HG8.out hb) hb9)
                      have HX9 := Aside0.mk (heap_last w9 (.cells #[.int .i64 t1.num, .int .i64 t1.ph, .slice Aaf t1.pl.1.length caf, .slice Aat t1.pl.2.1.length cat, .slice Aas t1.pl.2.2.1.length cas, .slice Aab t1.pl.2.2.2.length cab, .slice Aao t1.op.length cao, .slice Aad t1.dn.length cad] 34))
                      have HR9 := Aside0.mk (hr.below hb9)
                      have HS9 := Aside0.mk (Kd.R_below (Kd.R_below HO8.out hb) hb9)
                      have HB9 := Aside0.mk (below_step (below_step HB8.out hb) hb9)
                      have K3 := Aside0.mk (Take_T ⟨⟨.slice Aaf t1.pl.1.length caf, .slice Aat t1.pl.2.1.length cat, .slice Aas t1.pl.2.2.1.length cas, .slice Aab t1.pl.2.2.2.length cab⟩, .slice Aao t1.op.length cao, .slice Aad t1.dn.length cad⟩ t1 pv0 ⟨3, x, pl0⟩ (w9.alloc (.cells #[.int .i64 t1.num, .int .i64 t1.ph, .slice Aaf t1.pl.1.length caf, .slice Aat t1.pl.2.1.length cat, .slice Aas t1.pl.2.2.1.length cas, .slice Aab t1.pl.2.2.2.length cab, .slice Aao t1.op.length cao, .slice Aad t1.dn.length cad] 34)) (HT.out.below (below_step HB3.out HB9.out)) HR9.out.c (PlC.nil_ _) rfl (HBD.out.le (by decide)))
                      rw [HT2.out] at K3
                      unfold stv rrv pv0 at K3
                      dsimp only at K3
                      have hx0 := (blk_cell HX9.out) 0
                      have hx1 := (blk_cell HX9.out) 1
                      have hx2 := (blk_cell HX9.out) 2
                      have hx3 := (blk_cell HX9.out) 3
                      have hx4 := (blk_cell HX9.out) 4
                      have hx5 := (blk_cell HX9.out) 5
                      have hx6 := (blk_cell HX9.out) 6
                      have hx7 := (blk_cell HX9.out) 7
                      unfold stv
                      dsimp only
                      clear K2 hr hb hb9 hq0 hq1 hq2 hq3 hq4 hq5 hq6 hq7 HG8 HO8 HB8 HV8
                      go_wp2_with (fail)
                      refine K3.out.mono ?_
                      rintro e w10 ⟨V10, rfl, hr, hb⟩
                      obtain ⟨Abf, cbf, Abt, cbt, Abs, cbs, Abb, cbb, Abo, cbo, Abd, cbd, rfl⟩ := hr.opened
                      have hb9 := below_alloc (Below.refl w10.heap.size w10) (.cells #[.int .i64 t2.num, .int .i64 t2.ph, .slice Abf t2.pl.1.length cbf, .slice Abt t2.pl.2.1.length cbt, .slice Abs t2.pl.2.2.1.length cbs, .slice Abb t2.pl.2.2.2.length cbb, .slice Abo t2.op.length cbo, .slice Abd t2.dn.length cbd] 34)
                      have HGA := Aside0.mk (blk_below (blk_below HG9.out hb) hb9)
                      have HXA := Aside0.mk (heap_last w10 (.cells #[.int .i64 t2.num, .int .i64 t2.ph, .slice Abf t2.pl.1.length cbf, .slice Abt t2.pl.2.1.length cbt, .slice Abs t2.pl.2.2.1.length cbs, .slice Abb t2.pl.2.2.2.length cbb, .slice Abo t2.op.length cbo, .slice Abd t2.dn.length cbd] 34))
                      have HRA := Aside0.mk ((hr.lower (Nat.zero_le _)).below hb9)
                      have HSA := Aside0.mk (Kd.R_below (Kd.R_below HS9.out hb) hb9)
                      have HBA := Aside0.mk (below_step (below_step HB9.out hb) hb9)
                      clear K3 hr hb hb9 hx0 hx1 hx2 hx3 hx4 hx5 hx6 hx7 HG9 HX9 HR9 HS9 HB9
                      have hy0 := (blk_cell HXA.out) 0
                      have hy1 := (blk_cell HXA.out) 1
                      have hy2 := (blk_cell HXA.out) 2
                      have hy3 := (blk_cell HXA.out) 3
                      have hy4 := (blk_cell HXA.out) 4
                      have hy5 := (blk_cell HXA.out) 5
                      have hy6 := (blk_cell HXA.out) 6
                      have hy7 := (blk_cell HXA.out) 7
                      have hz0 := (blk_cell HGA.out) 0
                      have hz1 := (blk_cell HGA.out) 1
                      have hz2 := (blk_cell HGA.out) 2
                      have hz3 := (blk_cell HGA.out) 3
                      have hz4 := (blk_cell HGA.out) 4
                      have hz5 := (blk_cell HGA.out) 5
                      have hz6 := (blk_cell HGA.out) 6
                      have hz7 := (blk_cell HGA.out) 7
                      have hzf0 := free_of HGA.out 0
                      have hzf1 := free_of HGA.out 1
                      have hzf2 := free_of HGA.out 2
                      have hzf3 := free_of HGA.out 3
                      have hzf4 := free_of HGA.out 4
                      have hzf5 := free_of HGA.out 5
                      have hzf6 := free_of HGA.out 6
                      have hzf7 := free_of HGA.out 7
                      unfold stv
                      dsimp only
                      go_wp2_with (fail)
                      obtain ⟨wx, hwx⟩ : ∃ W, sets w3.heap.size (w10.alloc (.cells #[.int .i64 t2.num, .int .i64 t2.ph, .slice Abf t2.pl.1.length cbf, .slice Abt t2.pl.2.1.length cbt, .slice Abs t2.pl.2.2.1.length cbs, .slice Abb t2.pl.2.2.2.length cbb, .slice Abo t2.op.length cbo, .slice Abd t2.dn.length cbd] 34)) [(0, .int .i64 t2.num), (1, .int .i64 t2.ph), (2, .slice Abf t2.pl.1.length cbf), (3, .slice Abt t2.pl.2.1.length cbt), (4, .slice Abs t2.pl.2.2.1.length cbs), (5, .slice Abb t2.pl.2.2.2.length cbb), (6, .slice Abo t2.op.length cbo), (7, .slice Abd t2.dn.length cbd)] = W := ⟨_, rfl⟩
                      have hgx := box8 HGA.out (.int .i64 t2.num) (.int .i64 t2.ph) (.slice Abf t2.pl.1.length cbf) (.slice Abt t2.pl.2.1.length cbt) (.slice Abs t2.pl.2.2.1.length cbs) (.slice Abb t2.pl.2.2.2.length cbb) (.slice Abo t2.op.length cbo) (.slice Abd t2.dn.length cbd)
                      have hvx := StR_sets (T := 34) (by decide) [(0, .int .i64 t2.num), (1, .int .i64 t2.ph), (2, .slice Abf t2.pl.1.length cbf), (3, .slice Abt t2.pl.2.1.length cbt), (4, .slice Abs t2.pl.2.2.1.length cbs), (5, .slice Abb t2.pl.2.2.2.length cbb), (6, .slice Abo t2.op.length cbo), (7, .slice Abd t2.dn.length cbd)] _ _ HGA.out HRA.out
                      have hsx := R_sets (T := 34) (by decide) [(0, .int .i64 t2.num), (1, .int .i64 t2.ph), (2, .slice Abf t2.pl.1.length cbf), (3, .slice Abt t2.pl.2.1.length cbt), (4, .slice Abs t2.pl.2.2.1.length cbs), (5, .slice Abb t2.pl.2.2.2.length cbb), (6, .slice Abo t2.op.length cbo), (7, .slice Abd t2.dn.length cbd)] _ _ HGA.out HSA.out
                      have hbx := Below_sets (Nat.le_refl _) [(0, .int .i64 t2.num), (1, .int .i64 t2.ph), (2, .slice Abf t2.pl.1.length cbf), (3, .slice Abt t2.pl.2.1.length cbt), (4, .slice Abs t2.pl.2.2.1.length cbs), (5, .slice Abb t2.pl.2.2.2.length cbb), (6, .slice Abo t2.op.length cbo), (7, .slice Abd t2.dn.length cbd)] _ HBA.out
                      rw [hwx] at hgx hvx hsx hbx
                      have hwx' := hwx
                      simp only [sets, List.foldl] at hwx'
                      rw [hwx']
                      clear hwx hwx'
                      have HGX := Aside0.mk hgx
                      have HVX := Aside0.mk hvx
                      have HSX := Aside0.mk hsx
                      have HBX := Aside0.mk hbx
                      clear hgx hvx hsx hbx hy0 hy1 hy2 hy3 hy4 hy5 hy6 hy7 hz0 hz1 hz2 hz3 hz4 hz5 hz6 hz7 hzf0 hzf1 hzf2 hzf3 hzf4 hzf5 hzf6 hzf7
                      go_roundg (ko - 1)
                      case measure => have := HJ.out; have := HI.out; omega
                      case rel =>
                        exact ⟨j + 1, t2, ⟨⟨.slice Abf t2.pl.1.length cbf, .slice Abt t2.pl.2.1.length cbt, .slice Abs t2.pl.2.2.1.length cbs, .slice Abb t2.pl.2.2.2.length cbb⟩, .slice Abo t2.op.length cbo, .slice Abd t2.dn.length cbd⟩, (by first | exact congrArg _ HE5.out | rfl), ⟨by have := HJ.out; have := HI.out; omega⟩, HM2, HGX, HVX, ⟨by rw [HDN.out, SM_snoc, HMK.out]; exact HSX.out⟩, HBX⟩
            · have e1 : decide (j < ps.length) = false := decide_eq_false c1
              clear c1
              go_wp2_with (fail)
              go_meet
              exact ⟨s, ⟨⟨.slice Azf s.pl.1.length czf, .slice Azt s.pl.2.1.length czt, .slice Azs s.pl.2.2.1.length czs, .slice Azb s.pl.2.2.2.length czb⟩, .slice Azo s.op.length czo, .slice Azd s.dn.length czd⟩, HM, ⟨by rw [HSV.out]; exact HG.out⟩, HV, HS, HB⟩
        case rest =>
          obtain ⟨s, V, HM, HG, HV, HS, HB⟩ := hcut
          clear HG4 HV4 HW4 HV3 HP4 HB4 HD0 HM0
          obtain ⟨Azf, czf, Azt, czt, Azs, czs, Azb, czb, Azo, czo, Azd, czd, rfl⟩ := HV.out.opened
          have hstv : stv ⟨⟨.slice Azf s.pl.1.length czf, .slice Azt s.pl.2.1.length czt, .slice Azs s.pl.2.2.1.length czs, .slice Azb s.pl.2.2.2.length czb⟩, .slice Azo s.op.length czo, .slice Azd s.dn.length czd⟩ s = #[.int .i64 s.num, .int .i64 s.ph, .slice Azf s.pl.1.length czf, .slice Azt s.pl.2.1.length czt, .slice Azs s.pl.2.2.1.length czs, .slice Azb s.pl.2.2.2.length czb, .slice Azo s.op.length czo, .slice Azd s.dn.length czd] := rfl
          have HSV := Aside0.mk hstv
          rw [hstv] at HG
          obtain ⟨A9, c9, rfl⟩ := Kd.R_slice HS.out
          have HML := Aside0.mk HM.out.len
          have K := Aside0.mk (Take_T ⟨⟨.slice Azf s.pl.1.length czf, .slice Azt s.pl.2.1.length czt, .slice Azs s.pl.2.2.1.length czs, .slice Azb s.pl.2.2.2.length czb⟩, .slice Azo s.op.length czo, .slice Azd s.dn.length czd⟩ s pv0 ⟨5, 0, pl0⟩ wc (HT.out.below (below_step HB3.out HB.out)) HV.out.c (PlC.nil_ _) rfl (HM.out.bd.le (by decide)))
          rw [HSV.out, HM.out.back] at K
          obtain ⟨t, ht⟩ : ∃ t, bk p s.dn = t := ⟨_, rfl⟩
          rw [ht] at K
          unfold rrv pv0 at K
          dsimp only at K
          have HTT := Aside0.mk ht
          have hg0 := (blk_cell HG.out) 0
          have hg1 := (blk_cell HG.out) 1
          have hg2 := (blk_cell HG.out) 2
          have hg3 := (blk_cell HG.out) 3
          have hg4 := (blk_cell HG.out) 4
          have hg5 := (blk_cell HG.out) 5
          have hg6 := (blk_cell HG.out) 6
          have hg7 := (blk_cell HG.out) 7
          have hgf0 := free_of HG.out 0
          have hgf1 := free_of HG.out 1
          have hgf2 := free_of HG.out 2
          have hgf3 := free_of HG.out 3
          have hgf4 := free_of HG.out 4
          have hgf5 := free_of HG.out 5
          have hgf6 := free_of HG.out 6
          have hgf7 := free_of HG.out 7
          clear hstv ht
          go_wp2_with (fail)
          refine K.out.mono ?_
          rintro e w4 ⟨V4, rfl, hr, hb⟩
          obtain ⟨Aaf, caf, Aat, cat, Aas, cas, Aab, cab, Aao, cao, Aad, cad, rfl⟩ := hr.opened
          have HGA := Aside0.mk (blk_below HG.out hb)
          have HRA := Aside0.mk (hr.lower (Nat.zero_le _))
          have HSA := Aside0.mk (Kd.R_below HS.out hb)
          have HBA := Aside0.mk (below_step HB.out hb)
          clear K hr hb HG HV HS HB hg0 hg1 hg2 hg3 hg4 hg5 hg6 hg7 hgf0 hgf1 hgf2 hgf3 hgf4 hgf5 hgf6 hgf7
          have hh0 := (blk_cell HGA.out) 0
          have hh1 := (blk_cell HGA.out) 1
          have hh2 := (blk_cell HGA.out) 2
          have hh3 := (blk_cell HGA.out) 3
          have hh4 := (blk_cell HGA.out) 4
          have hh5 := (blk_cell HGA.out) 5
          have hh6 := (blk_cell HGA.out) 6
          have hh7 := (blk_cell HGA.out) 7
          have hhf0 := free_of HGA.out 0
          have hhf1 := free_of HGA.out 1
          have hhf2 := free_of HGA.out 2
          have hhf3 := free_of HGA.out 3
          have hhf4 := free_of HGA.out 4
          have hhf5 := free_of HGA.out 5
          have hhf6 := free_of HGA.out 6
          have hhf7 := free_of HGA.out 7
          unfold stv
          dsimp only
          go_upto_region 31 with (fail)
          obtain ⟨wx, hwx⟩ : ∃ W, sets w3.heap.size w4 [(0, .int .i64 t.num), (1, .int .i64 t.ph), (2, .slice Aaf t.pl.1.length caf), (3, .slice Aat t.pl.2.1.length cat), (4, .slice Aas t.pl.2.2.1.length cas), (5, .slice Aab t.pl.2.2.2.length cab), (6, .slice Aao t.op.length cao), (7, .slice Aad t.dn.length cad)] = W := ⟨_, rfl⟩
          have hgx := box8 HGA.out (.int .i64 t.num) (.int .i64 t.ph) (.slice Aaf t.pl.1.length caf) (.slice Aat t.pl.2.1.length cat) (.slice Aas t.pl.2.2.1.length cas) (.slice Aab t.pl.2.2.2.length cab) (.slice Aao t.op.length cao) (.slice Aad t.dn.length cad)
          have hvx := StR_sets (T := 34) (by decide) [(0, .int .i64 t.num), (1, .int .i64 t.ph), (2, .slice Aaf t.pl.1.length caf), (3, .slice Aat t.pl.2.1.length cat), (4, .slice Aas t.pl.2.2.1.length cas), (5, .slice Aab t.pl.2.2.2.length cab), (6, .slice Aao t.op.length cao), (7, .slice Aad t.dn.length cad)] _ _ HGA.out HRA.out
          have hsx := R_sets (T := 34) (by decide) [(0, .int .i64 t.num), (1, .int .i64 t.ph), (2, .slice Aaf t.pl.1.length caf), (3, .slice Aat t.pl.2.1.length cat), (4, .slice Aas t.pl.2.2.1.length cas), (5, .slice Aab t.pl.2.2.2.length cab), (6, .slice Aao t.op.length cao), (7, .slice Aad t.dn.length cad)] _ _ HGA.out HSA.out
          have hbx := Below_sets (Nat.le_refl _) [(0, .int .i64 t.num), (1, .int .i64 t.ph), (2, .slice Aaf t.pl.1.length caf), (3, .slice Aat t.pl.2.1.length cat), (4, .slice Aas t.pl.2.2.1.length cas), (5, .slice Aab t.pl.2.2.2.length cab), (6, .slice Aao t.op.length cao), (7, .slice Aad t.dn.length cad)] _ HBA.out
          rw [hwx] at hgx hvx hsx hbx
          have HGX := Aside0.mk hgx
          have HVX := Aside0.mk hvx
          have HSX := Aside0.mk hsx
          have HBX := Aside0.mk hbx
          have hwx' := hwx
          simp only [sets, List.foldl] at hwx'
          rw [hwx']
          clear hwx hwx' hgx hvx hsx hbx HGA HRA HSA HBA hh0 hh1 hh2 hh3 hh4 hh5 hh6 hh7 hhf0 hhf1 hhf2 hhf3 hhf4 hhf5 hhf6 hhf7
          go_wp2_with (fail)
          go_loopg [119] s.dn.length (fun kq v119 w' => ∃ (i : Nat) (V : SV), v119 = .int .i64 (i : Int) ∧ Aside0 (i + kq = s.dn.length) ∧ Aside0 (w'.heap[w3.heap.size]? = some (.cells (stv V (bk p (s.dn.take (s.dn.length - i)))) 34 (0, 0))) ∧ Aside0 (StR w' 0 V (bk p (s.dn.take (s.dn.length - i)))) ∧ Aside0 (Kd.R kU 56 w' w3.heap.size (fun _ => True) (.slice A9 (SM s.dn).length c9) (SM s.dn)) ∧ Aside0 (Below w3.heap.size w3 w'))
          case atStart =>
            have e : bk p (s.dn.take (s.dn.length - 0)) = t := by rw [Nat.sub_zero, List.take_length]; exact HTT.out
            exact ⟨0, ⟨⟨.slice Aaf t.pl.1.length caf, .slice Aat t.pl.2.1.length cat, .slice Aas t.pl.2.2.1.length cas, .slice Aab t.pl.2.2.2.length cab⟩, .slice Aao t.op.length cao, .slice Aad t.dn.length cad⟩, rfl, ⟨by omega⟩, ⟨by rw [e]; exact HGX.out⟩, ⟨by rw [e]; exact HVX.out⟩, HSX, HBX⟩
          case round =>
            clear HGX HVX HSX HBX
            obtain ⟨i, V, rfl, HJ, HG, HV, HS, HB⟩ := hrel
            by_cases c1 : i < s.dn.length
            · have e1 : decide (i < (SM s.dn).length) = true := decide_eq_true (by rw [SM_len]; exact c1)
              have HI := Aside0.mk c1
              have HE5 : Aside0 (wrap64 ((i : Int) + 1) = ((i + 1 : Nat) : Int)) := ⟨by have := HML.out; unfold wrap64; omega⟩
              obtain ⟨n, hn⟩ : ∃ n, s.dn.length - i = n + 1 := ⟨s.dn.length - i - 1, by omega⟩
              have hnl : n < s.dn.length := by omega
              rw [hn] at HG HV
              obtain ⟨ht1, ht2⟩ := bk_step HM.out hnl
              have HBD := Aside0.mk (bk_bd HM.out (n + 1))
              have HBE := Aside0.mk (bk_bd HM.out n)
              have HRE := Aside0.mk (bk_reach p (s.dn.take n))
              have H64 : Aside0 (∀ k ∈ (bk p (s.dn.take n)).op ++ (bk p (s.dn.take n)).dn, 0 ≤ k ∧ k < 64) := ⟨fun k hk => HM.out.in64 k (List.mem_of_mem_take hk)⟩
              have hget := SM_get s.dn n hnl
              obtain ⟨_, _, hKC⟩ := Kd.R_reads' HS.out
              obtain ⟨ad, ea, hx⟩ := at_u64 hKC n (by rw [SM_len]; exact hnl)
              cases ea
              rw [hget] at hx
              have HX := Aside0.mk hx
              have HEX : Aside0 (bk p (s.dn.take (s.dn.length - (i + 1))) = bk p (s.dn.take n)) := ⟨by rw [show s.dn.length - (i + 1) = n by omega]⟩
              have HIX : Aside0 ((wrap64 (((SM s.dn).length : Int) - 1) = ((SM s.dn).length : Int) - 1 ∧ wrap64 (((SM s.dn).length : Int) - 1 - (i : Int)) = (n : Int)) ∧ (IntKind.i64.wrap (((SM s.dn).length : Int) - 1) = ((SM s.dn).length : Int) - 1 ∧ IntKind.i64.wrap (((SM s.dn).length : Int) - 1 - (i : Int)) = (n : Int))) := ⟨by
                have h1 : wrap64 (((SM s.dn).length : Int) - 1) = ((SM s.dn).length : Int) - 1 := by rw [SM_len]; have := HML.out; unfold wrap64; omega
                have h2 : wrap64 (((SM s.dn).length : Int) - 1 - (i : Int)) = (n : Int) := by rw [SM_len]; have := HML.out; unfold wrap64; omega
                refine ⟨⟨h1, h2⟩, IntWalk.i64_in _ (by rw [SM_len]; have := HML.out; omega), ?_⟩
                rw [IntWalk.i64_in _ (by rw [SM_len]; have := HML.out; omega), SM_len]
                omega⟩
              have HNL : Aside0 (n < (SM s.dn).length) := ⟨by rw [SM_len]; exact hnl⟩
              obtain ⟨b, hb⟩ : ∃ b, bk p (s.dn.take (n + 1)) = b := ⟨_, rfl⟩
              obtain ⟨b', hb'⟩ : ∃ b, bk p (s.dn.take n) = b := ⟨_, rfl⟩
              obtain ⟨x, hxx⟩ : ∃ x, s.dn.getD n 0 = x := ⟨_, rfl⟩
              obtain ⟨mk, hmk⟩ : ∃ m, maskOf (s.dn.take n) = m := ⟨_, rfl⟩
              rw [hb] at HG HV HBD ht1 ht2
              rw [hb'] at ht2 HBE HRE H64 HEX
              rw [hxx] at ht1 ht2
              rw [hmk] at HRE HX
              obtain ⟨Azf, czf, Azt, czt, Azs, czs, Azb, czb, Azo, czo, Azd, czd, rfl⟩ := HV.out.opened
              have hstv : stv ⟨⟨.slice Azf b.pl.1.length czf, .slice Azt b.pl.2.1.length czt, .slice Azs b.pl.2.2.1.length czs, .slice Azb b.pl.2.2.2.length czb⟩, .slice Azo b.op.length czo, .slice Azd b.dn.length czd⟩ b = #[.int .i64 b.num, .int .i64 b.ph, .slice Azf b.pl.1.length czf, .slice Azt b.pl.2.1.length czt, .slice Azs b.pl.2.2.1.length czs, .slice Azb b.pl.2.2.2.length czb, .slice Azo b.op.length czo, .slice Azd b.dn.length czd] := rfl
              have HSV := Aside0.mk hstv
              rw [hstv] at HG
              have K := Aside0.mk (Top_T ⟨⟨.slice Azf b.pl.1.length czf, .slice Azt b.pl.2.1.length czt, .slice Azs b.pl.2.2.1.length czs, .slice Azb b.pl.2.2.2.length czb⟩, .slice Azo b.op.length czo, .slice Azd b.dn.length czd⟩ b wr HV.out.c (Nat.le_trans HBD.out.o (by decide)) (Nat.le_trans HBD.out.d (by decide)))
              rw [HSV.out, ht1] at K
              have HT2 := Aside0.mk ht2
              clear hstv ht1 ht2 hb hb' hxx hmk hx hget hKC hn hnl c1
              have hg0 := (blk_cell HG.out) 0
              have hg1 := (blk_cell HG.out) 1
              have hg2 := (blk_cell HG.out) 2
              have hg3 := (blk_cell HG.out) 3
              have hg4 := (blk_cell HG.out) 4
              have hg5 := (blk_cell HG.out) 5
              have hg6 := (blk_cell HG.out) 6
              have hg7 := (blk_cell HG.out) 7
              have hgf0 := free_of HG.out 0
              have hgf1 := free_of HG.out 1
              have hgf2 := free_of HG.out 2
              have hgf3 := free_of HG.out 3
              have hgf4 := free_of HG.out 4
              have hgf5 := free_of HG.out 5
              have hgf6 := free_of HG.out 6
              have hgf7 := free_of HG.out 7
              go_wp2_with (fail)
              refine K.out.mono ?_
              rintro e w4 ⟨rfl, hb⟩
              have HGA := Aside0.mk (blk_below HG.out hb)
              have HVA := Aside0.mk (HV.out.below hb)
              have HSA := Aside0.mk (Kd.R_below HS.out hb)
              have HBA := Aside0.mk (below_step HB.out hb)
              have HXA := Aside0.mk (pw_cell_below hb HX.out)
              have K2 := Aside0.mk (Take_T ⟨⟨.slice Azf b.pl.1.length czf, .slice Azt b.pl.2.1.length czt, .slice Azs b.pl.2.2.1.length czs, .slice Azb b.pl.2.2.2.length czb⟩, .slice Azo b.op.length czo, .slice Azd b.dn.length czd⟩ b pv0 ⟨6, x, pl0⟩ w4 (HT.out.below (below_step HB3.out HBA.out)) HVA.out.c (PlC.nil_ _) rfl (HBD.out.le (by decide)))
              rw [HSV.out, HT2.out] at K2
              unfold rrv pv0 at K2
              dsimp only at K2
              clear K hb HG HV HS HB HX hg0 hg1 hg2 hg3 hg4 hg5 hg6 hg7 hgf0 hgf1 hgf2 hgf3 hgf4 hgf5 hgf6 hgf7
              have hh0 := (blk_cell HGA.out) 0
              have hh1 := (blk_cell HGA.out) 1
              have hh2 := (blk_cell HGA.out) 2
              have hh3 := (blk_cell HGA.out) 3
              have hh4 := (blk_cell HGA.out) 4
              have hh5 := (blk_cell HGA.out) 5
              have hh6 := (blk_cell HGA.out) 6
              have hh7 := (blk_cell HGA.out) 7
              have hhf0 := free_of HGA.out 0
              have hhf1 := free_of HGA.out 1
              have hhf2 := free_of HGA.out 2
              have hhf3 := free_of HGA.out 3
              have hhf4 := free_of HGA.out 4
              have hhf5 := free_of HGA.out 5
              have hhf6 := free_of HGA.out 6
              have hhf7 := free_of HGA.out 7
              dsimp only
              go_wp2_with (fail)
              refine K2.out.mono ?_
              rintro e w5 ⟨V5, rfl, hr, hb⟩
              obtain ⟨Aqf, cqf, Aqt, cqt, Aqs, cqs, Aqb, cqb, Aqo, cqo, Aqd, cqd, rfl⟩ := hr.opened
              have hb9 := below_alloc (Below.refl w5.heap.size w5) (.cells #[.int .i64 b'.num, .int .i64 b'.ph, .slice Aqf b'.pl.1.length cqf, .slice Aqt b'.pl.2.1.length cqt, .slice Aqs b'.pl.2.2.1.length cqs, .slice Aqb b'.pl.2.2.2.length cqb, .slice Aqo b'.op.length cqo, .slice Aqd b'.dn.length cqd] 34)
              have HG9 := Aside0.mk (blk_below (blk_below HGA.out hb) hb9)
              have HX9 := Aside0.mk (heap_last w5 (.cells #[.int .i64 b'.num, .int .i64 b'.ph, .slice Aqf b'.pl.1.length cqf, .slice Aqt b'.pl.2.1.length cqt, .slice Aqs b'.pl.2.2.1.length cqs, .slice Aqb b'.pl.2.2.2.length cqb, .slice Aqo b'.op.length cqo, .slice Aqd b'.dn.length cqd] 34))
              have HR9 := Aside0.mk ((hr.lower (Nat.zero_le _)).below hb9)
              have HS9 := Aside0.mk (Kd.R_below (Kd.R_below HSA.out hb) hb9)
              have HB9 := Aside0.mk (below_step (below_step HBA.out hb) hb9)
              have HE9 := Aside0.mk (pw_cell_below hb9 (pw_cell_below hb HXA.out))
              obtain ⟨W9, hW9⟩ : ∃ W, w5.alloc (.cells #[.int .i64 b'.num, .int .i64 b'.ph, .slice Aqf b'.pl.1.length cqf, .slice Aqt b'.pl.2.1.length cqt, .slice Aqs b'.pl.2.2.1.length cqs, .slice Aqb b'.pl.2.2.2.length cqb, .slice Aqo b'.op.length cqo, .slice Aqd b'.dn.length cqd] 34) = W := ⟨_, rfl⟩
              rw [hW9] at HG9 HX9 HR9 HS9 HB9 HE9
              have K3 := Aside0.mk (Reached_T ⟨⟨.slice Aqf b'.pl.1.length cqf, .slice Aqt b'.pl.2.1.length cqt, .slice Aqs b'.pl.2.2.1.length cqs, .slice Aqb b'.pl.2.2.2.length cqb⟩, .slice Aqo b'.op.length cqo, .slice Aqd b'.dn.length cqd⟩ b' W9.drew (HR9.out.c.below (below_drew (Below.refl _ _))) (Nat.le_trans HBE.out.o (by decide)) (Nat.le_trans HBE.out.d (by decide)) H64.out)
              rw [HRE.out] at K3
              unfold stv at K3
              dsimp only at K3
              clear K2 hr hb hb9 HGA HVA HSA HBA HXA hh0 hh1 hh2 hh3 hh4 hh5 hh6 hh7 hhf0 hhf1 hhf2 hhf3 hhf4 hhf5 hhf6 hhf7
              unfold stv
              dsimp only
              go_upto_region 38 with (fail)
              clear hW9
              have hq0 := (blk_cell (blk_drew HX9.out)) 0
              have hq1 := (blk_cell (blk_drew HX9.out)) 1
              have hq2 := (blk_cell (blk_drew HX9.out)) 2
              have hq3 := (blk_cell (blk_drew HX9.out)) 3
              have hq4 := (blk_cell (blk_drew HX9.out)) 4
              have hq5 := (blk_cell (blk_drew HX9.out)) 5
              have hq6 := (blk_cell (blk_drew HX9.out)) 6
              have hq7 := (blk_cell (blk_drew HX9.out)) 7
              have hq8 : W9.drew.cell? (ad.add n) = some (.int .u64 ((mk : Nat) : Int)) := pw_cell_below (below_drew (Below.refl _ _)) HE9.out
              have HBD9 := Aside0.mk (below_drew1 HB9.out)
              have hnl := HNL.out
              obtain ⟨⟨hx1, hx2⟩, hx3, hx4⟩ := HIX.out
              have hnl2 : (0 : Int) ≤ (n : Int) := Int.natCast_nonneg n
              have hnl3 : (n : Int) < ((SM s.dn).length : Int) := by omega
              go_region_held3 (fun w' => w'.cell? ⟨w5.heap.size, 0, none⟩ = some (.int .i64 b'.num) ∧ w'.cell? ⟨w5.heap.size, 1, none⟩ = some (.int .i64 b'.ph) ∧ w'.cell? ⟨w5.heap.size, 2, none⟩ = some (.slice Aqf b'.pl.1.length cqf) ∧ w'.cell? ⟨w5.heap.size, 3, none⟩ = some (.slice Aqt b'.pl.2.1.length cqt) ∧ w'.cell? ⟨w5.heap.size, 4, none⟩ = some (.slice Aqs b'.pl.2.2.1.length cqs) ∧ w'.cell? ⟨w5.heap.size, 5, none⟩ = some (.slice Aqb b'.pl.2.2.2.length cqb) ∧ w'.cell? ⟨w5.heap.size, 6, none⟩ = some (.slice Aqo b'.op.length cqo) ∧ w'.cell? ⟨w5.heap.size, 7, none⟩ = some (.slice Aqd b'.dn.length cqd) ∧ w'.cell? (ad.add n) = some (.int .u64 ((mk : Nat) : Int))) (first | go_keep | exact ⟨hq0, hq1, hq2, hq3, hq4, hq5, hq6, hq7, hq8⟩)
                ((go_at_call 29; refine K3.out.mono ?_; rintro e w7 ⟨rfl, hb⟩; have HGB := Aside0.mk (blk_below (blk_drew HG9.out) hb); have HXB := Aside0.mk (blk_below (blk_drew HX9.out) hb); have HRB := Aside0.mk ((HR9.out.below (below_drew (Below.refl _ _))).below hb); have HSB := Aside0.mk (Kd.R_below (Kd.R_below HS9.out (below_drew (Below.refl _ _))) hb); have HBB := Aside0.mk (below_step HBD9.out hb); have hv0 := pw_cell_below hb hq0; have hv1 := pw_cell_below hb hq1; have hv2 := pw_cell_below hb hq2; have hv3 := pw_cell_below hb hq3; have hv4 := pw_cell_below hb hq4; have hv5 := pw_cell_below hb hq5; have hv6 := pw_cell_below hb hq6; have hv7 := pw_cell_below hb hq7; have hv8 := pw_cell_below hb hq8; clear K3 hb))
              clear hq0 hq1 hq2 hq3 hq4 hq5 hq6 hq7 hq8 hv0 hv1 hv2 hv3 hv4 hv5 hv6 hv7 hv8 hx1 hx2 hx3 hx4 hnl hnl2 hnl3
              have hy0 := (blk_cell HXB.out) 0
              have hy1 := (blk_cell HXB.out) 1
              have hy2 := (blk_cell HXB.out) 2
              have hy3 := (blk_cell HXB.out) 3
              have hy4 := (blk_cell HXB.out) 4
              have hy5 := (blk_cell HXB.out) 5
              have hy6 := (blk_cell HXB.out) 6
              have hy7 := (blk_cell HXB.out) 7
              have hz0 := (blk_cell HGB.out) 0
              have hz1 := (blk_cell HGB.out) 1
              have hz2 := (blk_cell HGB.out) 2
              have hz3 := (blk_cell HGB.out) 3
              have hz4 := (blk_cell HGB.out) 4
              have hz5 := (blk_cell HGB.out) 5
              have hz6 := (blk_cell HGB.out) 6
              have hz7 := (blk_cell HGB.out) 7
              have hzf0 := free_of HGB.out 0
              have hzf1 := free_of HGB.out 1
              have hzf2 := free_of HGB.out 2
              have hzf3 := free_of HGB.out 3
              have hzf4 := free_of HGB.out 4
              have hzf5 := free_of HGB.out 5
              have hzf6 := free_of HGB.out 6
              have hzf7 := free_of HGB.out 7
              go_wp2_with (fail)
              obtain ⟨wx, hwx⟩ : ∃ W, sets w3.heap.size w7 [(0, .int .i64 b'.num), (1, .int .i64 b'.ph), (2, .slice Aqf b'.pl.1.length cqf), (3, .slice Aqt b'.pl.2.1.length cqt), (4, .slice Aqs b'.pl.2.2.1.length cqs), (5, .slice Aqb b'.pl.2.2.2.length cqb), (6, .slice Aqo b'.op.length cqo), (7, .slice Aqd b'.dn.length cqd)] = W := ⟨_, rfl⟩
              have hgx := box8 HGB.out (.int .i64 b'.num) (.int .i64 b'.ph) (.slice Aqf b'.pl.1.length cqf) (.slice Aqt b'.pl.2.1.length cqt) (.slice Aqs b'.pl.2.2.1.length cqs) (.slice Aqb b'.pl.2.2.2.length cqb) (.slice Aqo b'.op.length cqo) (.slice Aqd b'.dn.length cqd)
              have hvx := StR_sets (T := 34) (by decide) [(0, .int .i64 b'.num), (1, .int .i64 b'.ph), (2, .slice Aqf b'.pl.1.length cqf), (3, .slice Aqt b'.pl.2.1.length cqt), (4, .slice Aqs b'.pl.2.2.1.length cqs), (5, .slice Aqb b'.pl.2.2.2.length cqb), (6, .slice Aqo b'.op.length cqo), (7, .slice Aqd b'.dn.length cqd)] _ _ HGB.out HRB.out
              have hsx := R_sets (T := 34) (by decide) [(0, .int .i64 b'.num), (1, .int .i64 b'.ph), (2, .slice Aqf b'.pl.1.length cqf), (3, .slice Aqt b'.pl.2.1.length cqt), (4, .slice Aqs b'.pl.2.2.1.length cqs), (5, .slice Aqb b'.pl.2.2.2.length cqb), (6, .slice Aqo b'.op.length cqo), (7, .slice Aqd b'.dn.length cqd)] _ _ HGB.out HSB.out
              have hbx := Below_sets (Nat.le_refl _) [(0, .int .i64 b'.num), (1, .int .i64 b'.ph), (2, .slice Aqf b'.pl.1.length cqf), (3, .slice Aqt b'.pl.2.1.length cqt), (4, .slice Aqs b'.pl.2.2.1.length cqs), (5, .slice Aqb b'.pl.2.2.2.length cqb), (6, .slice Aqo b'.op.length cqo), (7, .slice Aqd b'.dn.length cqd)] _ HBB.out
              rw [hwx] at hgx hvx hsx hbx
              have hwx' := hwx
              simp only [sets, List.foldl] at hwx'
              rw [hwx']
              clear hwx hwx'
              have HGX := Aside0.mk hgx
              have HVX := Aside0.mk hvx
              have HSX := Aside0.mk hsx
              have HBX := Aside0.mk hbx
              clear hgx hvx hsx hbx hy0 hy1 hy2 hy3 hy4 hy5 hy6 hy7 hz0 hz1 hz2 hz3 hz4 hz5 hz6 hz7 hzf0 hzf1 hzf2 hzf3 hzf4 hzf5 hzf6 hzf7
              go_roundg (gk - 1)
              case measure => have := HJ.out; have := HI.out; omega
              case rel => exact ⟨i + 1, ⟨⟨.slice Aqf b'.pl.1.length cqf, .slice Aqt b'.pl.2.1.length cqt, .slice Aqs b'.pl.2.2.1.length cqs, .slice Aqb b'.pl.2.2.2.length cqb⟩, .slice Aqo b'.op.length cqo, .slice Aqd b'.dn.length cqd⟩, (by first | exact congrArg _ HE5.out | rfl), ⟨by have := HJ.out; have := HI.out; omega⟩, ⟨by rw [HEX.out]; exact HGX.out⟩, ⟨by rw [HEX.out]; exact HVX.out⟩, HSX, HBX⟩
            · have e1 : decide (i < (SM s.dn).length) = false := decide_eq_false (by rw [SM_len]; exact c1)
              have hi : s.dn.length - i = 0 := by omega
              rw [hi, List.take_zero] at HG HV
              have hen := bk_ends p
              have hre := bk_reach p []
              have HBD := Aside0.mk (bk_bd HM.out 0)
              rw [List.take_zero] at HBD
              have HNIL : Aside0 ((bk p []).op ++ (bk p []).dn = []) := ⟨rfl⟩
              obtain ⟨b, hb⟩ : ∃ b, bk p [] = b := ⟨_, rfl⟩
              rw [hb] at HG HV hen hre HBD HNIL
              obtain ⟨Azf, czf, Azt, czt, Azs, czs, Azb, czb, Azo, czo, Azd, czd, rfl⟩ := HV.out.opened
              have hstv : stv ⟨⟨.slice Azf b.pl.1.length czf, .slice Azt b.pl.2.1.length czt, .slice Azs b.pl.2.2.1.length czs, .slice Azb b.pl.2.2.2.length czb⟩, .slice Azo b.op.length czo, .slice Azd b.dn.length czd⟩ b = #[.int .i64 b.num, .int .i64 b.ph, .slice Azf b.pl.1.length czf, .slice Azt b.pl.2.1.length czt, .slice Azs b.pl.2.2.1.length czs, .slice Azb b.pl.2.2.2.length czb, .slice Azo b.op.length czo, .slice Azd b.dn.length czd] := rfl
              have HSV := Aside0.mk hstv
              rw [hstv] at HG
              have K := Aside0.mk (Ends_T ⟨⟨.slice Azf b.pl.1.length czf, .slice Azt b.pl.2.1.length czt, .slice Azs b.pl.2.2.1.length czs, .slice Azb b.pl.2.2.2.length czb⟩, .slice Azo b.op.length czo, .slice Azd b.dn.length czd⟩ b wr HV.out.c HBD.out.p (Nat.le_trans HBD.out.o (by decide)) (Nat.le_trans HBD.out.d (by decide)))
              have K2 := Aside0.mk (fun W (hW : Below wr.heap.size wr W) => Reached_T ⟨⟨.slice Azf b.pl.1.length czf, .slice Azt b.pl.2.1.length czt, .slice Azs b.pl.2.2.1.length czs, .slice Azb b.pl.2.2.2.length czb⟩, .slice Azo b.op.length czo, .slice Azd b.dn.length czd⟩ b W (HV.out.c.below hW) (Nat.le_trans HBD.out.o (by decide)) (Nat.le_trans HBD.out.d (by decide)) (by rw [HNIL.out]; intro k hk; cases hk))
              rw [HSV.out, hen] at K
              simp only [hre] at K2
              rw [HSV.out] at K2
              clear hstv hen hre hb hi c1
              have hg0 := (blk_cell HG.out) 0
              have hg1 := (blk_cell HG.out) 1
              have hg2 := (blk_cell HG.out) 2
              have hg3 := (blk_cell HG.out) 3
              have hg4 := (blk_cell HG.out) 4
              have hg5 := (blk_cell HG.out) 5
              have hg6 := (blk_cell HG.out) 6
              have hg7 := (blk_cell HG.out) 7
              have hgf0 := free_of HG.out 0
              have hgf1 := free_of HG.out 1
              have hgf2 := free_of HG.out 2
              have hgf3 := free_of HG.out 3
              have hgf4 := free_of HG.out 4
              have hgf5 := free_of HG.out 5
              have hgf6 := free_of HG.out 6
              have hgf7 := free_of HG.out 7
              go_wp2_with (fail)
              refine K.out.mono ?_
              rintro e w4 ⟨rfl, hb⟩
              have K3 := Aside0.mk (K2.out w4 hb)
              have HGA := Aside0.mk (blk_below HG.out hb)
              have HBA := Aside0.mk (below_step HB.out hb)
              clear K K2 hb hg0 hg1 hg2 hg3 hg4 hg5 hg6 hg7 hgf0 hgf1 hgf2 hgf3 hgf4 hgf5 hgf6 hgf7
              have hh0 := (blk_cell HGA.out) 0
              have hh1 := (blk_cell HGA.out) 1
              have hh2 := (blk_cell HGA.out) 2
              have hh3 := (blk_cell HGA.out) 3
              have hh4 := (blk_cell HGA.out) 4
              have hh5 := (blk_cell HGA.out) 5
              have hh6 := (blk_cell HGA.out) 6
              have hh7 := (blk_cell HGA.out) 7
              have hhf0 := free_of HGA.out 0
              have hhf1 := free_of HGA.out 1
              have hhf2 := free_of HGA.out 2
              have hhf3 := free_of HGA.out 3
              have hhf4 := free_of HGA.out 4
              have hhf5 := free_of HGA.out 5
              have hhf6 := free_of HGA.out 6
              have hhf7 := free_of HGA.out 7
              go_wp2_with (fail)
              refine K3.out.mono ?_
              rintro e w5 ⟨rfl, hb⟩
              have HBB := Aside0.mk (below_step HBA.out hb)
              clear K3 hb hh0 hh1 hh2 hh3 hh4 hh5 hh6 hh7 hhf0 hhf1 hhf2 hhf3 hhf4 hhf5 hhf6 hhf7
              go_wp2
              go_ret
              exact ⟨rfl, below_step HB3.out HBB.out⟩
      · have e2 : (E1 != 0) = true := by simpa using hz
        clear hz
        go_wp2
        go_ret
        exact ⟨rfl, HB4.out⟩
end Go.Proofs.YtplhihakeodadaaDoor.Sg
