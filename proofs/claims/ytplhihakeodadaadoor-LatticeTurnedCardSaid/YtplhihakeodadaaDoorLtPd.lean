/- lattice: slices.Sort at []uint64, walked: pdqsort, Sort. -/
import Derived.Test.YtplhihakeodadaaDoorLtPe
import Derived.Test.YtplhihakeodadaaDoorLtPv
import Derived.Sort.Walk13
import Derived.Test.YtplhihakeodadaaDoorLtFrm
import Derived.Test.YtplhihakeodadaaDoorLtCtP
namespace Go.Proofs.YtplhihakeodadaaDoor.Sg
open Go Go.Sort Go.RowKit Go.Proofs Go.Proofs.YtplhihakeodadaaDoorW.PrintWords Go.Proofs.YtplhihakeodadaaDoorW.PrintLast Go.Proofs.YtplhihakeodadaaDoorW.PrintMore
set_option linter.unusedVariables false
set_option linter.unusedSimpArgs false
theorem hintZ_two {h : Hint} (e : hintZ h = 2) : h = .decreasing := by cases h <;> simp [hintZ] at e ⊢
abbrev SWOI : SWO ltInt := swo_ltInt
set_option maxHeartbeats 16000000 in
set_option maxRecDepth 1000000 in
theorem pdq_T (w0 : World) (bk c : Nat) (d0 : Array Int) (HR : Aside0 (RU w0 bk d0)) : ∀ (N a b limit : Nat) (d : Array Int) (w : World), b - a < N → d.size = d0.size → SU w0 bk d w → a ≤ b → b ≤ d.size → d.size ≤ 1000000000 → limit ≤ 1000000000 → Go.Sort.Below ltInt a b d →
    Calls Tryd.prog 72 #[.slice (some ⟨bk, 0, none⟩) d.size c, .int .i64 (a : Int), .int .i64 (b : Int), .int .i64 (limit : Int)] w fun e w' => e = .returned (.tuple #[]) ∧ SU w0 bk (pdq ltInt d a b limit true true) w' := by
  intro N
  induction N with
  | zero => intro _ _ _ _ _ h; exact absurd h (Nat.not_lt_zero _)
  | succ N ih =>
    intro a b limit d w hN hs h hab hb hl hlimit hBel0
    have IH := Aside0.mk ih
    have HW := Aside0.mk h
    have HS := Aside0.mk hs
    have HB0 := Aside0.mk hBel0
    obtain ⟨n, hn⟩ : ∃ n, d.size = n := ⟨_, rfl⟩
    have HN := Aside0.mk hn
    rw [hn] at hb hl ⊢
    clear ih h hs hn hBel0
    go_enter Tryd.func72, Tryd.ntmps72
    go_wp2
    go_loopg [1, 2, 3, 8, 9] (b - a) (fun k s1 s2 s3 s8 s9 wr => ∃ (a' b' lim : Nat) (wb wp : Bool) (dk : Array Int), s1 = .int .i64 (a' : Int) ∧ s2 = .int .i64 (b' : Int) ∧ s3 = .int .i64 (lim : Int) ∧ s8 = .bool wb ∧ s9 = .bool wp ∧
      a' ≤ b' ∧ b' ≤ n ∧ b' - a' ≤ k ∧ k ≤ b - a ∧ lim ≤ limit ∧ Aside0 (dk.size = n) ∧ Aside0 (Go.Sort.Below ltInt a' b' dk) ∧ Aside0 (SU w0 bk dk wr) ∧ Aside0 (pdq ltInt dk a' b' lim wb wp = pdq ltInt d a b limit true true))
    case atStart => exact ⟨a, b, limit, true, true, d, rfl, rfl, rfl, rfl, rfl, hab, hb, Nat.le_refl _, Nat.le_refl _, Nat.le_refl _, HN, HB0, HW, ⟨rfl⟩⟩
    case round =>
      clear HB0 HW
      obtain ⟨a', b', lim, wb, wp, dk, rfl, rfl, rfl, rfl, rfl, hab', hb', hk, hkN, hlim, HDS, HBel, HSU, A⟩ := hrel
      by_cases h12 : b' - a' ≤ 12
      · have h12z : (b' : Int) - (a' : Int) ≤ 12 := by omega
        have hc := insSort_T w0 bk c a' b' d0 dk wr HR.out (HDS.out.trans (HN.out.symm.trans HS.out)) HSU.out hab' (by rw [HDS.out]; exact hb') (by rw [HDS.out]; exact hl)
        rw [HDS.out] at hc
        go_wp2_with (go_at_call 85; refine hc.mono ?_; rintro e w1 ⟨rfl, hw1⟩)
        (try simp only [Exit.inBlock, Exit.then]); refine bodyPost_ret (results_none rfl _ _ _) rfl ?_
        refine ⟨rfl, ?_⟩
        rw [← A.out, pdq_small h12]
        exact hw1
      · have h12z : ¬ ((b' : Int) - (a' : Int) ≤ 12) := by omega
        by_cases hl0 : lim = 0
        · subst hl0
          have hc := heapSort_T w0 bk c a' b' d0 dk wr HR.out (HDS.out.trans (HN.out.symm.trans HS.out)) HSU.out (by omega) (by rw [HDS.out]; exact hb') (by rw [HDS.out]; exact hl)
          rw [HDS.out] at hc
          go_wp2_with (go_at_call 86; refine hc.mono ?_; rintro e w1 ⟨rfl, hw1⟩)
          (try simp only [Exit.inBlock, Exit.then]); refine bodyPost_ret (results_none rfl _ _ _) rfl ?_
          refine ⟨rfl, ?_⟩
          rw [← A.out, pdq_heap h12 rfl]
          exact hw1
        · have hl0z : ¬ ((lim : Int) = 0) := by omega
          have hBel := HBel.out
          have hds := HDS.out
          obtain ⟨s1, B1, hc1, s2, B2, hpv, s3, B3⟩ := rd_facts (limit := lim) (wb := wb) (wp := wp) SWOI partialInsertionSort_holds reverseRange_holds (show a' < b' by omega) (show b' ≤ dk.size by omega) hBel
          have HS1 := Aside0.mk s1
          have HS2 := Aside0.mk s2
          have HS3 := Aside0.mk s3
          have HB3 := Aside0.mk B3
          have HSZ : Aside0 (∀ D : Array Int, D.size = dk.size → D.size = d0.size) := ⟨fun D h => h.trans (HDS.out.trans (HN.out.symm.trans HS.out))⟩
          have HSN : Aside0 (∀ D : Array Int, D.size = dk.size → D.size = n) := ⟨fun D h => h.trans HDS.out⟩
          clear s1 s2 s3 B1 B2 B3 hBel hds
          obtain ⟨r, hr⟩ : ∃ r, rd ltInt dk a' b' lim wb wp = r := ⟨_, rfl⟩
          have HRD := Aside0.mk hr
          rw [hr] at HS1 HS2 HS3 HB3 hc1 hpv
          have hrl : r.lim ≤ lim := by rw [← hr]; exact rd_lim_le
          clear hr
          go_upto_if 35 with fail
          go_cut [3] from 19 (fun s3 wc => s3 = .int .i64 (r.lim : Int) ∧ Aside0 (SU w0 bk r.d1 wc))
          case first =>
            cases wb
            · have hc := breakPat_T w0 bk c a' b' d0 dk wr HR.out (HSZ.out _ rfl) HSU.out (by omega) (by rw [HDS.out]; exact hb') (by rw [HDS.out]; exact hl)
              rw [HDS.out] at hc
              go_wp2_with (go_at_call 87; refine hc.mono ?_; rintro e w1 ⟨rfl, hw1⟩)
              go_meet
              case rel =>
                refine ⟨?_, ⟨by rw [← HRD.out]; exact hw1⟩⟩
                rw [← HRD.out]
                show Value.int .i64 ((lim : Int) - 1) = Value.int .i64 ((lim - 1 : Nat) : Int)
                congr 1
                omega
            · go_wp2_with fail
              go_meet
              case rel => exact ⟨by rw [← HRD.out]; rfl, ⟨by rw [← HRD.out]; exact HSU.out⟩⟩
          case rest =>
            obtain ⟨rfl, HSU1⟩ := hcut
            have hc17 : Calls Tryd.prog 88 #[.slice (some ⟨bk, 0, none⟩) n c, .int .i64 (a' : Int), .int .i64 (b' : Int)] wc fun e w' => e = .returned (.tuple #[.int .i64 (r.c.1 : Int), .int .i64 (hintZ r.c.2)]) ∧ SU w0 bk r.d1 w' := by
              have := choosePivot_T w0 bk c a' b' d0 r.d1 wc HR.out (HSZ.out _ HS1.out) HSU1.out (by omega) (by rw [HSN.out _ HS1.out]; exact hb') (by rw [HSN.out _ HS1.out]; exact hl)
              rw [HSN.out _ HS1.out] at this
              have e : choosePivot ltInt r.d1 a' b' = r.c := by rw [← HRD.out]; rfl
              rw [e] at this
              exact this
            go_upto_if 50 with (go_at_call 88; refine hc17.mono ?_; rintro e w2 ⟨rfl, hw2⟩)
            have HSU2 := Aside0.mk hw2
            clear hw2 hc17
            go_cut [11, 12] from 19 (fun s11 s12 wc => s11 = .int .i64 (r.pivot : Int) ∧ s12 = .int .i64 (hintZ r.hint) ∧ Aside0 (SU w0 bk r.d2 wc))
            case first =>
              by_cases hh : r.c.2 = .decreasing
              · have hcode : hintZ r.c.2 = 2 := by rw [hh]; rfl
                have hh' := hh
                rw [← HRD.out] at hh'
                obtain ⟨e2, epv, eht⟩ := rd_dec hh'
                rw [HRD.out] at e2 epv eht
                have E2 := Aside0.mk e2
                have EPV := Aside0.mk epv
                have EHT := Aside0.mk eht
                have hc18 := revRange_T w0 bk c a' b' d0 r.d1 w2 HR.out (HSZ.out _ HS1.out) HSU2.out (by omega) (by rw [HSN.out _ HS1.out]; exact hb') (by rw [HSN.out _ HS1.out]; exact hl)
                rw [HSN.out _ HS1.out] at hc18
                clear e2 epv eht hh hh'
                go_wp2_with (go_at_call 89; refine hc18.mono ?_; rintro e w3 ⟨rfl, hw3⟩)
                go_meet
                case rel =>
                  refine ⟨?_, by rw [EHT.out]; rfl, ⟨by rw [E2.out]; exact hw3⟩⟩
                  rw [EPV.out]
                  congr 1
                  omega
              · have hcode : ¬ (hintZ r.c.2 = 2) := fun h => hh (hintZ_two h)
                have hh' := hh
                rw [← HRD.out] at hh'
                obtain ⟨e2, epv, eht⟩ := rd_not hh'
                rw [HRD.out] at e2 epv eht
                have E2 := Aside0.mk e2
                have EPV := Aside0.mk epv
                have EHT := Aside0.mk eht
                clear e2 epv eht hh hh'
                go_wp2_with fail
                go_meet
                case rel => exact ⟨by rw [EPV.out], by rw [EHT.out], ⟨by rw [E2.out]; exact HSU2.out⟩⟩
            case rest =>
              obtain ⟨rfl, rfl, HSU3⟩ := hcut
              go_upto_region 15 with fail
              go_cut [12, 68] from 19 (fun s12 s68 wx => s12 = .int .i64 (hintZ r.hint) ∧ s68 = .bool (wb && wp && decide (r.hint = .increasing)) ∧ wx = wc)
              case first =>
                clear HRD
                cases wb <;> cases wp <;> cases hh3 : r.hint <;>
                  (have hcode3 := congrArg hintZ hh3
                   (try rw [show hintZ Hint.unknown = 0 from rfl] at hcode3)
                   (try rw [show hintZ Hint.increasing = 1 from rfl] at hcode3)
                   (try rw [show hintZ Hint.decreasing = 2 from rfl] at hcode3)
                   go_wp2_with fail
                   go_meet
                   exact ⟨by simp [hh3, hintZ], by simp [hh3, hintZ], rfl⟩)
              case rest =>
                obtain ⟨rfl, rfl, rfl⟩ := hcut
                go_upto_if 68 with fail
                go_cut [] from 19 (fun wx => r.pi.2 = false ∧ Aside0 (SU w0 bk r.pi.1 wx))
                case first =>
                  cases h68 : (wb && wp && decide (r.hint = .increasing))
                  · have h68' := h68
                    rw [← HRD.out] at h68'
                    have epi := rd_pi_no h68'
                    rw [HRD.out] at epi
                    have EPI := Aside0.mk epi
                    clear epi h68' h68
                    go_wp2_with fail
                    go_meet
                    case rel => exact ⟨by rw [EPI.out], ⟨by rw [EPI.out]; exact HSU3.out⟩⟩
                  · have h68' := h68
                    rw [← HRD.out] at h68'
                    have epi := rd_pi_yes h68'
                    rw [HRD.out] at epi
                    have hc19 := partIns_T w0 bk c a' b' d0 r.d2 wc HR.out (HSZ.out _ HS2.out) HSU3.out (by omega) (by rw [HSN.out _ HS2.out]; exact hb') (by rw [HSN.out _ HS2.out]; exact hl)
                    rw [HSN.out _ HS2.out, ← epi] at hc19
                    clear epi h68' h68
                    go_wp2_with (go_at_call 90; refine hc19.mono ?_; rintro e w4 ⟨rfl, hw4⟩)
                    all_goals first
                      | (have hp2 : r.pi.2 = false := by assumption
                         go_meet
                         exact ⟨hp2, ⟨hw4⟩⟩)
                      | (have hp2 : r.pi.2 = true := by assumption
                         (try simp only [Exit.inBlock, Exit.then]); refine bodyPost_ret (results_none rfl _ _ _) rfl ?_
                         refine ⟨rfl, ?_⟩
                         rw [← A.out, pdq_done h12 hl0 (by rw [HRD.out]; exact hp2), HRD.out]
                         exact hw4)
                case rest =>
                  obtain ⟨hp2, HSU5⟩ := hcut
                  obtain ⟨D, hD⟩ : ∃ D, r.pi.1 = D := ⟨_, rfl⟩
                  have HD := Aside0.mk hD
                  rw [hD] at HSU5 HS3 HB3
                  have HP2 := Aside0.mk hp2
                  obtain ⟨p, hp⟩ : ∃ p, r.pivot = p := ⟨_, rfl⟩
                  have HP := Aside0.mk hp
                  rw [hp] at hpv ⊢
                  clear hD hp2 hp
                  obtain ⟨G, hG⟩ : ∃ G : Nat → Int, ∀ t, G t = D[t]! := ⟨fun t => D[t]!, fun _ => rfl⟩
                  have HG := Aside0.mk hG
                  clear hG
                  have hcw := SU.cells HSU5.out HR.out (HSZ.out _ HS3.out) (n := n) (by rw [← HSZ.out _ HS3.out]; exact (HSN.out _ HS3.out).symm) G HG.out
                  have vp := hcw p (by omega)
                  go_upto_region 17 with fail
                  go_cut [87] from 19 (fun s87 wx => s87 = .bool (decide (a' > 0) && !ltInt (G (a' - 1)) (G p)) ∧ Aside0 (SU w0 bk D wx))
                  case first =>
                    rcases Nat.eq_zero_or_pos a' with ha0 | ha0
                    · have ha0z : decide ((a' : Int) > 0) = false := decide_eq_false (by omega)
                      clear hcw vp
                      go_big_quiet (first | (go_at_call 91; refine Calls.quiet_of_same (Less_T _ _ _)))
                      go_wp2_with fail
                      go_meet
                      case rel => exact ⟨by simp [ha0], ⟨SW.drewN HSU5.out nq⟩⟩
                    · obtain ⟨ap, rfl⟩ : ∃ q, a' = q + 1 := ⟨a' - 1, by omega⟩
                      have ha0z : decide (((ap + 1 : Nat) : Int) > 0) = true := decide_eq_true (by omega)
                      have v1 := hcw ap (by omega)
                      clear hcw
                      go_big_quiet (first | (go_at_call 91; refine Calls.quiet_of_same (Less_T _ _ _)))
                      go_wp2_with fail
                      go_meet
                      case rel => exact ⟨by simp, ⟨SW.drewN HSU5.out nq⟩⟩
                  case rest =>
                    obtain ⟨rfl, HSU6⟩ := hcut
                    clear hcw vp
                    have H87 : Aside0 (∀ x, (decide (a' > 0) && !ltInt (G (a' - 1)) (G p)) = x → (decide (a' > 0) && !ltInt (rd ltInt dk a' b' lim wb wp).pi.1[a' - 1]! (rd ltInt dk a' b' lim wb wp).pi.1[(rd ltInt dk a' b' lim wb wp).pivot]!) = x) := ⟨fun x hx => by rw [← hx, HRD.out, HD.out, HP.out, HG.out, HG.out]⟩
                    cases h87 : (decide (a' > 0) && !ltInt (G (a' - 1)) (G p))
                    · have E87 := Aside0.mk (H87.out _ h87)
                      clear h87
                      obtain ⟨mid, ap, d4, hx⟩ : ∃ mid ap d4, Sort.partition ltInt D a' b' p = (mid, ap, d4) := ⟨(Sort.partition ltInt D a' b' p).1, (Sort.partition ltInt D a' b' p).2.1, (Sort.partition ltInt D a' b' p).2.2, rfl⟩
                      obtain ⟨r1, r2, r3, r4, r5, r6, r7⟩ := round_part SWOI (partition_holds ltInt) hpv.1 hpv.2 (show b' ≤ D.size by rw [HSN.out _ HS3.out]; exact hb') HB3.out hx
                      have R3 := Aside0.mk r3
                      have R4 := Aside0.mk r4
                      have R5 := Aside0.mk r5
                      have R6 := Aside0.mk r6
                      have R7 := Aside0.mk r7
                      have hc22 := part_T w0 bk c a' b' p d0 D wc HR.out (HSZ.out _ HS3.out) HSU6.out hpv.1 hpv.2 (by rw [HSN.out _ HS3.out]; exact hb') (by rw [HSN.out _ HS3.out]; exact hl)
                      rw [HSN.out _ HS3.out, hx] at hc22
                      have HX : Aside0 (Sort.partition ltInt (rd ltInt dk a' b' lim wb wp).pi.1 a' b' (rd ltInt dk a' b' lim wb wp).pivot = (mid, ap, d4)) := ⟨by rw [HRD.out, HD.out, HP.out]; exact hx⟩
                      clear hx r3 r4 r5 r6 r7
                      go_upto_if 113 with (go_at_call 93; refine hc22.mono ?_; rintro e w7 ⟨rfl, hw7⟩)
                      have HSU7 := Aside0.mk hw7
                      clear hw7 hc22
                      have H4 : Aside0 (d4.size = n) := ⟨R3.out.trans (HSN.out _ HS3.out)⟩
                      by_cases h4 : mid - a' < b' - mid
                      · have h4z : (mid : Int) - (a' : Int) < (b' : Int) - (mid : Int) := by omega
                        have hih := IH.out a' mid r.lim d4 w7 (by omega) (HSZ.out _ (R3.out.trans HS3.out)) HSU7.out (by omega) (by rw [H4.out]; omega) (by rw [H4.out]; exact hl) (by omega) R4.out
                        rw [H4.out] at hih
                        obtain ⟨pL, sL⟩ := pdq_sorts ltInt SWOI d4 a' mid r.lim true true (by omega) (by rw [H4.out]; omega) R4.out
                        have PL := Aside0.mk pL
                        have SL := Aside0.mk sL
                        clear pL sL
                        go_wp2_with (go_at_call 72; refine hih.mono ?_; rintro e w8 ⟨rfl, hw8⟩)
                        go_roundg (b' - (mid + 1))
                        case measure => omega
                        case rel =>
                          refine ⟨mid + 1, b', r.lim, decide (mid - a' ≥ (b' - a') / 8), ap, pdq ltInt d4 a' mid r.lim true true, by simp, rfl, rfl, ?_, rfl, by omega, by omega, Nat.le_refl _, by omega, Nat.le_trans hrl hlim, ⟨by rw [PL.out.1]; exact H4.out⟩, ⟨(R6.out _ PL.out SL.out).1⟩, ⟨hw8⟩, ⟨?_⟩⟩
                          · exact congrArg Value.bool (eighth (by omega) (by omega))
                          · rw [← A.out, pdq_left h12 hl0 (by rw [HRD.out]; exact HP2.out) E87.out (by rw [HX.out]; exact ⟨r1, r2⟩) (by rw [HX.out]; exact h4), HX.out, HRD.out]
                      · have h4z : ¬ ((mid : Int) - (a' : Int) < (b' : Int) - (mid : Int)) := by omega
                        have hih := IH.out (mid + 1) b' r.lim d4 w7 (by omega) (HSZ.out _ (R3.out.trans HS3.out)) HSU7.out (by omega) (by rw [H4.out]; omega) (by rw [H4.out]; exact hl) (by omega) R5.out
                        rw [H4.out] at hih
                        obtain ⟨pL, sL⟩ := pdq_sorts ltInt SWOI d4 (mid + 1) b' r.lim true true (by omega) (by rw [H4.out]; omega) R5.out
                        have PL := Aside0.mk pL
                        have SL := Aside0.mk sL
                        clear pL sL
                        go_wp2_with (go_at_call 72; refine hih.mono ?_; rintro e w8 ⟨rfl, hw8⟩)
                        go_roundg (mid - a')
                        case measure => omega
                        case rel =>
                          refine ⟨a', mid, r.lim, decide (b' - mid ≥ (b' - a') / 8), ap, pdq ltInt d4 (mid + 1) b' r.lim true true, rfl, rfl, rfl, ?_, rfl, by omega, by omega, Nat.le_refl _, by omega, Nat.le_trans hrl hlim, ⟨by rw [PL.out.1]; exact H4.out⟩, ⟨(R7.out _ PL.out SL.out).1⟩, ⟨hw8⟩, ⟨?_⟩⟩
                          · exact congrArg Value.bool (eighth (by omega) (by omega))
                          · rw [← A.out, pdq_right h12 hl0 (by rw [HRD.out]; exact HP2.out) E87.out (by rw [HX.out]; exact ⟨r1, r2⟩) (by rw [HX.out]; exact h4), HX.out, HRD.out]
                    · have E87 := Aside0.mk (H87.out _ h87)
                      have h87' := h87
                      simp only [Bool.and_eq_true, decide_eq_true_eq, Bool.not_eq_true'] at h87'
                      obtain ⟨mid, d4, hx⟩ : ∃ mid d4, partitionEqual ltInt D a' b' p = (mid, d4) := ⟨(partitionEqual ltInt D a' b' p).1, (partitionEqual ltInt D a' b' p).2, rfl⟩
                      obtain ⟨r1, r2, r3, r4, _⟩ := round_eq SWOI (partitionEqual_holds ltInt) h87'.1 hpv.1 hpv.2 (show b' ≤ D.size by rw [HSN.out _ HS3.out]; exact hb') HB3.out (by rw [← HG.out, ← HG.out]; exact h87'.2) hx
                      have R3 := Aside0.mk r3
                      have R4 := Aside0.mk r4
                      have hc21 := partEq_T w0 bk c a' b' p d0 D wc HR.out (HSZ.out _ HS3.out) HSU6.out hpv.1 hpv.2 (by rw [HSN.out _ HS3.out]; exact hb') (by rw [HSN.out _ HS3.out]; exact hl)
                      rw [HSN.out _ HS3.out, hx] at hc21
                      have HX : Aside0 (partitionEqual ltInt (rd ltInt dk a' b' lim wb wp).pi.1 a' b' (rd ltInt dk a' b' lim wb wp).pivot = (mid, d4)) := ⟨by rw [HRD.out, HD.out, HP.out]; exact hx⟩
                      clear hx r3 r4 h87 h87'
                      go_wp2_with (go_at_call 92; refine hc21.mono ?_; rintro e w7 ⟨rfl, hw7⟩)
                      go_roundg (b' - mid)
                      case measure => omega
                      case rel =>
                        exact ⟨mid, b', r.lim, wb, wp, d4, rfl, rfl, rfl, rfl, rfl, r2, hb', Nat.le_refl _, by omega, Nat.le_trans hrl hlim, ⟨R3.out.trans (HSN.out _ HS3.out)⟩, R4, ⟨hw7⟩, ⟨by rw [← A.out, pdq_eq h12 hl0 (by rw [HRD.out]; exact HP2.out) E87.out (by rw [HX.out]; exact ⟨r1, r2⟩), HX.out, HRD.out]⟩⟩
set_option maxHeartbeats 4000000 in
set_option maxRecDepth 100000 in
theorem Sort_T (w0 : World) (bk c : Nat) (d0 d : Array Int) (w : World) (R : RU w0 bk d0) (hs : d.size = d0.size) (h : SU w0 bk d w) (hl : d.size ≤ 1000000) :
    Calls Tryd.prog 53 #[.slice (some ⟨bk, 0, none⟩) d.size c] w fun e w' => e = .returned (.tuple #[]) ∧ SU w0 bk (Sort.sort ltInt d) w' := by
  have e0 : Sort.sort ltInt d = pdq ltInt d 0 d.size (bitsLen d.size) true true := rfl
  rw [e0]
  have hk : bitsLen d.size ≤ 62 := (bitsLen_le_iff d.size 62).2 (by omega)
  have KL := Aside0.mk (fun W => Len_T d.size (by omega) W)
  rw [bitLen_eq _ (by omega)] at KL
  have K := Aside0.mk (pdq_T w0 bk c d0 ⟨R⟩ (d.size + 1) 0 d.size (bitsLen d.size) d w (by omega) hs h (Nat.zero_le _) (Nat.le_refl _) (by omega) (by omega) (Or.inl rfl))
  have hw : IntKind.u64.wrap ((d.size : Nat) : Int) = ((d.size : Nat) : Int) := by simp only [IntKind.wrap, IntKind.bits, IntKind.signed]; simp; omega
  obtain ⟨m, hm⟩ : ∃ m, bitsLen d.size = m := ⟨_, rfl⟩
  rw [hm] at KL K ⊢
  clear e0 R hs h hk hm
  go_enter Tryd.func53, Tryd.ntmps53
  go_wp2_with (fail)
  refine (KL.out _).mono ?_
  rintro e w1 ⟨rfl, rfl⟩
  go_wp2_with (fail)
  refine K.out.mono ?_
  rintro e w1 ⟨rfl, hS⟩
  go_wp2
  go_end0
  exact ⟨rfl, hS⟩
theorem SortOK_T {n : Nat} (h : n ≤ 1000000) : ∀ (w : World) (bk c : Nat) (d : Array Int), d.size = n → RU w bk d →
    Calls Tryd.prog 53 #[.slice (some ⟨bk, 0, none⟩) d.size c] w fun e w' => e = .returned (.tuple #[]) ∧ SU w bk (Sort.sort Sort.ltInt d) w' := fun w bk c d hn R => Sort_T w bk c d d w R rfl (SW.start R.hH) (by omega)
end Go.Proofs.YtplhihakeodadaaDoor.Sg
namespace Go.Proofs.YtplhihakeodadaaDoor.Sg
open Go Go.RowKit Go.Proofs Go.Proofs.YtplhihakeodadaaDoor.IMap Go.Proofs.YtplhihakeodadaaDoorW.PrintWords Go.Proofs.YtplhihakeodadaaDoorW.PrintLast Go.Proofs.YtplhihakeodadaaDoorW.PrintMore
set_option linter.unusedVariables false
set_option linter.unusedSimpArgs false
set_option maxHeartbeats 4000000 in
set_option maxRecDepth 100000 in
theorem CountE_T (N : Int) (E : List Stp) (A : Option Addr) (c : Nat) (w : World) (hT : TabW w) (h : Kd.C kP w A E.length E) (hl : E.length ≤ 1000000000) (hN : -9223372036854775808 ≤ N ∧ N < 9223372036854775808) (ho : orderErr N E ≠ 0) :
    Calls Tryd.prog 52 #[.agg #[.int .i64 N, .slice A E.length c]] w fun e w' => e = .returned (.tuple #[.map none, .int .i64 (orderErr N E)]) ∧ Below w.heap.size w w' := by
  have hb0 := below_alloc (Below.refl w.heap.size w) (.cells #[.int .i64 N, .slice A E.length c] 62)
  have HX := Aside0.mk (heap_last w (.cells #[.int .i64 N, .slice A E.length c] 62))
  have K := Aside0.mk (Order_T N E A c (w.alloc (.cells #[.int .i64 N, .slice A E.length c] 62)) (hT.below hb0) (Kd.C_below h hb0) (by omega) hN)
  have HB := Aside0.mk hb0
  have h0 := (blk_cell HX.out) 0
  have h1 := (blk_cell HX.out) 1
  obtain ⟨z, hz⟩ : ∃ z, orderErr N E = z := ⟨_, rfl⟩
  rw [hz] at K ho ⊢
  have e1 : (z != 0) = true := by rw [bne_iff_ne]; exact ho
  clear hb0 h hT hz hl hN ho
  go_enter Tryd.func52, Tryd.ntmps52
  go_wp2_with (fail)
  refine K.out.mono ?_
  rintro e w1 ⟨v1, rfl, hb⟩
  have HB1 := Aside0.mk (below_step HB.out hb)
  clear K hb h0 h1
  go_wp2
  refine bodyPost_ret (v := .tuple #[.map none, .int .i64 z]) (by simp [results, Tryd.results52, go_sem]) rfl ?_
  exact ⟨rfl, HB1.out⟩
set_option maxHeartbeats 4000000 in
set_option maxRecDepth 100000 in
theorem AllE_T (N : Int) (E : List Stp) (A : Option Addr) (c : Nat) (w : World) (hT : TabW w) (h : Kd.C kP w A E.length E) (hl : E.length ≤ 1000000000) (hN : -9223372036854775808 ≤ N ∧ N < 9223372036854775808) (ho : orderErr N E ≠ 0) :
    Calls Tryd.prog 32 #[.agg #[.int .i64 N, .slice A E.length c]] w fun e w' => e = .returned (.tuple #[.slice none 0 0, .int .i64 (orderErr N E)]) ∧ Below w.heap.size w w' := by
  have hb0 := below_alloc (Below.refl w.heap.size w) (.cells #[.int .i64 N, .slice A E.length c] 62)
  have HX := Aside0.mk (heap_last w (.cells #[.int .i64 N, .slice A E.length c] 62))
  have K := Aside0.mk (CountE_T N E A c (w.alloc (.cells #[.int .i64 N, .slice A E.length c] 62)) (hT.below hb0) (Kd.C_below h hb0) hl hN ho)
  have HB := Aside0.mk hb0
  have h0 := (blk_cell HX.out) 0
  have h1 := (blk_cell HX.out) 1
  obtain ⟨z, hz⟩ : ∃ z, orderErr N E = z := ⟨_, rfl⟩
  rw [hz] at K ho ⊢
  have e1 : (z != 0) = true := by rw [bne_iff_ne]; exact ho
  clear hb0 h hT hz hl hN ho
  go_enter Tryd.func32, Tryd.ntmps32
  go_wp2_with (fail)
  refine K.out.mono ?_
  rintro e w1 ⟨rfl, hb⟩
  have HB1 := Aside0.mk (below_step HB.out hb)
  clear K hb h0 h1
  go_wp2
  refine bodyPost_ret (v := .tuple #[.slice none 0 0, .int .i64 z]) (by simp [results, Tryd.results32, go_sem]) rfl ?_
  exact ⟨rfl, HB1.out⟩
set_option maxHeartbeats 4000000 in
set_option maxRecDepth 100000 in
theorem WaysE_T (N : Int) (E : List Stp) (A : Option Addr) (c : Nat) (w : World) (hT : TabW w) (h : Kd.C kP w A E.length E) (hl : E.length ≤ 1000000000) (hN : -9223372036854775808 ≤ N ∧ N < 9223372036854775808) (ho : orderErr N E ≠ 0) :
    Calls Tryd.prog 33 #[.agg #[.int .i64 N, .slice A E.length c]] w fun e w' => e = .returned (.tuple #[.int .i64 0, .int .i64 (orderErr N E)]) ∧ Below w.heap.size w w' := by
  have hb0 := below_alloc (Below.refl w.heap.size w) (.cells #[.int .i64 N, .slice A E.length c] 62)
  have HX := Aside0.mk (heap_last w (.cells #[.int .i64 N, .slice A E.length c] 62))
  have K := Aside0.mk (CountE_T N E A c (w.alloc (.cells #[.int .i64 N, .slice A E.length c] 62)) (hT.below hb0) (Kd.C_below h hb0) hl hN ho)
  have HB := Aside0.mk hb0
  have h0 := (blk_cell HX.out) 0
  have h1 := (blk_cell HX.out) 1
  obtain ⟨z, hz⟩ : ∃ z, orderErr N E = z := ⟨_, rfl⟩
  rw [hz] at K ho ⊢
  have e1 : (z != 0) = true := by rw [bne_iff_ne]; exact ho
  clear hb0 h hT hz hl hN ho
  go_enter Tryd.func33, Tryd.ntmps33
  go_wp2_with (fail)
  refine K.out.mono ?_
  rintro e w1 ⟨rfl, hb⟩
  have HB1 := Aside0.mk (below_step HB.out hb)
  clear K hb h0 h1
  go_wp2
  refine bodyPost_ret (v := .tuple #[.int .i64 0, .int .i64 z]) (by simp [results, Tryd.results33, go_sem]) rfl ?_
  exact ⟨rfl, HB1.out⟩
/-! ### The closed sets, rising -/
def clF (E : List Stp) (m : Nat) : List Nat := (List.range m).filter fun t => closedE E t
def clL (E : List Stp) (m : Nat) : List Int := (clF E m).map fun t : Nat => (t : Int)
theorem clF_succ (E : List Stp) (m : Nat) : clF E (m + 1) = clF E m ++ if closedE E m = true then [m] else [] := by
  unfold clF
  rw [List.range_succ, List.filter_append]
  cases h : closedE E m <;> simp [h]
theorem clF_mem {E : List Stp} {m t : Nat} : t ∈ clF E m ↔ t < m ∧ closedE E t = true := by
  unfold clF
  rw [List.mem_filter, List.mem_range]
theorem clF_pre (E : List Stp) {m M : Nat} (h : m ≤ M) : ∃ r, clF E M = clF E m ++ r := by
  induction M with
  | zero => obtain rfl : m = 0 := by omega
            exact ⟨[], by simp⟩
  | succ M ih =>
    rcases Nat.lt_or_ge m (M + 1) with h1 | h1
    · obtain ⟨r, hr⟩ := ih (by omega)
      exact ⟨r ++ _, by rw [clF_succ, hr, List.append_assoc]⟩
    · obtain rfl : m = M + 1 := by omega
      exact ⟨[], by simp⟩
theorem clF_at {E : List Stp} {s M : Nat} (hs : s < M) (hc : closedE E s = true) : (clF E s).length < (clF E M).length ∧ (clF E M).getD (clF E s).length 0 = s := by
  obtain ⟨r, hr⟩ := clF_pre E (show s + 1 ≤ M by omega)
  rw [clF_succ, if_pos hc] at hr
  rw [hr]
  constructor
  · simp only [List.length_append, List.length_singleton]; omega
  · rw [List.getD_eq_getElem?_getD, List.getElem?_append_left (by simp), List.getElem?_append_right (Nat.le_refl _)]
    simp
theorem clL_len (E : List Stp) (m : Nat) : (clL E m).length = (clF E m).length := by simp [clL]
theorem clL_get (E : List Stp) (m i : Nat) : (clL E m).getD i 0 = (((clF E m).getD i 0 : Nat) : Int) := by
  unfold clL
  rw [List.getD_eq_getElem?_getD, List.getElem?_map, List.getD_eq_getElem?_getD]
  cases (clF E m)[i]? <;> rfl
theorem clF_len (E : List Stp) (m : Nat) : (clF E m).length ≤ m := by
  have := List.length_filter_le (fun t => closedE E t) (List.range m)
  rw [List.length_range] at this
  exact this
theorem clF_sorted (E : List Stp) (m : Nat) : (clF E m).Pairwise (· < ·) := List.Pairwise.filter _ List.pairwise_lt_range
theorem all_is {E : List Stp} {N : Nat} (hN : N ≤ 10) (hR : rightG (N : Int) E = true) (hc : ¬ Circ E N) : (keys (countM E N)).mergeSort (fun x y => decide (x ≤ y)) = clL E (2 ^ N) ∧ (countM E N).length = (clF E (2 ^ N)).length := by
  have hE := (rightG_in hR).1
  have hEN := right_edges hR
  have hnd : (clL E (2 ^ N)).Nodup := by
    unfold clL
    refine List.Pairwise.map _ (fun a b h => ?_) (clF_sorted E (2 ^ N))
    show (a : Int) ≠ (b : Int)
    have : a < b := h
    omega
  have hp : (keys (countM E N)).Perm (clL E (2 ^ N)) := (List.perm_ext_iff_of_nodup (count_nd hN) hnd).2 fun x => by
    rw [count_keys hN]
    unfold clL
    rw [List.mem_map]
    constructor
    · rintro ⟨t, rfl, ht⟩
      have := (ways_iff hE hEN hc t).1 ht
      exact ⟨t, clF_mem.2 ⟨this.1, cl_iff.2 this.2⟩, rfl⟩
    · rintro ⟨t, ht, rfl⟩
      have := clF_mem.1 ht
      exact ⟨t, rfl, (ways_iff hE hEN hc t).2 ⟨this.1, cl_iff.1 this.2⟩⟩
  constructor
  · rw [msort_perm hp]
    refine List.mergeSort_of_pairwise ?_
    unfold clL
    refine List.Pairwise.map _ (fun a b h => ?_) (clF_sorted E (2 ^ N))
    have : a < b := h
    exact decide_eq_true (by omega)
  · have := hp.length_eq
    rw [clL_len] at this
    rw [← this, keys, List.length_map]
theorem C_cellU {w : World} {g n : Nat} {xs : List Int} (h : Kd.C kU w (some ⟨g, 0, none⟩) n xs) (i : Nat) (hi : i < n) : w.cell? ⟨g, i, none⟩ = some (.int .u64 (xs.getD i 0)) := by
  obtain ⟨ad, e, hc⟩ := (Kd.reads_of_C (d := (0 : Int)) h).2.2 (by omega)
  injection e with e
  subst e
  have := hc i hi
  have e : (⟨g, 0, none⟩ : Addr).add i = ⟨g, i, none⟩ := by
    unfold Addr.add
    split <;> simp_all
  rw [e] at this
  exact this
/-- All of a right graph without a circle. -/
theorem AllR_T (N : Nat) (E : List Stp) (A : Option Addr) (c : Nat) (w : World) (hT : TabW w) (h : Kd.C kP w A E.length E) (hN : N ≤ 10) (hR : rightG (N : Int) E = true) (hc : ¬ Circ E N) :
    Calls Tryd.prog 32 #[.agg #[.int .i64 (N : Int), .slice A E.length c]] w fun e w' => ∃ g c', e = .returned (.tuple #[.slice (some ⟨g, 0, none⟩) (clF E (2 ^ N)).length c', .int .i64 0]) ∧ Kd.C kU w' (some ⟨g, 0, none⟩) (clF E (2 ^ N)).length (clL E (2 ^ N)) ∧ Below w.heap.size w w' := by
  have ho := (orderErr_iff hR).2 hc
  have hl := count_len (E := E) hN
  have K := AllG_T N E A c w hT h hR ho (count_ok hN) (count_ne hN) (by omega) (SortOK_T (by omega))
  rw [(all_is hN hR hc).1, (all_is hN hR hc).2] at K
  exact K
/-- Ways of a right graph without a circle. -/
theorem WaysR_T (N : Nat) (E : List Stp) (A : Option Addr) (c : Nat) (w : World) (hT : TabW w) (h : Kd.C kP w A E.length E) (hN : N ≤ 10) (hR : rightG (N : Int) E = true) (hc : ¬ Circ E N) :
    Calls Tryd.prog 33 #[.agg #[.int .i64 (N : Int), .slice A E.length c]] w fun e w' => e = .returned (.tuple #[.int .i64 ((ways E N (2 ^ N - 1) : Nat) : Int), .int .i64 0]) ∧ Below w.heap.size w w' := by
  have K := Ways_T N E A c w hT h hR ((orderErr_iff hR).2 hc) (count_ok hN) (by omega) (by rw [count_way hN]; have := ways_small (E := E) hN (2 ^ N - 1); omega)
  rw [count_way hN] at K
  exact K
end Go.Proofs.YtplhihakeodadaaDoor.Sg
