/- lattice: the law LatticeWay, walked. (written by gen_lwy.py) -/
import Derived.Test.YtplhihakeodadaaDoorLtWay
namespace Go.Proofs.YtplhihakeodadaaDoor.Sg
open Go Go.RowKit Go.Proofs.YtplhihakeodadaaDoorW.PrintWords Go.Proofs.YtplhihakeodadaaDoorW.PrintLast Go.Proofs.YtplhihakeodadaaDoorW.PrintMore
set_option linter.unusedVariables false
set_option linter.unusedSimpArgs false
theorem range_split {N M : Nat} (h : N ≤ M) : List.range M = List.range N ++ List.range' N (M - N) := by
  rw [List.range_eq_range', List.range_eq_range', show M = N + (M - N) by omega, ← List.range'_append]
  simp
theorem nodes_filter {E : List Stp} {N s : Nat} (hN : N ≤ 64) : nodes (accR E s N) = (List.range N).filter (fun i => rdy E s i) := by
  unfold nodes
  rw [range_split hN, List.filter_append]
  have h1 : (List.range' N (64 - N)).filter (fun i => (accR E s N).testBit i) = [] := by
    rw [List.filter_eq_nil_iff]
    intro i hi
    rw [List.mem_range'_1] at hi
    rw [accR_bit, decide_eq_false (by omega)]
    simp
  rw [h1, List.append_nil]
  refine List.filter_congr fun i hi => ?_
  rw [accR_bit, decide_eq_true (List.mem_range.1 hi), Bool.true_and]
theorem wayRun_take (E : List Stp) (N : Nat) (ps : List Int) : ∀ (f : Nat) (out : List Nat) (s : Nat), (wayRun E N ps f out s).take out.length = out ∧ (wayRun E N ps f out s).length = out.length + f
  | 0, out, s => ⟨List.take_length .., rfl⟩
  | f + 1, out, s => by
    obtain ⟨h1, h2⟩ := wayRun_take E N ps f (out ++ [wayNext E N ps out.length s]) (s ||| 2 ^ wayNext E N ps out.length s)
    rw [wayRun_succ]
    rw [List.length_append, List.length_singleton] at h1 h2
    refine ⟨?_, by omega⟩
    have h3 := congrArg (List.take out.length) h1
    rw [List.take_take, Nat.min_eq_left (by omega), List.take_append_of_le_length (by omega), List.take_length] at h3
    exact h3
theorem wayRun_get {E : List Stp} {N : Nat} {ps : List Int} {f s : Nat} {out W : List Nat} (h : wayRun E N ps (f + 1) out s = W) : W.take (out.length + 1) = out ++ [wayNext E N ps out.length s] ∧ W.getD out.length 0 = wayNext E N ps out.length s := by
  rw [wayRun_succ] at h
  have h1 := (wayRun_take E N ps f (out ++ [wayNext E N ps out.length s]) (s ||| 2 ^ wayNext E N ps out.length s)).1
  rw [h, List.length_append, List.length_singleton] at h1
  refine ⟨h1, ?_⟩
  have h2 := congrArg (fun l => l.getD out.length 0) h1
  simp only [List.getD_eq_getElem?_getD] at h2 ⊢
  rw [List.getElem?_take_of_lt (by omega)] at h2
  rw [h2]
  simp
set_option maxHeartbeats 4000000 in
set_option maxRecDepth 100000 in
theorem WayE_T (N : Int) (E : List Stp) (A : Option Addr) (c : Nat) (vp : Value) (w : World) (hT : TabW w) (h : Kd.C kP w A E.length E) (hl : E.length ≤ 1000000000) (hN : -9223372036854775808 ≤ N ∧ N < 9223372036854775808) (ho : orderErr N E ≠ 0) :
    Calls Tryd.prog 40 #[.agg #[.int .i64 N, .slice A E.length c], vp] w fun e w' => e = .returned (.tuple #[.slice none 0 0, .int .i64 (orderErr N E)]) ∧ Below w.heap.size w w' := by
  have hb0 := below_alloc (Below.refl w.heap.size w) (.cells #[.int .i64 N, .slice A E.length c] 62)
  have HX := Aside0.mk (heap_last w (.cells #[.int .i64 N, .slice A E.length c] 62))
  have K := Aside0.mk (Order_T N E A c (w.alloc (.cells #[.int .i64 N, .slice A E.length c] 62)) (hT.below hb0) (Kd.C_below h hb0) (by omega) hN)
  have HB := Aside0.mk hb0
  have h0 := (blk_cell HX.out) 0
  have h1 := (blk_cell HX.out) 1
  obtain ⟨z, hz⟩ : ∃ z, orderErr N E = z := ⟨_, rfl⟩
  rw [hz] at K ho ⊢
  have e1 : (z != 0) = true := by rw [bne_iff_ne]; exact ho
  clear hb0 h hT hz hl hN ho
  go_enter Tryd.func40, Tryd.ntmps40
  go_wp2_with (fail)
  refine K.out.mono ?_
  rintro e w1 ⟨v1, rfl, hb⟩
  have HB1 := Aside0.mk (below_step HB.out hb)
  clear K hb h0 h1
  go_wp2
  refine bodyPost_ret (v := .tuple #[.slice none 0 0, .int .i64 z]) (by simp [results, Tryd.results40, go_sem]) rfl ?_
  exact ⟨rfl, HB1.out⟩
set_option maxHeartbeats 16000000 in
set_option maxRecDepth 100000 in
theorem LatticeWay_main (N : Int) (E : List Stp) (A : Option Addr) (c : Nat) (ps : List Int) (Ap : Option Addr) (cp : Nat) (w : World) (hT : TabW w) (h : Kd.C kP w A E.length E) (hP : Kd.C kI w Ap ps.length ps) (hN : -9223372036854775808 ≤ N ∧ N < 9223372036854775808) :
    Calls Tryd.prog 14 #[.agg #[.int .i64 N, .slice A E.length c], .slice Ap ps.length cp] w fun e w' => e = .returned (.bool true) ∧ Below w.heap.size w w' := by
  have hb0 := below_alloc (Below.refl w.heap.size w) (.cells #[.int .i64 N, .slice A E.length c] 62)
  have HX := Aside0.mk (heap_last w (.cells #[.int .i64 N, .slice A E.length c] 62))
  have HB := Aside0.mk hb0
  have K0 := Aside0.mk (Anchor_T (w.alloc (.cells #[.int .i64 N, .slice A E.length c] 62)) (hT.below hb0))
  have KP := Aside0.mk (fun W (hb : Below w.heap.size w W) => plain_T N E A c W (Kd.C_below h hb) hN)
  have HN := Aside0.mk hN
  have HC := Aside0.mk h
  have HCP := Aside0.mk hP
  have HT := Aside0.mk hT
  have h0 := (blk_cell HX.out) 0
  have h1 := (blk_cell HX.out) 1
  clear hb0 h hT hP
  obtain ⟨hN1, hN2⟩ := hN
  go_enter Tryd.func14, Tryd.ntmps14
  go_wp2_with (fail)
  refine K0.out.mono ?_
  rintro e w1 ⟨rfl, hb⟩
  have HB1 := Aside0.mk (below_step HB.out hb)
  have HX1 := Aside0.mk (blk_below HX.out hb)
  clear K0 hb h0 h1
  have h0 := (blk_cell HX1.out) 0
  have h1 := (blk_cell HX1.out) 1
  go_wp2_with (fail)
  refine (KP.out w1 HB1.out).mono ?_
  rintro e w2 ⟨rfl, hb⟩
  have HB2' := Aside0.mk (below_step HB1.out hb)
  have HX2' := Aside0.mk (blk_below HX1.out hb)
  clear KP hb h0 h1
  have HB2 := Aside0.mk (below_alloc HB2'.out (.cells #[.int .i64 N, .slice A E.length c] 55))
  have HX2 := Aside0.mk (blk_alloc HX2'.out (.cells #[.int .i64 N, .slice A E.length c] 55))
  have HP2 := Aside0.mk (heap_last w2 (.cells #[.int .i64 N, .slice A E.length c] 55))
  have h0 := (blk_cell HX2.out) 0
  have h1 := (blk_cell HX2.out) 1
  have hp0 := (blk_cell HP2.out) 0
  have hp1 := (blk_cell HP2.out) 1
  have HW2 : Aside0 (w.heap.size ≤ w2.heap.size) := ⟨below_size HB2'.out⟩
  clear HB1 HX1 HB HX HB2' HX2'
  by_cases hok : okG N E = true
  · rw [hok]
    by_cases hlp : ps.length ≤ 100
    · have d1 : decide ((ps.length : Int) > 100) = false := decide_eq_false (by omega)
      have d2 : ¬ (100 : Int) < (ps.length : Int) := by omega
      have hl := okG_len hok
      have HOK := Aside0.mk hok
      have HL : Aside0 (E.length ≤ 60) := ⟨hl⟩
      have HLP := Aside0.mk hlp
      have KR := Aside0.mk (fun W (hb : Below w.heap.size w W) => RRight_T N E A c W (Kd.C_below HC.out hb) (by omega) HN.out)
      clear hok hlp hl
      cases hr : rightG N E with
      | false =>
        have ho : orderErr N E = 20 := by unfold orderErr; rw [hr]; rfl
        have KW := Aside0.mk (WayE_T N E A c (.slice Ap ps.length cp) _ (HT.out.below HB2.out) (Kd.C_below HC.out HB2.out) (by have := HL.out; omega) HN.out (by rw [ho]; decide))
        rw [ho] at KW
        rw [hr] at KR
        clear hr ho
        go_wp2_with (fail)
        refine KW.out.mono ?_
        rintro e w3 ⟨rfl, hb⟩
        have HB3 := Aside0.mk (below_step HB2.out hb)
        have HP3 := Aside0.mk (blk_below HP2.out hb)
        clear KW hb h0 h1 hp0 hp1
        have hp0 := (blk_cell HP3.out) 0
        have hp1 := (blk_cell HP3.out) 1
        go_wp2_with (fail)
        refine (KR.out _ HB3.out).mono ?_
        rintro e w4 ⟨rfl, hb⟩
        have HB4 := Aside0.mk (below_step HB3.out hb)
        clear KR hb hp0 hp1
        go_wp2
        go_ret
        exact ⟨by simp, HB4.out⟩
      | true =>
        have h0n := (rightG_in hr).2.1
        obtain ⟨n, rfl⟩ := Int.eq_ofNat_of_zero_le h0n.1
        have HR := Aside0.mk hr
        have KCI := Aside0.mk (fun W (hb : Below w.heap.size w W) => Circle_T n E A c W (Kd.C_below HC.out hb) hr (by have := HL.out; omega))
        rw [hr] at KR
        have hn10 := okG_ten HOK.out hr
        have HN10 := Aside0.mk hn10
        by_cases hc : Circ E n
        · have ho : orderErr (n : Int) E = 21 := by
            rcases orderErr_val hr with h | h
            · exact absurd hc ((orderErr_iff hr).1 h)
            · exact h
          have KW := Aside0.mk (WayE_T n E A c (.slice Ap ps.length cp) _ (HT.out.below HB2.out) (Kd.C_below HC.out HB2.out) (by have := HL.out; omega) HN.out (by rw [ho]; decide))
          rw [ho] at KW
          have HCC := Aside0.mk hc
          clear hr ho h0n hn10 hc
          go_wp2_with (fail)
          refine KW.out.mono ?_
          rintro e w3 ⟨rfl, hb⟩
          have HB3 := Aside0.mk (below_step HB2.out hb)
          have HP3 := Aside0.mk (blk_below HP2.out hb)
          clear KW hb h0 h1 hp0 hp1
          have hp0 := (blk_cell HP3.out) 0
          have hp1 := (blk_cell HP3.out) 1
          go_wp2_with (fail)
          refine (KR.out _ HB3.out).mono ?_
          rintro e w4 ⟨rfl, hb⟩
          have HB4 := Aside0.mk (below_step HB3.out hb)
          have HP4 := Aside0.mk (blk_below HP3.out hb)
          clear KR hb hp0 hp1
          have hp0 := (blk_cell HP4.out) 0
          have hp1 := (blk_cell HP4.out) 1
          go_wp2_with (fail)
          refine (KCI.out _ HB4.out).mono ?_
          rintro e w5 ⟨b, rfl, hbc, hb⟩
          obtain rfl : b = true := hbc.2 HCC.out
          have HB5 := Aside0.mk (below_step HB4.out hb)
          clear KCI hb hbc hp0 hp1
          go_wp2
          go_ret
          exact ⟨by simp, HB5.out⟩
        · have ho := (orderErr_iff hr).2 hc
          have KW := Aside0.mk (Way_T n E A c ps Ap cp _ (HT.out.below HB2.out) (Kd.C_below HC.out HB2.out) (Kd.C_below HCP.out HB2.out) (by have := HLP.out; omega) hr ho)
          have HCC := Aside0.mk hc
          have HEE := Aside0.mk (rightG_in hr).1
          have HE2 := Aside0.mk (right_edges hr)
          obtain ⟨WR, hWR⟩ : ∃ l, wayRun E n ps n [] 0 = l := ⟨_, rfl⟩
          have hWL : WR.length = n := by rw [← hWR]; have := (wayRun_take E n ps n [] 0).2; simpa using this
          rw [hWR] at KW
          have HWR := Aside0.mk hWR
          have HWL := Aside0.mk hWL
          clear hr ho h0n hn10 hc hWR hWL
          go_wp2_with (fail)
          refine KW.out.mono ?_
          rintro e w3 ⟨v7, rfl, hr7, hb⟩
          obtain ⟨A7, c7, rfl⟩ := Kd.R_slice hr7
          have hC7 := (Kd.R_reads' hr7).2.2
          rw [List.length_map, HWL.out]
          have HC7 := Aside0.mk hC7
          have HB3 := Aside0.mk (below_step HB2.out hb)
          have HX3 := Aside0.mk (blk_below HX2.out hb)
          have HP3 := Aside0.mk (blk_below HP2.out hb)
          clear KW hb h0 h1 hp0 hp1 hr7 hC7
          have hp0 := (blk_cell HP3.out) 0
          have hp1 := (blk_cell HP3.out) 1
          go_wp2_with (fail)
          refine (KR.out _ HB3.out).mono ?_
          rintro e w4 ⟨rfl, hb⟩
          have HC8 := Aside0.mk (Kd.C_below HC7.out hb)
          have HB4 := Aside0.mk (below_step HB3.out hb)
          have HX4 := Aside0.mk (blk_below HX3.out hb)
          have HP4 := Aside0.mk (blk_below HP3.out hb)
          clear KR hb hp0 hp1
          have hp0 := (blk_cell HP4.out) 0
          have hp1 := (blk_cell HP4.out) 1
          go_wp2_with (fail)
          refine (KCI.out _ HB4.out).mono ?_
          rintro e w5 ⟨b, rfl, hbc, hb⟩
          obtain rfl : b = false := by
            cases b with
            | false => rfl
            | true => exact absurd (hbc.1 rfl) HCC.out
          have HC9 := Aside0.mk (Kd.C_below HC8.out hb)
          have HB5 := Aside0.mk (below_step HB4.out hb)
          have HX5 := Aside0.mk (blk_below HX4.out hb)
          have HP5 := Aside0.mk (blk_below HP4.out hb)
          clear KCI hb hbc hp0 hp1 HC7 HC8 HB3 HX3 HP3 HB4 HX4 HP4
          have h0 := (blk_cell HX5.out) 0
          have en : ((n : Int) != (n : Int)) = false := by simp
          go_wp2_with (fail)
          clear h0 en
          go_loopg [9, 60] n (fun kq v9 v60 w' => ∃ (k s : Nat), v9 = .int .u64 (s : Int) ∧ v60 = .int .i64 (k : Int) ∧ Aside0 (k + kq = n) ∧ Aside0 (Way n (WR.take k) s) ∧ Aside0 (Cl Prod.snd Prod.fst E s) ∧ Aside0 (wayRun E n ps kq (WR.take k) s = WR) ∧ Aside0 (Below w5.heap.size w5 w'))
          case atStart => exact ⟨0, 0, rfl, rfl, ⟨by omega⟩, ⟨Way.nil n⟩, ⟨cl_nil E⟩, HWR, ⟨Below.refl _ _⟩⟩
          case round =>
            obtain ⟨k, s, rfl, rfl, HJ, HW, HCL, HRN, HB6⟩ := hrel
            by_cases c1 : k < n
            · have e1 : decide (k < n) = true := decide_eq_true c1
              have e0 : (k : Int) < (n : Int) := by omega
              have HI := Aside0.mk c1
              have htl : (WR.take k).length = k := by rw [List.length_take, HWL.out]; omega
              obtain ⟨f, hf⟩ : ∃ f, gk = f + 1 := ⟨gk - 1, by have := HJ.out; omega⟩
              have hget := wayRun_get (hf ▸ HRN.out)
              rw [htl] at hget
              have hwn := way_next (ps := ps) k (by have := HN10.out; omega) HEE.out HE2.out HCC.out HW.out (by rw [htl]; exact c1)
              have hs64 : s < 2 ^ 64 := Nat.lt_of_lt_of_le HW.out.sl (Nat.pow_le_pow_right (by decide) (by have := HN10.out; omega))
              obtain ⟨ad, ea, hx⟩ := at_int (l := WR.map Int.ofNat) (Kd.C_below HC9.out HB6.out) k (by rw [List.length_map, HWL.out]; exact c1)
              cases ea
              have hxv : (WR.map Int.ofNat).getD k 0 = ((wayNext E n ps k s : Nat) : Int) := by
                rw [← hget.2]
                simp [List.getD_eq_getElem?_getD, HWL.out, c1]
              rw [hxv] at hx
              have hrs := hf ▸ HRN.out
              rw [wayRun_succ, htl, ← hget.1] at hrs
              have HRS := Aside0.mk hrs
              have HWN := Aside0.mk hwn
              have HS := Aside0.mk hs64
              have HG1 := Aside0.mk hget.1
              have HKF := Aside0.mk hf
              clear hf hget hwn hs64 hxv hrs htl
              obtain ⟨ko, hko⟩ : ∃ k, k = gk := ⟨_, rfl⟩
              have HKO := Aside0.mk hko
              clear hko
              go_wp2_with (fail)
              clear hx e0 e1 c1
              obtain ⟨wo, hwo⟩ : ∃ W, W = wr := ⟨wr, rfl⟩
              subst hwo
              go_loopg [12, 13] n (fun kq v12 v13 w' => ∃ (j : Nat), v13 = .int .i64 (j : Int) ∧ Aside0 (j + kq = n) ∧ Aside0 (Kd.R kI 3 w' wo.heap.size (fun _ => True) v12 (((List.range j).filter (fun i => rdy E s i)).map Int.ofNat)) ∧ Aside0 (Below wo.heap.size wo w'))
              case atStart => exact ⟨0, rfl, ⟨by omega⟩, ⟨Kd.R_nil _ _ _ _ _⟩, ⟨Below.refl _ _⟩⟩
              case round =>
                rename_i wr0 J0 K0 hJ0 hK0
                obtain ⟨j, rfl, HJ2, HO, HB7⟩ := hrel
                have HB8 := Aside0.mk (HB6.out.trans (HB7.out.mono HB6.out.size))
                have h0 := (blk_cell (blk_below HX5.out HB8.out)) 0
                have hp0 := (blk_cell (blk_below HP5.out HB8.out)) 0
                have hp1 := (blk_cell (blk_below HP5.out HB8.out)) 1
                obtain ⟨A12, c12, rfl⟩ := Kd.R_slice HO.out
                by_cases c2 : j < n
                · have e1 : decide (j < n) = true := decide_eq_true c2
                  have e0 : (j : Int) < (n : Int) := by omega
                  have HE5 : Aside0 (wrap64 ((j : Int) + 1) = ((j + 1 : Nat) : Int)) := ⟨by have := HN10.out; unfold wrap64; omega⟩
                  have K1 := Aside0.mk (RReady_T (n : Int) E A c s j wr HS.out (by have := HN10.out; omega) (Kd.C_below HC.out (below_step HB5.out HB8.out)) HEE.out (by have := HL.out; omega))
                  rw [rdyE_rdy HEE.out] at K1
                  have HI2 := Aside0.mk c2
                  have hfl : (List.range (j + 1)).filter (fun i => rdy E s i) = (List.range j).filter (fun i => rdy E s i) ++ (if rdy E s j then [j] else []) := by
                    rw [List.range_succ, List.filter_append]
                    congr 1
                    by_cases c : rdy E s j = true <;> simp [c]
                  obtain ⟨br, hbr⟩ : ∃ b, rdy E s j = b := ⟨_, rfl⟩
                  rw [hbr] at K1 hfl
                  have HFL := Aside0.mk hfl
                  clear hfl hbr c2
                  cases br with
                  | false =>
                    go_wp2_with (fail)
                    refine K1.out.mono ?_
                    rintro e w7 ⟨rfl, hb⟩
                    have HB9 := Aside0.mk (HB7.out.trans (hb.mono HB7.out.size))
                    have HO9 := Aside0.mk (Kd.R_below HO.out hb)
                    clear K1 hb h0 hp0 hp1
                    go_wp2
                    go_roundg (gk - 1)
                    case measure => have := HJ2.out; have := HI2.out; omega
                    case rel => exact ⟨j + 1, (by first | exact congrArg _ HE5.out | rfl), ⟨by have := HJ2.out; have := HI2.out; omega⟩, ⟨by rw [HFL.out]; simpa using HO9.out⟩, HB9⟩
                  | true =>
                    obtain ⟨z12, hz12⟩ : ∃ z, (((List.range j).filter (fun i => rdy E s i)).map Int.ofNat).length = z := ⟨_, rfl⟩
                    have hz10 : z12 ≤ 10 := by
                      rw [← hz12, List.length_map]
                      have h1 := List.length_filter_le (fun i => rdy E s i) (List.range j)
                      rw [List.length_range] at h1
                      have := HN10.out
                      have := HI2.out
                      omega
                    rw [hz12] at HO ⊢
                    have HZ12 := Aside0.mk hz12
                    have HZ10 := Aside0.mk hz10
                    clear hz12 hz10
                    go_wp2_with (fail)
                    refine K1.out.mono ?_
                    rintro e w7 ⟨rfl, hb⟩
                    have HB9 := Aside0.mk (HB7.out.trans (hb.mono HB7.out.size))
                    have hO9 := Kd.R_below HO.out hb
                    have HO9 := Aside0.mk (Kd.R_alloc hO9 (.cells #[.int .i64 (j : Int)] 3))
                    have HB10 := Aside0.mk (below_alloc HB9.out (.cells #[.int .i64 (j : Int)] 3))
                    have HL10 := Aside0.mk (lit_rr .i64 (w7.alloc (.cells #[.int .i64 (j : Int)] 3)) w7.heap.size (j : Int) ((blk_cell (heap_last w7 (.cells #[.int .i64 (j : Int)] 3))) 0))
                    have HLL : Aside0 (((((List.range j).filter (fun i => rdy E s i)).map Int.ofNat).length + 1) * 8 ≤ 140737488355328) := ⟨by rw [HZ12.out]; have := HZ10.out; omega⟩
                    clear K1 hb h0 hp0 hp1 hO9
                    go_wp2_with (first | ((with_reducible refine gate_builtin (b := .append) (xs := #[.tmp 75, .tmp 77]) rfl ?_); at_builtin; refine Kd.R_append_rows kI (w0 := wo) wo.heap.size rfl (.tmp 75) (.tmp 77) 22 3 (.int .i64 0) 8 rfl Tryd.underlying22 info_int rfl (by decide) (by decide) (.slice A12 z12 c12) (((List.range j).filter (fun i => rdy E s i)).map Int.ofNat) [(j : Int)] (some ⟨w7.heap.size, 0, none⟩) 1 _ (fun _ => True) (fun k => some k ≠ (Value.slice A12 z12 c12).ownBlock) rfl rfl HO9.out HL10.out (fun p cs hp => hp) (fun k hk => ⟨trivial, hk⟩) (fun k hk => trivial) HB10.out (below_size HB10.out) HLL.out ?_; intro v1 w8 ho hbl hg hat; refine Halt.out ?_))
                    unfold Halt
                    obtain ⟨A13, c13, rfl⟩ := Kd.R_slice ho
                    have HO11 := Aside0.mk ho
                    have HB11 := Aside0.mk hbl
                    clear ho hbl hg hat
                    go_wp2
                    go_roundg (gk - 1)
                    case measure => have := HJ2.out; have := HI2.out; omega
                    case rel =>
                      refine ⟨j + 1, (by first | exact congrArg _ HE5.out | rfl), ⟨by have := HJ2.out; have := HI2.out; omega⟩, ⟨?_⟩, HB11⟩
                      rw [HFL.out, List.map_append]
                      have h8 := HO11.out
                      exact h8
                · have e1 : decide (j < n) = false := decide_eq_false c2
                  have e0 : ¬ (j : Int) < (n : Int) := by omega
                  obtain rfl : n = j := by have := HJ2.out; omega
                  obtain ⟨y, hy⟩ : ∃ y, wayNext E n ps k s = y := ⟨_, rfl⟩
                  have hwn := HWN.out
                  have hg1 := HG1.out
                  have hrs := HRS.out
                  rw [hy] at hwn hg1 hrs ⊢
                  have hnf := nodes_filter (E := E) (s := s) (N := n) (by have := HN10.out; omega)
                  have ho := HO.out
                  rw [← hnf] at ho ⊢
                  obtain ⟨zl, hzl⟩ : ∃ z, (nodes (accR E s n)).length = z := ⟨_, rfl⟩
                  have hC5 := (Kd.R_reads' ho).2.2
                  rw [List.length_map, hzl] at hC5 ⊢
                  have hpos : 0 < zl := by rw [← hzl]; exact hwn.1
                  have hl64 : zl ≤ 64 := by rw [← hzl]; exact nodes_len64 _
                  obtain ⟨kk, hkk⟩ : ∃ z, pickOf ps k = z := ⟨_, rfl⟩
                  obtain ⟨t, ht, hq, hqq⟩ := pickIx_is kk zl hpos (by omega)
                  obtain ⟨q, hqe⟩ : ∃ q, pickIx kk zl = q := ⟨_, rfl⟩
                  rw [hqe] at hq hqq
                  have hnx : (nodes (accR E s n)).getD q 0 = y := by rw [← hy]; unfold wayNext; rw [hzl, hkk, hqe]
                  obtain ⟨ad3, ea, hx⟩ := at_int (l := (nodes (accR E s n)).map Int.ofNat) (by rw [List.length_map, hzl]; exact hC5) q (by rw [List.length_map, hzl]; exact hq)
                  cases ea
                  have hxv : ((nodes (accR E s n)).map Int.ofNat).getD q 0 = (y : Int) := by
                    rw [← hnx]
                    have hq2 := hq
                    rw [← hzl] at hq2
                    simp [List.getD_eq_getElem?_getD, hq2]
                  rw [hxv] at hx
                  have hy64 : y < 64 := by have := hwn.2.1; have := HN10.out; omega
                  have HBW := Aside0.mk (below_step HB5.out HB8.out)
                  have KCL := Aside0.mk (Closed_T (n : Int) E A c s wr HS.out (Kd.C_below HC.out HBW.out) HEE.out (by have := HL.out; omega))
                  rw [cl_iff.2 HCL.out] at KCL
                  have HQ := Aside0.mk hq
                  have HQQ := Aside0.mk hqq
                  have HX9 := Aside0.mk hx
                  have HYN := Aside0.mk hwn
                  have HYG := Aside0.mk hg1
                  have HYR := Aside0.mk hrs
                  have HY64 := Aside0.mk hy64
                  have HL64 := Aside0.mk hl64
                  have e3 : ((zl : Int) == 0) = false := by rw [beq_eq_false_iff_ne]; omega
                  have e4 : ¬ ((zl : Int) = 0) := by omega
                  clear hwn hg1 hrs hnf ho hC5 hzl hpos hl64 hq hqq hqe hnx hx hxv hy64 hy c2
                  rcases Nat.lt_or_ge k ps.length with c3 | c3
                  case' inl =>
                    have e5 : decide (k < ps.length) = true := decide_eq_true c3
                    have e6 : (k : Int) < (ps.length : Int) := by omega
                    obtain ⟨ad, ea, hx⟩ := at_int (Kd.C_below HCP.out HBW.out) k c3
                    cases ea
                    have hkv : ps.getD k 0 = kk := by rw [← hkk]; unfold pickOf; rw [if_pos c3]
                    rw [hkv] at hx
                    clear hkv hkk
                    go_upto_region 24 with (fail)
                    clear hx ht
                  case inr =>
                    have e5 : decide (k < ps.length) = false := decide_eq_false (by omega)
                    have e6 : ¬ (k : Int) < (ps.length : Int) := by omega
                    obtain rfl : t = 0 := by
                      rw [← ht, ← hkk]
                      unfold pickOf
                      rw [if_neg (by omega)]
                      simp
                    clear hkk ht
                    obtain rfl : q = 0 := by have := HQQ.out; unfold wrap64 at this; omega
                    have hx := HX9.out
                    simp [Addr.add] at hx
                    have hq := HQ.out
                    go_upto_region 24 with (fail)
                    clear e0 e1 e3 e4 e5 e6 c3
                    go_wp2_with (fail)
                    refine KCL.out.mono ?_
                    rintro e w7 ⟨rfl, hb⟩
                    have HB9 := Aside0.mk (HB8.out.trans (hb.mono HB8.out.size))
                    clear hb
                    have s0 : min y 64 = y := by have := HY64.out; omega
                    have s1 := shlU y HY64.out
                    have s2 := orPow s y HS.out HY64.out
                    have HE5 : Aside0 (wrap64 ((k : Int) + 1) = ((k + 1 : Nat) : Int)) := ⟨by have := HN10.out; have := HI.out; unfold wrap64; omega⟩
                    go_wp2_with (fail)
                    go_roundg (ko - 1)
                    case measure => have := HKO.out; have := HJ.out; have := HI.out; omega
                    case rel => exact ⟨k + 1, s ||| 2 ^ y, rfl, (by first | exact congrArg _ HE5.out | rfl), ⟨by have := HKO.out; have := HJ.out; have := HI.out; omega⟩, ⟨by rw [HYG.out]; exact HW.out.step HYN.out.2.1 (rdy_clr HYN.out.2.2)⟩, ⟨cl_add HEE.out HCL.out HYN.out.2.2⟩, ⟨by rw [show ko - 1 = f by have := HKO.out; have := HKF.out; omega]; exact HYR.out⟩, HB9⟩
                  case inl =>
                    clear e0 e1 e3 e4 e5 e6 c3
                    have hx := HX9.out
                    rcases HQQ.out with ⟨hq1, hq2⟩ | ⟨hq1, hq2, hq3, hq4⟩
                    · have hq := HQ.out
                      have hm : max t ((q : Nat) : Int) = ((q : Nat) : Int) := Int.max_eq_right (Int.le_of_lt hq1)
                      clear hq1
                      go_wp2_with (fail)
                      refine KCL.out.mono ?_
                      rintro e w7 ⟨rfl, hb⟩
                      have HB9 := Aside0.mk (HB8.out.trans (hb.mono HB8.out.size))
                      clear hb
                      have s0 : min y 64 = y := by have := HY64.out; omega
                      have s1 := shlU y HY64.out
                      have s2 := orPow s y HS.out HY64.out
                      have HE5 : Aside0 (wrap64 ((k : Int) + 1) = ((k + 1 : Nat) : Int)) := ⟨by have := HN10.out; have := HI.out; unfold wrap64; omega⟩
                      go_wp2_with (fail)
                      go_roundg (ko - 1)
                      case measure => have := HKO.out; have := HJ.out; have := HI.out; omega
                      case rel => exact ⟨k + 1, s ||| 2 ^ y, rfl, (by first | exact congrArg _ HE5.out | rfl), ⟨by have := HKO.out; have := HJ.out; have := HI.out; omega⟩, ⟨by rw [HYG.out]; exact HW.out.step HYN.out.2.1 (rdy_clr HYN.out.2.2)⟩, ⟨cl_add HEE.out HCL.out HYN.out.2.2⟩, ⟨by rw [show ko - 1 = f by have := HKO.out; have := HKF.out; omega]; exact HYR.out⟩, HB9⟩
                    · rw [← hq4] at hx
                      have hm : max t (wrap64 (-t)) = t := Int.max_eq_left (by omega)
                      clear hq4
                      go_wp2_with (fail)
                      refine KCL.out.mono ?_
                      rintro e w7 ⟨rfl, hb⟩
                      have HB9 := Aside0.mk (HB8.out.trans (hb.mono HB8.out.size))
                      clear hb
                      have s0 : min y 64 = y := by have := HY64.out; omega
                      have s1 := shlU y HY64.out
                      have s2 := orPow s y HS.out HY64.out
                      have HE5 : Aside0 (wrap64 ((k : Int) + 1) = ((k + 1 : Nat) : Int)) := ⟨by have := HN10.out; have := HI.out; unfold wrap64; omega⟩
                      go_wp2_with (fail)
                      go_roundg (ko - 1)
                      case measure => have := HKO.out; have := HJ.out; have := HI.out; omega
                      case rel => exact ⟨k + 1, s ||| 2 ^ y, rfl, (by first | exact congrArg _ HE5.out | rfl), ⟨by have := HKO.out; have := HJ.out; have := HI.out; omega⟩, ⟨by rw [HYG.out]; exact HW.out.step HYN.out.2.1 (rdy_clr HYN.out.2.2)⟩, ⟨cl_add HEE.out HCL.out HYN.out.2.2⟩, ⟨by rw [show ko - 1 = f by have := HKO.out; have := HKF.out; omega]; exact HYR.out⟩, HB9⟩
            · have e1 : decide (k < n) = false := decide_eq_false c1
              have e0 : ¬ (k : Int) < (n : Int) := by omega
              go_wp2
              go_ret
              exact ⟨by simp, below_step HB5.out HB6.out⟩
    · have d1 : decide ((ps.length : Int) > 100) = true := decide_eq_true (by omega)
      have d2 : (100 : Int) < (ps.length : Int) := by omega
      clear hok hlp
      go_wp2
      go_ret
      exact ⟨by simp, HB2.out⟩
  · rw [Bool.not_eq_true] at hok
    rw [hok]
    clear hok
    go_wp2
    go_ret
    exact ⟨by simp, HB2.out⟩
theorem LatticeWay_card (N : Int) (E : List Stp) (A : Option Addr) (c : Nat) (ps : List Int) (Ap : Option Addr) (cp : Nat) (w : World) (hT : TabW w) (h : Kd.C kP w A E.length E) (hP : Kd.C kI w Ap ps.length ps) (hN : (Lit.int .i64 N).wf = true) :
    Calls Tryd.prog 14 #[.agg #[.int .i64 N, .slice A E.length c], .slice Ap ps.length cp] w fun e w' => e = .returned (.bool true) ∧ Below w.heap.size w w' :=
  LatticeWay_main N E A c ps Ap cp w hT h hP (wf_i64 hN)
end Go.Proofs.YtplhihakeodadaaDoor.Sg
