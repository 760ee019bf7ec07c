/- lattice: the law LatticeDown, walked. -/
import Derived.Test.YtplhihakeodadaaDoorLtPl
namespace Go.Proofs.YtplhihakeodadaaDoor.Sg
open Go Go.RowKit Go.Proofs.YtplhihakeodadaaDoorW.PrintWords Go.Proofs.YtplhihakeodadaaDoorW.PrintLast Go.Proofs.YtplhihakeodadaaDoorW.PrintMore
set_option linter.unusedVariables false
set_option linter.unusedSimpArgs false
set_option maxHeartbeats 16000000 in
set_option maxRecDepth 20000 in
theorem LatticeDown_main (N : Int) (E : List Stp) (A : Option Addr) (c s o : Nat) (w : World) (hT : TabW w) (hs : s < 2 ^ 64) (hoo : o < 2 ^ 64) (h : Kd.C kP w A E.length E) (hN : -9223372036854775808 ≤ N ∧ N < 9223372036854775808) :
    Calls Tryd.prog 9 #[.agg #[.int .i64 N, .slice A E.length c], .int .u64 (s : Int), .int .u64 (o : Int)] w fun e w' => e = .returned (.bool true) ∧ Below w.heap.size w w' := by
  have hb0 := below_alloc (Below.refl w.heap.size w) (.cells #[.int .i64 N, .slice A E.length c] 62)
  have HX := Aside0.mk (heap_last w (.cells #[.int .i64 N, .slice A E.length c] 62))
  have HB := Aside0.mk hb0
  have K0 := Aside0.mk (Anchor_T (w.alloc (.cells #[.int .i64 N, .slice A E.length c] 62)) (hT.below hb0))
  have KP := Aside0.mk (fun W (hb : Below w.heap.size w W) => plain_T N E A c W (Kd.C_below h hb) hN)
  have HN := Aside0.mk hN
  have HC := Aside0.mk h
  have HS := Aside0.mk hs
  have HO := Aside0.mk hoo
  have h0 := (blk_cell HX.out) 0
  have h1 := (blk_cell HX.out) 1
  clear hb0 h hs hoo hT
  obtain ⟨hN1, hN2⟩ := hN
  go_enter Tryd.func9, Tryd.ntmps9
  go_wp2_with (fail)
  refine K0.out.mono ?_
  rintro e w1 ⟨rfl, hb⟩
  have HB1 := Aside0.mk (below_step HB.out hb)
  have HX1 := Aside0.mk (blk_below HX.out hb)
  clear K0 hb h0 h1
  have h0 := (blk_cell HX1.out) 0
  have h1 := (blk_cell HX1.out) 1
  go_wp2_with (fail)
  refine (KP.out w1 HB1.out).mono ?_
  rintro e w2 ⟨rfl, hb⟩
  have HB2' := Aside0.mk (below_step HB1.out hb)
  have HX2' := Aside0.mk (blk_below HX1.out hb)
  clear KP hb h0 h1
  have HB2 := Aside0.mk (below_alloc HB2'.out (.cells #[.int .i64 N, .slice A E.length c] 55))
  have HX2 := Aside0.mk (blk_alloc HX2'.out (.cells #[.int .i64 N, .slice A E.length c] 55))
  have HP2 := Aside0.mk (heap_last w2 (.cells #[.int .i64 N, .slice A E.length c] 55))
  have h0 := (blk_cell HX2.out) 0
  have h1 := (blk_cell HX2.out) 1
  have hp0 := (blk_cell HP2.out) 0
  have hp1 := (blk_cell HP2.out) 1
  have HW2 : Aside0 (w.heap.size ≤ w2.heap.size) := ⟨below_size HB2'.out⟩
  clear HB1 HX1 HB HX HB2' HX2'
  by_cases hok : okG N E = true
  · rw [hok]
    have HOK := Aside0.mk hok
    have hl := okG_len hok
    have KD := Aside0.mk (fun W (hb : Below w.heap.size w W) => Down_T N E A c s W HS.out (Kd.C_below HC.out hb) (by omega) (by omega) HN.out.1)
    have KR := Aside0.mk (fun W (hb : Below w.heap.size w W) => RRight_T N E A c W (Kd.C_below HC.out hb) (by omega) HN.out)
    have HL : Aside0 (E.length ≤ 1000000000) := ⟨by omega⟩
    clear hok hl
    go_wp2_with (fail)
    refine (KD.out _ HB2.out).mono ?_
    rintro e w3 ⟨d, rfl, hd1, hd2, hb⟩
    have HB3 := Aside0.mk (below_step HB2.out hb)
    have HX3 := Aside0.mk (blk_below HX2.out hb)
    have HP3 := Aside0.mk (blk_below HP2.out hb)
    have HD1 := Aside0.mk hd1
    have HD2 := Aside0.mk hd2
    clear KD hb h0 h1 hp0 hp1 hd1 hd2
    have h0 := (blk_cell HX3.out) 0
    have h1 := (blk_cell HX3.out) 1
    have hp0 := (blk_cell HP3.out) 0
    have hp1 := (blk_cell HP3.out) 1
    go_wp2_with (fail)
    refine (KR.out _ HB3.out).mono ?_
    rintro e w4 ⟨rfl, hb⟩
    have HB4 := Aside0.mk (below_step HB3.out hb)
    have HX4 := Aside0.mk (blk_below HX3.out hb)
    have HP4 := Aside0.mk (blk_below HP3.out hb)
    clear KR hb h0 h1 hp0 hp1
    have h0 := (blk_cell HX4.out) 0
    have h1 := (blk_cell HX4.out) 1
    have hp0 := (blk_cell HP4.out) 0
    have hp1 := (blk_cell HP4.out) 1
    cases hr : rightG N E with
    | false =>
      have e1 : insideE N E s = 20 := by unfold insideE; rw [hr]; rfl
      have e2 : d = 0 := HD2.out (by rw [e1]; decide)
      subst e2
      rw [e1]
      clear hr e1
      go_wp2
      go_ret
      exact ⟨by simp, HB4.out⟩
    | true =>
      have h0n := (rightG_in hr).2.1
      obtain ⟨n, rfl⟩ := Int.eq_ofNat_of_zero_le h0n.1
      have HR := Aside0.mk hr
      have hz := shr_zero s n
      have hi := inside_iff HS.out hr
      have s0 : min n 64 = n := by omega
      by_cases hsn : s < 2 ^ n
      · rw [if_pos hsn] at hi
        rw [decide_eq_true hsn] at hz
        have HSN := Aside0.mk hsn
        rw [hi]
        have HLE := Aside0.mk (HD1.out hi)
        have hE64 := (rightG_in hr).1
        have hE2 := right_edges hr
        have hn10 := okG_ten HOK.out hr
        have hd2 := HLE.out.lt_pow (fun e he => (hE2 e he).1) hsn
        have hcl := cl_iff.2 HLE.out.cl
        have KC := Aside0.mk (fun (W : World) (z : Nat) (hz : z < 18446744073709551616) (hb : Below w.heap.size w W) => Closed_T (n : Int) E A c z W hz (Kd.C_below HC.out hb) hE64 HL.out)
        have K1 := Aside0.mk (KC.out w4 d HLE.out.lt HB4.out)
        rw [hcl] at K1
        have t1 := andNU s d
        rw [(andN_zero HS.out).2 HLE.out.sub] at t1
        have t2 := shr_zero d n
        rw [decide_eq_true hd2] at t2
        have t3 := orU o s HO.out HS.out
        have t4 := shlU n (by omega)
        have t5 := predPow n (by omega)
        have hm64 : 2 ^ n - 1 < 2 ^ 64 := Nat.lt_of_lt_of_le (Nat.sub_lt (Nat.two_pow_pos n) (by decide)) (Nat.pow_le_pow_right (by decide) (by omega))
        have t6 := andU (o ||| s) (2 ^ n - 1) (Nat.or_lt_two_pow HO.out HS.out) hm64
        have hx64 : (o ||| s) &&& (2 ^ n - 1) < 2 ^ 64 := Nat.and_lt_two_pow _ hm64
        have hsx : Sub s ((o ||| s) &&& (2 ^ n - 1)) := fun i hi => by
          rw [Nat.testBit_and, Nat.testBit_or, hi, mask_bit, decide_eq_true (bit_lt hsn hi)]
          simp
        have t7 := andNU d ((o ||| s) &&& (2 ^ n - 1))
        obtain ⟨x, hx⟩ : ∃ x, (o ||| s) &&& (2 ^ n - 1) = x := ⟨_, rfl⟩
        rw [hx] at t6 t7 hx64 hsx
        obtain ⟨os, hos⟩ : ∃ x, (o ||| s) = x := ⟨_, rfl⟩
        rw [hos] at t3 t6
        obtain ⟨mk, hmk⟩ : ∃ x, 2 ^ n - 1 = x := ⟨_, rfl⟩
        rw [hmk] at t5 t6
        have HX64 := Aside0.mk hx64
        have HSX := Aside0.mk hsx
        clear hi hsn hr h0n hE64 hE2 hn10 hd2 hcl hm64 hx64 hsx hx hos hmk
        go_wp2_with (fail)
        refine K1.out.mono ?_
        rintro e w5 ⟨rfl, hb⟩
        have HB5 := Aside0.mk (below_step HB4.out hb)
        have HX5 := Aside0.mk (blk_below HX4.out hb)
        have HP5 := Aside0.mk (blk_below HP4.out hb)
        clear K1 hb h0 h1 hp0 hp1
        have h0 := (blk_cell HX5.out) 0
        have h1 := (blk_cell HX5.out) 1
        have hp0 := (blk_cell HP5.out) 0
        have hp1 := (blk_cell HP5.out) 1
        go_wp2_with (fail)
        refine (KC.out w5 x HX64.out HB5.out).mono ?_
        rintro e w6 ⟨rfl, hb⟩
        have HB6 := Aside0.mk (below_step HB5.out hb)
        have HP6 := Aside0.mk (blk_below HP5.out hb)
        clear hb h0 h1 hp0 hp1
        have hp0 := (blk_cell HP6.out) 0
        have hp1 := (blk_cell HP6.out) 1
        have last : ∀ (W : World) (b : Bool), closedE E s = b → b = true → d = s := fun W b h1 h2 => HLE.out.own (cl_iff.1 (h1.trans h2))
        obtain ⟨bs, hbs⟩ : ∃ b, closedE E s = b := ⟨_, rfl⟩
        have hds : bs = true → d = s := fun h => HLE.out.own (cl_iff.1 (hbs.trans h))
        have HDS := Aside0.mk hds
        have HBS := Aside0.mk hbs
        clear last hbs hds
        have fin : ∀ b : Bool, (closedE E x = true → andN d x = 0) := fun _ h => (andN_zero HLE.out.lt).2 (HLE.out.least x (cl_iff.1 h) HSX.out)
        obtain ⟨bx, hbx⟩ : ∃ b, closedE E x = b := ⟨_, rfl⟩
        rw [hbx] at fin ⊢
        cases bx with
        | true =>
          rw [fin true rfl] at t7
          clear fin hbx
          go_wp2_with (fail)
          refine (KC.out w6 s HS.out HB6.out).mono ?_
          rintro e w7 ⟨rfl, hb⟩
          have HB7 := Aside0.mk (below_step HB6.out hb)
          rw [HBS.out]
          clear hb hp0 hp1
          cases bs with
          | false =>
            go_wp2
            go_ret
            exact ⟨by simp, HB7.out⟩
          | true =>
            have e5 := HDS.out rfl
            rw [e5]
            go_wp2
            go_ret
            exact ⟨by simp, HB7.out⟩
        | false =>
          clear fin hbx t7
          go_wp2_with (fail)
          refine (KC.out w6 s HS.out HB6.out).mono ?_
          rintro e w7 ⟨rfl, hb⟩
          have HB7 := Aside0.mk (below_step HB6.out hb)
          rw [HBS.out]
          clear hb hp0 hp1
          cases bs with
          | false =>
            go_wp2
            go_ret
            exact ⟨by simp, HB7.out⟩
          | true =>
            have e5 := HDS.out rfl
            rw [e5]
            go_wp2
            go_ret
            exact ⟨by simp, HB7.out⟩
      · rw [if_neg hsn] at hi
        rw [decide_eq_false hsn] at hz
        have e2 : d = 0 := HD2.out (by rw [hi]; decide)
        subst e2
        rw [hi]
        clear hi hsn hr h0n
        go_wp2
        go_ret
        exact ⟨by simp, HB4.out⟩
  · rw [Bool.not_eq_true] at hok
    rw [hok]
    clear hok
    go_wp2
    go_ret
    exact ⟨by simp, HB2.out⟩
theorem LatticeDown_card (N : Int) (E : List Stp) (A : Option Addr) (c : Nat) (a b : Int) (w : World) (hT : TabW w) (ha : (Lit.int .u64 a).wf = true) (hb : (Lit.int .u64 b).wf = true) (h : Kd.C kP w A E.length E) (hN : (Lit.int .i64 N).wf = true) :
    Calls Tryd.prog 9 #[.agg #[.int .i64 N, .slice A E.length c], .int .u64 a, .int .u64 b] w fun e w' => e = .returned (.bool true) ∧ Below w.heap.size w w' := by
  obtain ⟨s, rfl, hs⟩ := wf_u64 ha
  obtain ⟨o, rfl, ho⟩ := wf_u64 hb
  exact LatticeDown_main N E A c s o w hT hs ho h (wf_i64 hN)
end Go.Proofs.YtplhihakeodadaaDoor.Sg
