/- lattice: the law LatticeMeets, walked. -/
import Derived.Test.YtplhihakeodadaaDoorLtPd
namespace Go.Proofs.YtplhihakeodadaaDoor.Sg
open Go Go.RowKit Go.Proofs Go.Proofs.YtplhihakeodadaaDoor.IMap Go.Proofs.YtplhihakeodadaaDoorW.PrintWords Go.Proofs.YtplhihakeodadaaDoorW.PrintLast Go.Proofs.YtplhihakeodadaaDoorW.PrintMore
set_option linter.unusedVariables false
set_option linter.unusedSimpArgs false
theorem cl_and {E : List Stp} {a b : Nat} (ha : closedE E a = true) (hb : closedE E b = true) : closedE E (a &&& b) = true := cl_iff.2 fun e he h => by
  rw [Nat.testBit_and, Bool.and_eq_true] at h ⊢
  exact ⟨cl_iff.1 ha e he h.1, cl_iff.1 hb e he h.2⟩
theorem cl_or {E : List Stp} {a b : Nat} (ha : closedE E a = true) (hb : closedE E b = true) : closedE E (a ||| b) = true := cl_iff.2 fun e he h => by
  rw [Nat.testBit_or, Bool.or_eq_true] at h ⊢
  exact h.imp (cl_iff.1 ha e he) (cl_iff.1 hb e he)
theorem cl_zero (E : List Stp) : closedE E 0 = true := cl_iff.2 fun e he h => by rw [Nat.zero_testBit] at h; cases h
theorem cl_full {E : List Stp} {n : Nat} (hE : ∀ e ∈ E, e.1.toNat < n ∧ e.2.toNat < n) : closedE E (2 ^ n - 1) = true := cl_iff.2 (cl_mask fun e he => (hE e he).1)
/-- Whether v is among the first k. -/
def amg (l : List Nat) (v k : Nat) : Bool := (l.take k).any fun x => decide (x = v)
theorem amg_zero (l : List Nat) (v : Nat) : amg l v 0 = false := by simp [amg]
theorem amg_succ (l : List Nat) (v k : Nat) (h : k < l.length) : amg l v (k + 1) = (amg l v k || decide (l.getD k 0 = v)) := by
  unfold amg
  rw [List.take_succ_eq_append_getElem h, List.any_append]
  simp [List.getD_eq_getElem?_getD, h]
theorem amg_all {l : List Nat} {v : Nat} (h : v ∈ l) : amg l v l.length = true := by
  unfold amg
  rw [List.take_length, List.any_eq_true]
  exact ⟨v, h, decide_eq_true rfl⟩
theorem getD_memN {l : List Nat} {k : Nat} (h : k < l.length) : l.getD k 0 ∈ l := by
  rw [List.getD_eq_getElem?_getD, List.getElem?_eq_getElem h]
  exact List.getElem_mem h
set_option maxHeartbeats 16000000 in
set_option maxRecDepth 100000 in
theorem LatticeMeets_main (N : Int) (E : List Stp) (A : Option Addr) (c : Nat) (i j : Int) (w : World) (hT : TabW w) (h : Kd.C kP w A E.length E) (hN : -9223372036854775808 ≤ N ∧ N < 9223372036854775808) :
    Calls Tryd.prog 10 #[.agg #[.int .i64 N, .slice A E.length c], .int .i64 i, .int .i64 j] w fun e w' => e = .returned (.bool true) ∧ Below w.heap.size w w' := by
  have hb0 := below_alloc (Below.refl w.heap.size w) (.cells #[.int .i64 N, .slice A E.length c] 62)
  have HX := Aside0.mk (heap_last w (.cells #[.int .i64 N, .slice A E.length c] 62))
  have HB := Aside0.mk hb0
  have K0 := Aside0.mk (Anchor_T (w.alloc (.cells #[.int .i64 N, .slice A E.length c] 62)) (hT.below hb0))
  have KP := Aside0.mk (fun W (hb : Below w.heap.size w W) => plain_T N E A c W (Kd.C_below h hb) hN)
  have HN := Aside0.mk hN
  have HC := Aside0.mk h
  have HT := Aside0.mk hT
  have h0 := (blk_cell HX.out) 0
  have h1 := (blk_cell HX.out) 1
  clear hb0 h hT
  obtain ⟨hN1, hN2⟩ := hN
  go_enter Tryd.func10, Tryd.ntmps10
  go_wp2_with (fail)
  refine K0.out.mono ?_
  rintro e w1 ⟨rfl, hb⟩
  have HB1 := Aside0.mk (below_step HB.out hb)
  have HX1 := Aside0.mk (blk_below HX.out hb)
  clear K0 hb h0 h1
  have h0 := (blk_cell HX1.out) 0
  have h1 := (blk_cell HX1.out) 1
  go_wp2_with (fail)
  refine (KP.out w1 HB1.out).mono ?_
  rintro e w2 ⟨rfl, hb⟩
  have HB2' := Aside0.mk (below_step HB1.out hb)
  have HX2' := Aside0.mk (blk_below HX1.out hb)
  clear KP hb h0 h1
  have HB2 := Aside0.mk (below_alloc HB2'.out (.cells #[.int .i64 N, .slice A E.length c] 55))
  have HX2 := Aside0.mk (blk_alloc HX2'.out (.cells #[.int .i64 N, .slice A E.length c] 55))
  have h0 := (blk_cell HX2.out) 0
  have h1 := (blk_cell HX2.out) 1
  clear HB1 HX1 HB HX HB2' HX2'
  by_cases hok : okG N E = true
  · rw [hok]
    have hl := okG_len hok
    have HOK := Aside0.mk hok
    have HL : Aside0 (E.length ≤ 60) := ⟨hl⟩
    clear hok hl
    by_cases hi : i < 0
    · have d1 : decide (i < 0) = true := decide_eq_true hi
      go_wp2
      go_ret
      exact ⟨by simp, HB2.out⟩
    · have d1 : decide (i < 0) = false := decide_eq_false hi
      by_cases hj : j < 0
      · have d2 : decide (j < 0) = true := decide_eq_true hj
        go_wp2
        go_ret
        exact ⟨by simp, HB2.out⟩
      · have d2 : decide (j < 0) = false := decide_eq_false hj
        have HI0 := Aside0.mk hi
        have HJ0 := Aside0.mk hj
        by_cases ho : orderErr N E = 0
        · have hr : rightG N E = true := by
            cases hr : rightG N E with
            | true => rfl
            | false => unfold orderErr at ho; rw [hr] at ho; cases ho
          have h0n := (rightG_in hr).2.1
          obtain ⟨n, rfl⟩ := Int.eq_ofNat_of_zero_le h0n.1
          have HR := Aside0.mk hr
          have hn10 := okG_ten HOK.out hr
          have HN10 := Aside0.mk hn10
          have hc := (orderErr_iff hr).1 ho
          have HCC := Aside0.mk hc
          have KA := Aside0.mk (fun W (hb : Below w.heap.size w W) => AllR_T n E A c W (HT.out.below hb) (Kd.C_below HC.out hb) HN10.out HR.out HCC.out)
          have hfull := cl_full (right_edges hr)
          obtain ⟨m, hm⟩ : ∃ m, 2 ^ n - 1 = m := ⟨_, rfl⟩
          have hM : 2 ^ n = m + 1 := by have := Nat.two_pow_pos n; omega
          rw [hm] at hfull
          have hlen : (clF E (m + 1)).length = (clF E m).length + 1 := by rw [clF_succ, if_pos hfull, List.length_append]; rfl
          have hlast := (clF_at (Nat.lt_succ_self m) hfull).2
          have hfst := (clF_at (Nat.succ_pos m) (cl_zero E)).2
          rw [show (clF E 0).length = 0 from rfl] at hfst
          have hmb : m < 1024 := by have h2 : 2 ^ n ≤ 1024 := Nat.pow_le_pow_right (n := 2) (by decide) hn10; omega
          obtain ⟨F, hF⟩ : ∃ F, clF E (m + 1) = F := ⟨_, rfl⟩
          have hFm : ∀ t, t ∈ F ↔ t < m + 1 ∧ closedE E t = true := fun t => by rw [← hF]; exact clF_mem
          have hFl : clL E (m + 1) = F.map (fun t : Nat => (t : Int)) := by rw [← hF]; rfl
          have hcl : ∀ k, (clL E (m + 1)).getD k 0 = ((F.getD k 0 : Nat) : Int) := fun k => by rw [← hF]; exact clL_get E (m + 1) k
          obtain ⟨lp, hlp⟩ : ∃ lp, (clF E m).length = lp := ⟨_, rfl⟩
          have hlpb : lp ≤ 1024 := by rw [← hlp]; exact Nat.le_trans (clF_len E m) (by omega)
          rw [hlp] at hlen hlast
          rw [hF] at hlen hlast hfst
          rw [hM, hF, hlen] at KA
          have HF := Aside0.mk hFm
          have HCL := Aside0.mk hcl
          have HLN := Aside0.mk hlen
          have HLA := Aside0.mk hlast
          have HFS := Aside0.mk hfst
          have HMB := Aside0.mk hmb
          have HLB := Aside0.mk hlpb
          have HMM := Aside0.mk hM
          clear hr h0n hn10 hc ho hfull hm hM hlen hlast hfst hmb hF hFm hFl hcl hlp hlpb
          go_wp2_with (fail)
          refine (KA.out _ HB2.out).mono ?_
          rintro e w3 ⟨g, c', rfl, hlist, hb⟩
          have HB3 := Aside0.mk (below_step HB2.out hb)
          have HX3 := Aside0.mk (blk_below HX2.out hb)
          have HLI := Aside0.mk hlist
          clear KA hb h0 h1 hlist hi hj d1 d2
          have h0 := (blk_cell HX3.out) 0
          have hv0 := C_cellU HLI.out 0 (Nat.succ_pos lp)
          rw [HCL.out, HFS.out] at hv0
          have hv1 := C_cellU HLI.out lp (Nat.lt_succ_self lp)
          rw [HCL.out, HLA.out] at hv1
          have s0 : min n 64 = n := by have := HN10.out; omega
          have s1 : IntKind.u64.wrap ((2 : Int) ^ n) = (m : Int) + 1 := by
            rw [shlU n (by have := HN10.out; omega)]
            have := HMM.out
            have e : ((2 : Int) ^ n) = ((2 ^ n : Nat) : Int) := by simp
            rw [e, this]
            simp
          have s2 : (m : Int) + 1 - 1 = (m : Int) := by omega
          have s3 : IntKind.u64.wrap (m : Int) = (m : Int) := by have := HMB.out; simp only [IntKind.wrap, IntKind.bits, IntKind.signed]; simp; omega
          have c0 : ((lp : Int) + 1 == 0) = false := beq_eq_false_iff_ne.2 (by omega)
          have hlb := HLB.out
          have hmb := HMB.out
          go_wp2_with (fail)
          go_big_quiet (fail)
          clear h0 hv0 hv1 s0 s1 s2 s3
          obtain ⟨w4, hw4⟩ : ∃ W, w3.drewN nq = W := ⟨_, rfl⟩
          have HLI4 := Aside0.mk (Kd.C_drewN HLI.out nq)
          have HB4 := Aside0.mk (pw_below_drewN HB3.out nq)
          rw [hw4] at HLI4 HB4
          rw [hw4]
          clear hw4 HX3 HLI HB3
          obtain ⟨x, rfl⟩ := Int.eq_ofNat_of_zero_le (by have := HI0.out; omega : 0 ≤ i)
          obtain ⟨y, rfl⟩ := Int.eq_ofNat_of_zero_le (by have := HJ0.out; omega : 0 ≤ j)
          obtain ⟨ki, hki⟩ : ∃ k, x % (lp + 1) = k := ⟨_, rfl⟩
          obtain ⟨kj, hkj⟩ : ∃ k, y % (lp + 1) = k := ⟨_, rfl⟩
          have hil : ki < lp + 1 := by rw [← hki]; exact Nat.mod_lt _ (Nat.succ_pos lp)
          have hjl : kj < lp + 1 := by rw [← hkj]; exact Nat.mod_lt _ (Nat.succ_pos lp)
          have t0 : Int.tmod (x : Int) ((lp : Int) + 1) = (ki : Int) := by rw [Int.tmod_eq_emod_of_nonneg (by omega), ← hki]; push_cast; rfl
          have t1 : Int.tmod (y : Int) ((lp : Int) + 1) = (kj : Int) := by rw [Int.tmod_eq_emod_of_nonneg (by omega), ← hkj]; push_cast; rfl
          have hvi := C_cellU HLI4.out ki hil
          have hvj := C_cellU HLI4.out kj hjl
          rw [HCL.out] at hvi hvj
          obtain ⟨a, ha⟩ : ∃ a, F.getD ki 0 = a := ⟨_, rfl⟩
          obtain ⟨b, hb⟩ : ∃ b, F.getD kj 0 = b := ⟨_, rfl⟩
          rw [ha] at hvi
          rw [hb] at hvj
          have hmi := (HF.out a).1 (by rw [← ha]; exact getD_memN (by rw [HLN.out]; exact hil))
          have hmj := (HF.out b).1 (by rw [← hb]; exact getD_memN (by rw [HLN.out]; exact hjl))
          have HMI := Aside0.mk hmi
          have HMJ := Aside0.mk hmj
          have hc2 : ((lp : Int) + 1 == 0) = false := beq_eq_false_iff_ne.2 (by omega)
          clear hki hkj hmi hmj ha hb
          go_wp2_with (fail)
          go_big_quiet (fail)
          clear hvi hvj t0 t1 hil hjl
          obtain ⟨w5, hw5⟩ : ∃ W, w4.drewN nq = W := ⟨_, rfl⟩
          have HLI5 := Aside0.mk (Kd.C_drewN HLI4.out nq)
          have HB5 := Aside0.mk (pw_below_drewN HB4.out nq)
          rw [hw5] at HLI5 HB5
          rw [hw5]
          clear hw5 HLI4 HB4
          obtain ⟨p, hp⟩ : ∃ p, a &&& b = p := ⟨_, rfl⟩
          obtain ⟨q, hq⟩ : ∃ q, a ||| b = q := ⟨_, rfl⟩
          have HP : Aside0 (p ∈ F) := ⟨by
            rw [HF.out, ← hp]
            exact ⟨Nat.lt_of_le_of_lt Nat.and_le_left HMI.out.1, cl_and HMI.out.2 HMJ.out.2⟩⟩
          have HQ : Aside0 (q ∈ F) := ⟨by
            rw [HF.out, ← hq, ← HMM.out]
            exact ⟨Nat.or_lt_two_pow (by rw [HMM.out]; exact HMI.out.1) (by rw [HMM.out]; exact HMJ.out.1), cl_or HMI.out.2 HMJ.out.2⟩⟩
          have e1 : bits .and .u64 (a : Int) (b : Int) = (p : Int) := by rw [bits_and_u64_nat _ _ (by have := HMI.out.1; have := HMB.out; omega) (by have := HMJ.out.1; have := HMB.out; omega), hp]
          have e2 : bits .or .u64 (a : Int) (b : Int) = (q : Int) := by rw [bits_or_u64_nat _ _ (by have := HMI.out.1; have := HMB.out; omega) (by have := HMJ.out.1; have := HMB.out; omega), hq]
          have E1 := Aside0.mk e1
          have E2 := Aside0.mk e2
          clear hp hq e1 e2
          go_wp2_with (fail)
          go_loopg [13, 14, 16, 82] (lp + 1) (fun kq v13 v14 v16 v82 w' => ∃ k : Nat, v13 = .bool (amg F p k) ∧ v14 = .bool (amg F q k) ∧ v82 = .int .i64 (k : Int) ∧ k + kq = lp + 1 ∧ w' = w5)
          case atStart => exact ⟨0, by rw [amg_zero], by rw [amg_zero], rfl, by omega, rfl⟩
          case round =>
            obtain ⟨k, rfl, rfl, rfl, hk, rfl⟩ := hrel
            by_cases hkl : k < lp + 1
            · have hv := C_cellU HLI5.out k hkl
              rw [HCL.out] at hv
              have hs1 := amg_succ F p k (by rw [HLN.out]; exact hkl)
              have hs2 := amg_succ F q k (by rw [HLN.out]; exact hkl)
              obtain ⟨s, hs⟩ : ∃ s, F.getD k 0 = s := ⟨_, rfl⟩
              rw [hs] at hv hs1 hs2
              have HS1 := Aside0.mk hs1
              have HS2 := Aside0.mk hs2
              clear hs1 hs2 hs
              obtain ⟨B, hB⟩ : ∃ B, amg F p k = B := ⟨_, rfl⟩
              obtain ⟨C, hC⟩ : ∃ C, amg F q k = C := ⟨_, rfl⟩
              rw [hB] at HS1 ⊢
              rw [hC] at HS2 ⊢
              have e1 := E1.out
              have e2 := E2.out
              have d1 : decide ((k : Int) < (lp : Int) + 1) = true := decide_eq_true (by omega)
              have d2 : (k : Int) < (lp : Int) + 1 := by omega
              have d3 : decide (k < lp + 1) = true := decide_eq_true hkl
              obtain ⟨B2, hB2⟩ : ∃ B2, decide (s = p) = B2 := ⟨_, rfl⟩
              obtain ⟨C2, hC2⟩ : ∃ C2, decide (s = q) = C2 := ⟨_, rfl⟩
              rw [hB2] at HS1
              rw [hC2] at HS2
              have g1 : ((s : Int) == (p : Int)) = B2 := by rw [← hB2]; rw [Bool.eq_iff_iff]; simp; omega
              have g2 : ((s : Int) == (q : Int)) = C2 := by rw [← hC2]; rw [Bool.eq_iff_iff]; simp; omega
              have g3 : (s == p) = B2 := by rw [← hB2]; rfl
              have g4 : (s == q) = C2 := by rw [← hC2]; rfl
              clear hB hC hkl
              cases B <;> cases C <;> cases B2 <;> cases C2 <;>
                (go_wp2
                 go_roundg (gk - 1)
                 case measure => omega
                 case rel => exact ⟨k + 1, by rw [HS1.out]; rfl, by rw [HS2.out]; rfl, by first | rfl | (congr 1; go_num), by omega, rfl⟩)
            · have d1 : decide ((k : Int) < (lp : Int) + 1) = false := decide_eq_false (by omega)
              have d2 : ¬ (k : Int) < (lp : Int) + 1 := by omega
              have d3 : decide (k < lp + 1) = false := decide_eq_false hkl
              have hkk : k = F.length := by rw [HLN.out]; omega
              have x1 : amg F p k = true := by rw [hkk]; exact amg_all HP.out
              have x2 : amg F q k = true := by rw [hkk]; exact amg_all HQ.out
              rw [x1, x2]
              clear x1 x2 hkk
              go_wp2
              go_ret
              exact ⟨by simp, HB5.out⟩
        · obtain ⟨z, hz⟩ : ∃ z, orderErr N E = z := ⟨_, rfl⟩
          have KA := Aside0.mk (AllE_T N E A c _ (HT.out.below HB2.out) (Kd.C_below HC.out HB2.out) (by have := HL.out; omega) HN.out ho)
          rw [hz] at KA ho
          have e1 : (z != 0) = true := by rw [bne_iff_ne]; exact ho
          clear hz ho
          go_wp2_with (fail)
          refine KA.out.mono ?_
          rintro e w3 ⟨rfl, hb⟩
          have HB3 := Aside0.mk (below_step HB2.out hb)
          clear KA hb h0 h1
          go_wp2
          go_ret
          exact ⟨by simp, HB3.out⟩
  · rw [Bool.not_eq_true] at hok
    rw [hok]
    clear hok
    go_wp2
    go_ret
    exact ⟨by simp, HB2.out⟩
theorem LatticeMeets_card (N : Int) (E : List Stp) (A : Option Addr) (c : Nat) (i j : Int) (w : World) (hT : TabW w) (h : Kd.C kP w A E.length E) (hN : (Lit.int .i64 N).wf = true) :
    Calls Tryd.prog 10 #[.agg #[.int .i64 N, .slice A E.length c], .int .i64 i, .int .i64 j] w fun e w' => e = .returned (.bool true) ∧ Below w.heap.size w w' :=
  LatticeMeets_main N E A c i j w hT h (wf_i64 hN)
end Go.Proofs.YtplhihakeodadaaDoor.Sg
