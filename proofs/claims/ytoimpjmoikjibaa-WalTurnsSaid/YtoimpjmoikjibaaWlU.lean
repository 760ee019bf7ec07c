/- The law WalTurns, walked. -/
import Derived.Test.YtoimpjmoikjibaaWlL
import Derived.Test.YtoimpjmoikjibaaRead
namespace Go.Proofs.Ytoimpjmoikjibaa.Wl
open Go Go.RowKit Go.Proofs.Ytoimpjmoikjibaa.IMap Go.Proofs.Ytoimpjmoikjibaa.Pure Go.Proofs.Ytoimpjmoikjibaa.P Go.Proofs.Ytoimpjmoikjibaa.Dk Go.Proofs.YtoimpjmoikjibaaW.PrintWords Go.Proofs.YtoimpjmoikjibaaW.PrintLast Go.Proofs.YtoimpjmoikjibaaW.PrintMore
set_option linter.unusedVariables false
set_option linter.unusedSimpArgs false
theorem WalTurns_big (l0 l1 : List (List Int)) (A0 A1 : Option Addr) (c0 c1 : Nat) (w : World) (hbig : ¬ (l0.length ≤ 20 ∧ l1.length ≤ 20)) :
    Calls Try.prog 9 #[.slice A0 l0.length c0, .slice A1 l1.length c1] w fun e w' => e = .returned (.bool true) ∧ Below w.heap.size w w' := by
  obtain ⟨n0, hn0⟩ : ∃ n, l0.length = n := ⟨_, rfl⟩
  obtain ⟨n1, hn1⟩ : ∃ n, l1.length = n := ⟨_, rfl⟩
  rw [hn0, hn1] at hbig ⊢
  clear hn0 hn1
  have HQ := Aside0.mk hbig
  clear hbig
  go_enter Try.func9, Try.ntmps9
  go_wp2_with (fail)
  refine (anchor_T w).mono ?_
  rintro e w1 ⟨rfl, hb1⟩
  have HB1 := Aside0.mk hb1
  clear hb1
  by_cases q0 : n0 ≤ 20
  · have q1 : ¬ n1 ≤ 20 := fun h => HQ.out ⟨q0, h⟩
    have d0 : decide (20 < (n0 : Int)) = false := decide_eq_false (by omega)
    have d1 : decide (20 < (n1 : Int)) = true := decide_eq_true (by omega)
    clear q0 q1
    go_wp2
    go_ret
    exact ⟨rfl, HB1.out⟩
  · have d0 : decide (20 < (n0 : Int)) = true := decide_eq_true (by omega)
    clear q0
    go_wp2
    go_ret
    exact ⟨rfl, HB1.out⟩
set_option maxHeartbeats 8000000 in
set_option maxRecDepth 100000 in
theorem WalTurns_main (l0 l1 : List (List Int)) (A0 A1 : Option Addr) (c0 c1 : Nat) (w : World) (h0 : Kd.C kBs w A0 l0.length l0) (hc0 : l0.length ≤ c0) (h1 : Kd.C kBs w A1 l1.length l1) (hc1 : l1.length ≤ c1)
    (hB0 : ∀ b ∈ l0, B b) (hB1 : ∀ b ∈ l1, B b) (q0 : l0.length ≤ 20) (q1 : l1.length ≤ 20) :
    Calls Try.prog 9 #[.slice A0 l0.length c0, .slice A1 l1.length c1] w fun e w' => e = .returned (.bool true) ∧ Below w.heap.size w w' := by
  have HC0 := Aside0.mk h0
  have HC1 := Aside0.mk h1
  have HL1 := Aside0.mk hc1
  have HB0 := Aside0.mk hB0
  have HBB := Aside0.mk hB1
  obtain ⟨n0, hn0⟩ : ∃ n, l0.length = n := ⟨_, rfl⟩
  obtain ⟨n1, hn1⟩ : ∃ n, l1.length = n := ⟨_, rfl⟩
  rw [hn0] at q0 ⊢
  rw [hn1] at q1 ⊢
  have HN0 := Aside0.mk hn0
  have HN1 := Aside0.mk hn1
  have d0 : decide (20 < (n0 : Int)) = false := decide_eq_false (by omega)
  have d1 : decide (20 < (n1 : Int)) = false := decide_eq_false (by omega)
  clear h0 h1 hc0 hc1 hB0 hB1 hn0 hn1
  go_enter Try.func9, Try.ntmps9
  go_wp2_with (fail)
  refine (anchor_T w).mono ?_
  rintro e w1 ⟨rfl, hb1⟩
  have HB1 := Aside0.mk hb1
  clear hb1
  go_wp2_with (fail)
  refine (New_L (w0 := w) 1048576 w1 (by omega) (by omega) HB1.out).mono ?_
  rintro e w2 ⟨g, rfl, h2⟩
  have KO := Aside0.mk (Open_L h2 (BD_new _) (open_new 1048576 (by omega)) rfl)
  clear h2 HB1
  go_wp2_with (fail)
  refine KO.out.mono ?_
  rintro e w3 ⟨l, rfl, h3⟩
  have H3 : Aside0 (LL w w3 g l (Dk.one 0 (frame [0]) 9 1048576) (ws 0 9 [] [])) := ⟨h3⟩
  clear h3 KO d0 d1
  go_wp2
  go_loopg [8, 42] n0 (fun kq v8 v42 w' => ∃ (i nl : Nat) (last : List Int) (La : Option Addr) (lc : Nat), v42 = .int .i64 (i : Int) ∧ v8 = .slice La nl lc ∧ i + kq = n0 ∧ nl ≤ 300 ∧ Aside0 (last.length = nl ∧ Kd.C kB w La nl last ∧ nl ≤ lc) ∧ Aside0 (LL w w' g l (Dk.one (i : Int) (frame (0 :: last)) (nl + 9) 1048576) (ws (i : Int) (nl + 9) last [])))
  case atStart => exact ⟨0, 0, [], none, 0, rfl, rfl, by omega, by omega, ⟨rfl, Kd.C_nil _ _, Nat.le_refl _⟩, H3⟩
  case round =>
    clear H3
    obtain ⟨i, nl, last, La, lc, rfl, rfl, hk, hnl, HLA, HI⟩ := hrel
    by_cases hi : i < n0
    · have e1 : decide (i < n0) = true := decide_eq_true hi
      have hil : i < l0.length := by rw [HN0.out]; exact hi
      obtain ⟨b, hb⟩ : ∃ b, l0[i]? = some b := ⟨_, List.getElem?_eq_getElem hil⟩
      obtain ⟨ad, Ab, cb, hA, hcell, hCb, hcb⟩ := rows_at HC0.out i b hb
      cases hA
      have hx0 := hcell wr HI.out.from
      have HBb := Aside0.mk (HB0.out b (List.mem_of_getElem? hb))
      obtain ⟨nb, hnb⟩ : ∃ n, b.length = n := ⟨_, rfl⟩
      rw [hnb] at hx0
      have HNB := Aside0.mk hnb
      have HCB := Aside0.mk hCb
      have HCC := Aside0.mk hcb
      have HWI : Aside0 (wrap64 ((i : Int) + 1) = ((i + 1 : Nat) : Int)) := ⟨by unfold wrap64; omega⟩
      clear hil hb hcell hCb hcb hnb
      by_cases hbg : 300 < nb
      · have d2 : decide (300 < (nb : Int)) = true := decide_eq_true (by omega)
        clear hbg
        go_wp2
        go_ret
        exact ⟨rfl, HI.out.from⟩
      · have d2 : decide (300 < (nb : Int)) = false := decide_eq_false (by omega)
        have hnb3 : nb ≤ 300 := by omega
        have hll := HLA.out.1
        have KA := App_L HI.out Ab cb b HCB.out HCC.out HBb.out (by rw [HNB.out]; omega) (by show 0 ≤ 1000000; decide) (by show 0 ≤ ((nl + 9 : Nat) : Int) ∧ ((nl + 9 : Nat) : Int) ≤ 1000000000; omega) (app_ws (i : Int) _ (nl + 9) 1048576 (nl + 9) last [] b (by omega) (by omega) (by rw [HNB.out]; omega) (by rw [frame_len, HNB.out]; simp only [List.length_cons, hll]; omega))
        have KA := Aside0.mk KA
        clear hbg hll
        rw [HNB.out] at KA
        go_wp2_with (fail)
        refine KA.out.mono ?_
        rintro e w4 ⟨rfl, h4⟩
        have h4 : LL w w4 g l (Dk.one (i : Int) (frame (0 :: last) ++ frame (1 :: b)) (nl + 9) 1048576) (ws (i : Int) (nl + 9 + (nb + 9)) last ([] ++ [b])) := h4
        have hll := HLA.out.1
        have KR := Rot_L h4 Ab cb b HCB.out HCC.out HBb.out (by rw [HNB.out]; omega) (by show -10 ≤ (i : Int) ∧ (i : Int) ≤ 10000000; omega) (rot_ws (i : Int) _ (nl + 9) 1048576 _ last _ b (by omega) (by omega) (by rw [HNB.out]; omega) (by rw [List.length_append, frame_len, frame_len, HNB.out]; simp only [List.length_cons, hll, HNB.out]; omega))
        rw [HNB.out] at KR
        have KR := Aside0.mk KR
        clear KA h4 hll
        go_wp2_with (fail)
        refine KR.out.mono ?_
        rintro e w5 ⟨rfl, h5⟩
        have h5 : LL w w5 g l (Dk.one ((i : Int) + 1) (frame (0 :: b)) (nb + 9) 1048576) (ws ((i : Int) + 1) (nb + 9) b []) := h5
        have KN := Aside0.mk (Name_L h5 (n := (i : Int) + 1) rfl)
        have KRC := Aside0.mk (Records_L h5 (rs := []) rfl (fun r hr => by cases hr) (by decide))
        have H5 := Aside0.mk h5
        clear KR h5
        go_wp2_with (fail)
        refine KN.out.mono ?_
        rintro e w6 ⟨rfl, rfl⟩
        clear KN
        go_wp2_with (fail)
        refine KRC.out.mono ?_
        rintro e w6 ⟨v6, rfl, hv6, hb6⟩
        obtain ⟨A6, c6, rfl⟩ := Kd.N_slice hv6
        have H6 := H5.out.below hb6
        rw [show ((i : Int) + 1) = ((i + 1 : Nat) : Int) from by omega] at H6
        have H6 := Aside0.mk H6
        have HLA2 : Aside0 (b.length = nb ∧ Kd.C kB w Ab nb b ∧ nb ≤ cb) := ⟨HNB.out, by have := HCB.out; rw [HNB.out] at this; exact this, by have := HCC.out; rw [HNB.out] at this; exact this⟩
        clear hv6 hb6 KRC H5
        go_wp2
        go_roundg (gk - 1)
        case measure => omega
        case rel => exact ⟨i + 1, nb, b, Ab, cb, (by first | exact congrArg _ HWI.out | rfl | (congr 1; go_num)), rfl, by omega, by omega, HLA2, H6⟩
    · have e1 : decide (i < n0) = false := decide_eq_false hi
      have hin : i = n0 := by omega
      subst hin
      clear hi
      go_wp2
      go_loopg [11, 80] n1 (fun kq v11 v80 w' => ∃ (j sz : Nat) (bs : List Int), v11 = .int .i64 (sz : Int) ∧ v80 = .int .i64 (j : Int) ∧ j + kq = n1 ∧ sz ≤ 309 + 309 * j ∧ Aside0 (bs.length = sz ∧ LL w w' g l (Dk.one (i : Int) bs (nl + 9) 1048576) (ws (i : Int) sz last (l1.take j)) ∧ ∀ x ∈ l1.take j, x.length ≤ 300))
      case atStart => 
        exact ⟨0, nl + 9, frame (0 :: last), (by congr 1; omega), rfl, by omega, by omega, ⟨by rw [frame_len, List.length_cons, HLA.out.1], HI.out, fun x hx => by cases hx⟩⟩
      case round =>
        obtain ⟨j, sz, bs, rfl, rfl, hk2, hsz, HJ⟩ := hrel
        by_cases hj : j < n1
        · have e2 : decide (j < n1) = true := decide_eq_true hj
          have hjl : j < l1.length := by rw [HN1.out]; exact hj
          obtain ⟨r, hr⟩ : ∃ b, l1[j]? = some b := ⟨_, List.getElem?_eq_getElem hjl⟩
          obtain ⟨ad, Ab, cb, hA, hcell, hCb, hcb⟩ := rows_at HC1.out j r hr
          cases hA
          have hx0 := hcell wr HJ.out.2.1.from
          have HBb := Aside0.mk (HBB.out r (List.mem_of_getElem? hr))
          have HTK : Aside0 (l1.take (j + 1) = l1.take j ++ [r]) := ⟨by
            rw [List.take_add_one, hr]
            rfl⟩
          obtain ⟨nb, hnb⟩ : ∃ n, r.length = n := ⟨_, rfl⟩
          rw [hnb] at hx0
          have HNB := Aside0.mk hnb
          have HCB := Aside0.mk hCb
          have HCC := Aside0.mk hcb
          have HWI : Aside0 (wrap64 ((j : Int) + 1) = ((j + 1 : Nat) : Int)) := ⟨by unfold wrap64; omega⟩
          clear hjl hr hcell hCb hcb hnb
          by_cases hbg : 300 < nb
          · have d2 : decide (300 < (nb : Int)) = true := decide_eq_true (by omega)
            clear hbg
            go_wp2
            go_ret
            exact ⟨rfl, HJ.out.2.1.from⟩
          · have d2 : decide (300 < (nb : Int)) = false := decide_eq_false (by omega)
            have hnb3 : nb ≤ 300 := by omega
            have hll := HJ.out.1
            have KA := App_L HJ.out.2.1 Ab cb r HCB.out HCC.out HBb.out (by rw [HNB.out]; omega) (by show (l1.take j).length ≤ 1000000; rw [List.length_take]; omega) (by show 0 ≤ (sz : Int) ∧ (sz : Int) ≤ 1000000000; omega) (app_ws (i : Int) bs (nl + 9) 1048576 sz last (l1.take j) r (by omega) (by omega) (by rw [HNB.out]; omega) (by rw [HNB.out, hll]; omega))
            have KA := Aside0.mk KA
            have HSW : Aside0 (wrap64 ((sz : Int) + (9 + (nb : Int))) = ((sz + (nb + 9) : Nat) : Int)) := ⟨by unfold wrap64; omega⟩
            clear hbg hll
            rw [HNB.out] at KA
            go_wp2_with (fail)
            refine KA.out.mono ?_
            rintro e w4 ⟨rfl, h4⟩
            have h4 : LL w w4 g l (Dk.one (i : Int) (bs ++ frame (1 :: r)) (nl + 9) 1048576) (ws (i : Int) (sz + (nb + 9)) last (l1.take j ++ [r])) := h4
            rw [← HTK.out] at h4
            have HJ2 : Aside0 ((bs ++ frame (1 :: r)).length = sz + (nb + 9) ∧ LL w w4 g l (Dk.one (i : Int) (bs ++ frame (1 :: r)) (nl + 9) 1048576) (ws (i : Int) (sz + (nb + 9)) last (l1.take (j + 1))) ∧ ∀ x ∈ l1.take (j + 1), x.length ≤ 300) := ⟨by rw [List.length_append, frame_len, List.length_cons, HJ.out.1, HNB.out], h4, fun x hx => by
              rw [HTK.out] at hx
              rcases List.mem_append.1 hx with hx | hx
              · exact HJ.out.2.2 x hx
              · rw [List.mem_singleton.1 hx, HNB.out]; exact hnb3⟩
            clear KA h4
            go_wp2
            go_roundg (gk - 1)
            case measure => omega
            case rel => exact ⟨j + 1, sz + (nb + 9), _, (by first | exact congrArg _ HSW.out | rfl | (congr 1; go_num) | (congr 1; omega)), (by first | exact congrArg _ HWI.out | rfl | (congr 1; go_num)), by omega, by omega, HJ2⟩
        · have e2 : decide (j < n1) = false := decide_eq_false hj
          have hjn : l1.take j = l1 := List.take_of_length_le (by rw [HN1.out]; omega)
          rw [hjn] at HJ
          have H9 := Aside0.mk HJ.out.2.1
          have HX3 := Aside0.mk HJ.out.2.2
          have HSZ := Aside0.mk HJ.out.1
          have KN := Names_L HJ.out.2.1.lw
          rw [show (Dk.one (i : Int) bs (nl + 9) 1048576).down = false from rfl] at KN
          simp only [Bool.false_eq_true, ↓reduceIte] at KN
          rw [show keys (Dk.one (i : Int) bs (nl + 9) 1048576).M = [(i : Int)] from rfl] at KN
          have KN := Aside0.mk KN
          clear hjn hj HJ
          go_wp2_with (fail)
          refine KN.out.mono ?_
          rintro e w5 ⟨v, rfl, hv, _, hb⟩
          obtain ⟨An, cn, rfl⟩ := Kd.R_slice hv
          obtain ⟨gn, rfl, hcell⟩ := R_at hv 0 (Nat.zero_lt_one)
          have hcell : w5.cell? ⟨gn, 0, none⟩ = some (.int .i64 (i : Int)) := hcell
          have H10 := Aside0.mk (H9.out.below hb)
          have KS := Size_L H10.out.lw
          rw [size_one, HSZ.out] at KS
          have KS := Aside0.mk KS
          clear hv hb KN H9
          go_wp2_with (fail)
          refine KS.out.mono ?_
          rintro e w6 ⟨rfl, _, hb⟩
          have H11 := Aside0.mk (H10.out.below hb)
          have KB := Aside0.mk (Base_L H11.out (b := last) rfl (by rw [HLA.out.1]; omega))
          clear hb KS H10 hcell
          go_wp2_with (fail)
          refine KB.out.mono ?_
          rintro e w7 ⟨v7, rfl, hv7, hb⟩
          obtain ⟨A7, c7, rfl⟩ := Kd.R_slice hv7
          have H12 := Aside0.mk (H11.out.below hb)
          have r7 := Kd.R_reads' hv7
          have KE := same_T A7 La c7 lc last last w7 r7.2.2 r7.2.1 (by rw [HLA.out.1]; exact Kd.C_below HLA.out.2.1 H12.out.from) (by rw [HLA.out.1]; exact HLA.out.2.2) (by rw [HLA.out.1]; omega)
          rw [HLA.out.1, decide_eq_true (rfl : last = last)] at KE
          have KE := Aside0.mk KE
          rw [HLA.out.1]
          clear hv7 hb KB H11 r7
          go_wp2_with (fail)
          refine KE.out.mono ?_
          rintro e w8 ⟨rfl, hb⟩
          have H13 := Aside0.mk (H12.out.below hb)
          have KR := Aside0.mk (Records_L H13.out (rs := l1) rfl (fun r hr => Nat.le_trans (HX3.out r hr) (by decide)) (by rw [HN1.out]; omega))
          clear hb KE H12
          go_wp2_with (fail)
          refine KR.out.mono ?_
          rintro e w9 ⟨v9, rfl, hv9, hb⟩
          obtain ⟨A9, c9, rfl⟩ := Kd.N_slice hv9
          have H14 := Aside0.mk (H13.out.below hb)
          have r9 := Kd.N_reads' hv9
          have KE := sames_T A9 A1 c9 c1 l1 l1 w9 r9.2.2 r9.2.1 (Kd.C_below HC1.out H14.out.from) HL1.out (by rw [HN1.out]; omega) (fun x hx => Nat.le_trans (HX3.out x hx) (by decide))
          rw [HN1.out, decide_eq_true (rfl : l1 = l1)] at KE
          have KE := Aside0.mk KE
          rw [HN1.out]
          clear hv9 hb KR H13 r9
          go_wp2_with (fail)
          refine KE.out.mono ?_
          rintro e w10 ⟨rfl, hb⟩
          have H15 := Aside0.mk (H14.out.below hb)
          clear hb KE H14
          go_wp2
          go_ret
          exact ⟨rfl, H15.out.from⟩
def byteR (l : List (List Int)) : Bool := l.all fun b => b.all fun x => decide (0 ≤ x ∧ x < 256)
theorem byteR_B {l : List (List Int)} (h : byteR l = true) : ∀ b ∈ l, B b := fun b hb x hx => by
  have := List.all_eq_true.1 (List.all_eq_true.1 h b hb) x hx
  simp only [decide_eq_true_eq] at this
  exact this
def slipwaylaw14_WalTurns.f (_k : Nat) (l0 l1 : List (List Int)) : Option Bool := if (byteR l0 && byteR l1) = true then some true else none
theorem slipwaylaw14_WalTurns.calls (k : Nat) (A0 : Option Addr) (c0 : Nat) (l0 : List (List Int)) (A1 : Option Addr) (c1 : Nat) (l1 : List (List Int)) (r : Bool) (w : World) (hr0 : Kd.C kBs w A0 l0.length l0) (hc0 : l0.length ≤ c0) (hr1 : Kd.C kBs w A1 l1.length l1) (hc1 : l1.length ≤ c1) (h : slipwaylaw14_WalTurns.f k l0 l1 = some r) :
    Calls Try.prog 9 #[.slice A0 l0.length c0, .slice A1 l1.length c1] w fun e w' => e = .returned (.bool r) ∧ Below w.heap.size w w' := by
  unfold slipwaylaw14_WalTurns.f at h
  split at h
  · rename_i hq
    obtain rfl := Option.some.inj h
    rw [Bool.and_eq_true] at hq
    by_cases q : l0.length ≤ 20 ∧ l1.length ≤ 20
    · exact WalTurns_main l0 l1 A0 A1 c0 c1 w hr0 hc0 hr1 hc1 (byteR_B hq.1) (byteR_B hq.2) q.1 q.2
    · exact WalTurns_big l0 l1 A0 A1 c0 c1 w q
  · cases h
end Go.Proofs.Ytoimpjmoikjibaa.Wl
namespace Go.Proofs.Ytoimpjmoikjibaa.Pure
open Go Go.Proofs.Ytoimpjmoikjibaa.Wl Go.Proofs.Ytoimpjmoikjibaa.Read
set_option linter.unusedVariables false
theorem byteR_good {l : List (List Int)} (g : goodList (goodList (fun x => (Lit.int .u8 x).wf = true)) l) : byteR l = true := List.all_eq_true.2 fun b hb => List.all_eq_true.2 fun x hx => by
  have h := (g.2 b hb).2 x hx
  simp only [Lit.wf, decide_eq_true_eq, Bool.and_eq_true] at h
  rw [show IntKind.u8.min = 0 from rfl, show IntKind.u8.max = 255 from rfl] at h
  exact decide_eq_true (by omega)
theorem WalTurns (l0 : List (List Int)) (g0 : goodList (goodList (fun x => (Lit.int .u8 x).wf = true)) l0) (l1 : List (List Int)) (g1 : goodList (goodList (fun x => (Lit.int .u8 x).wf = true)) l1) : ∃ k, slipwaylaw14_WalTurns.f k l0 l1 = some true :=
  ⟨0, if_pos (by rw [byteR_good g0, byteR_good g1]; rfl)⟩
end Go.Proofs.Ytoimpjmoikjibaa.Pure
