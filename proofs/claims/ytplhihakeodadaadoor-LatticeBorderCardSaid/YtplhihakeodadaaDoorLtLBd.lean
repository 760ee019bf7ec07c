/- lattice: the law LatticeBorder, walked. -/
import Derived.Test.YtplhihakeodadaaDoorLtFrm
namespace Go.Proofs.YtplhihakeodadaaDoor.Sg
open Go Go.RowKit Go.Proofs.YtplhihakeodadaaDoorW.PrintWords Go.Proofs.YtplhihakeodadaaDoorW.PrintLast Go.Proofs.YtplhihakeodadaaDoorW.PrintMore
set_option linter.unusedVariables false
set_option linter.unusedSimpArgs false
theorem behind_iff {E : List Stp} {s i : Nat} : behindE E s i = true ↔ ∃ e ∈ E, e.1.toNat = i ∧ s.testBit e.2.toNat = true := by
  unfold behindE
  rw [List.any_eq_true]
  constructor
  · rintro ⟨e, he, h⟩
    rw [Bool.and_eq_true, decide_eq_true_eq] at h
    exact ⟨e, he, h⟩
  · rintro ⟨e, he, h1, h2⟩
    exact ⟨e, he, by rw [Bool.and_eq_true, decide_eq_true_eq]; exact ⟨h1, h2⟩⟩
theorem no_loop {E : List Stp} {n : Nat} (hE : ∀ e ∈ E, e.1.toNat < n ∧ e.2.toNat < n) (hc : ¬ Circ E n) : ∀ e ∈ E, e.1.toNat ≠ e.2.toNat := fun e he h =>
  hc ⟨e.2.toNat, (hE e he).2, Reach.one e he h⟩
/-- A closed set without one of its nodes. -/
theorem border_plain {E : List Stp} {n s i : Nat} (hs : s < 2 ^ 64) (hE : ∀ e ∈ E, e.1.toNat < n ∧ e.2.toNat < n) (hc : ¬ Circ E n) (hcl : closedE E s = true) (hi : s.testBit i = true) : closedE E (andN s (2 ^ i)) = !behindE E s i := by
  have hb : ∀ j, (andN s (2 ^ i)).testBit j = (s.testBit j && !decide (i = j)) := fun j => by rw [andN_bit _ _ _ hs, Nat.testBit_two_pow]
  cases hbe : behindE E s i with
  | true =>
    obtain ⟨e, he, h1, h2⟩ := behind_iff.1 hbe
    have hne := no_loop hE hc e he
    cases hx : closedE E (andN s (2 ^ i)) with
    | false => rfl
    | true =>
      have := cl_iff.1 hx e he (by rw [hb, show e.2.toNat = (Prod.snd e).toNat from rfl, h2]; simp; intro h; exact hne (h1.trans h))
      rw [hb, show (Prod.fst e).toNat = i from h1] at this
      simp at this
  | false =>
    refine cl_iff.2 fun e he h => ?_
    rw [hb, Bool.and_eq_true] at h
    have h1 := cl_iff.1 hcl e he h.1
    rw [hb, h1]
    simp only [Bool.true_and, Bool.not_eq_true', decide_eq_false_iff_not]
    intro h2
    have : behindE E s i = true := behind_iff.2 ⟨e, he, h2.symm, h.1⟩
    rw [hbe] at this
    cases this
theorem behind_snoc {E : List Stp} {s i k : Nat} {e : Stp} (h : E.take (k + 1) = E.take k ++ [e]) : behindE (E.take (k + 1)) s i = (behindE (E.take k) s i || (decide (e.1.toNat = i) && s.testBit e.2.toNat)) := by
  rw [h]
  unfold behindE
  rw [List.any_append]
  simp
set_option maxHeartbeats 16000000 in
set_option maxRecDepth 20000 in
theorem LatticeBorder_main (N : Int) (E : List Stp) (A : Option Addr) (c s : Nat) (w : World) (hT : TabW w) (hs : s < 2 ^ 64) (h : Kd.C kP w A E.length E) (hN : -9223372036854775808 ≤ N ∧ N < 9223372036854775808) :
    Calls Tryd.prog 13 #[.agg #[.int .i64 N, .slice A E.length c], .int .u64 (s : Int)] w fun e w' => e = .returned (.bool true) ∧ Below w.heap.size w w' := by
  have hb0 := below_alloc (Below.refl w.heap.size w) (.cells #[.int .i64 N, .slice A E.length c] 62)
  have HX := Aside0.mk (heap_last w (.cells #[.int .i64 N, .slice A E.length c] 62))
  have HB := Aside0.mk hb0
  have K0 := Aside0.mk (Anchor_T (w.alloc (.cells #[.int .i64 N, .slice A E.length c] 62)) (hT.below hb0))
  have KP := Aside0.mk (fun W (hb : Below w.heap.size w W) => plain_T N E A c W (Kd.C_below h hb) hN)
  have HN := Aside0.mk hN
  have HC := Aside0.mk h
  have HS := Aside0.mk hs
  have h0 := (blk_cell HX.out) 0
  have h1 := (blk_cell HX.out) 1
  clear hb0 h hs hT
  obtain ⟨hN1, hN2⟩ := hN
  go_enter Tryd.func13, Tryd.ntmps13
  go_wp2_with (fail)
  refine K0.out.mono ?_
  rintro e w1 ⟨rfl, hb⟩
  have HB1 := Aside0.mk (below_step HB.out hb)
  have HX1 := Aside0.mk (blk_below HX.out hb)
  clear K0 hb h0 h1
  have h0 := (blk_cell HX1.out) 0
  have h1 := (blk_cell HX1.out) 1
  go_wp2_with (fail)
  refine (KP.out w1 HB1.out).mono ?_
  rintro e w2 ⟨rfl, hb⟩
  have HB2' := Aside0.mk (below_step HB1.out hb)
  have HX2' := Aside0.mk (blk_below HX1.out hb)
  clear KP hb h0 h1
  have HB2 := Aside0.mk (below_alloc HB2'.out (.cells #[.int .i64 N, .slice A E.length c] 55))
  have HX2 := Aside0.mk (blk_alloc HX2'.out (.cells #[.int .i64 N, .slice A E.length c] 55))
  have HP2 := Aside0.mk (heap_last w2 (.cells #[.int .i64 N, .slice A E.length c] 55))
  have h0 := (blk_cell HX2.out) 0
  have h1 := (blk_cell HX2.out) 1
  have hp0 := (blk_cell HP2.out) 0
  have hp1 := (blk_cell HP2.out) 1
  have HW2 : Aside0 (w.heap.size ≤ w2.heap.size) := ⟨below_size HB2'.out⟩
  clear HB1 HX1 HB HX HB2' HX2'
  by_cases hok : okG N E = true
  · rw [hok]
    have HOK := Aside0.mk hok
    have hl := okG_len hok
    have KD := Aside0.mk (fun W (hb : Below w.heap.size w W) => Border_T N E A c s W HS.out (Kd.C_below HC.out hb) (by omega) (by omega) HN.out.1)
    have KR := Aside0.mk (fun W (hb : Below w.heap.size w W) => RRight_T N E A c W (Kd.C_below HC.out hb) (by omega) HN.out)
    have HL : Aside0 (E.length ≤ 1000000000) := ⟨by omega⟩
    clear hok hl
    go_wp2_with (fail)
    refine (KD.out _ HB2.out).mono ?_
    rintro e w3 ⟨d, rfl, hd1, hd2, hb⟩
    have HB3 := Aside0.mk (below_step HB2.out hb)
    have HX3 := Aside0.mk (blk_below HX2.out hb)
    have HP3 := Aside0.mk (blk_below HP2.out hb)
    have HD1 := Aside0.mk hd1
    have HD2 := Aside0.mk hd2
    clear KD hb h0 h1 hp0 hp1 hd1 hd2
    have h0 := (blk_cell HX3.out) 0
    have h1 := (blk_cell HX3.out) 1
    have hp0 := (blk_cell HP3.out) 0
    have hp1 := (blk_cell HP3.out) 1
    go_wp2_with (fail)
    refine (KR.out _ HB3.out).mono ?_
    rintro e w4 ⟨rfl, hb⟩
    have HB4 := Aside0.mk (below_step HB3.out hb)
    have HX4 := Aside0.mk (blk_below HX3.out hb)
    have HP4 := Aside0.mk (blk_below HP3.out hb)
    clear KR hb h0 h1 hp0 hp1
    have h0 := (blk_cell HX4.out) 0
    have h1 := (blk_cell HX4.out) 1
    have hp0 := (blk_cell HP4.out) 0
    have hp1 := (blk_cell HP4.out) 1
    cases hr : rightG N E with
    | false =>
      have e1 : insideE N E s = 20 := by unfold insideE; rw [hr]; rfl
      have e2 : d = 0 := HD2.out (by rw [e1]; decide)
      subst e2
      rw [e1]
      clear hr e1
      go_wp2
      go_ret
      exact ⟨by simp, HB4.out⟩
    | true =>
      have h0n := (rightG_in hr).2.1
      obtain ⟨n, rfl⟩ := Int.eq_ofNat_of_zero_le h0n.1
      have HR := Aside0.mk hr
      have hz := shr_zero s n
      have hi := inside_iff HS.out hr
      have s0 : min n 64 = n := by omega
      by_cases hsn : s < 2 ^ n
      · rw [if_pos hsn] at hi
        rw [decide_eq_true hsn] at hz
        have HSN := Aside0.mk hsn
        rw [hi]
        have HLE := Aside0.mk (HD1.out hi)
        have hn10 := okG_ten HOK.out hr
        have HN10 := Aside0.mk hn10
        have HE2 := Aside0.mk (right_edges hr)
        have HE64 := Aside0.mk (rightG_in hr).1
        have HEN := Aside0.mk (rightG_in hr).2.2.2
        have hsub : Sub d s := fun j hj => by
          rw [HLE.out.2] at hj
          simp only [Bool.and_eq_true] at hj
          exact hj.1
        have t1 := andNU d s
        rw [(andN_zero HLE.out.1).2 hsub] at t1
        have HIJ := Aside0.mk (And.intro hN1 hN2)
        clear hi hsn hr h0n hn10 hsub hN1 hN2
        go_wp2_with (fail)
        clear t1 hz
        go_loopg [9, 10, 65] n (fun kq v9 v10 v65 w' => ∃ (i : Nat), v9 = .int .i64 (i : Int) ∧ Aside0 (i + kq = n) ∧ Aside0 (w'.heap[w.heap.size]? = some (.cells #[.int .i64 (n : Int), .slice A E.length c] 62 (0, 0))) ∧ Aside0 (w'.heap[w2.heap.size]? = some (.cells #[.int .i64 (n : Int), .slice A E.length c] 55 (0, 0))) ∧ Aside0 (Below w.heap.size w w'))
        case atStart => exact ⟨0, rfl, ⟨by omega⟩, HX4, HP4, HB4⟩
        case round =>
          clear h0 h1 hp0 hp1 HX4 HP4 HB4
          obtain ⟨i, rfl, HJ, HX4, HP4, HB4⟩ := hrel
          have h0 := (blk_cell HX4.out) 0
          by_cases c1 : i < n
          · have e1 : decide (i < n) = true := decide_eq_true c1
            have e0 : (i : Int) < (n : Int) := by omega
            have HE5 : Aside0 (wrap64 ((i : Int) + 1) = ((i + 1 : Nat) : Int)) := ⟨by have := HN10.out; unfold wrap64; omega⟩
            have HI := Aside0.mk c1
            have K1 := Aside0.mk (In_T s i wr HS.out (by have := HN10.out; omega))
            obtain ⟨bi, hbi⟩ : ∃ b, s.testBit i = b := ⟨_, rfl⟩
            rw [hbi] at K1
            have HBI := Aside0.mk hbi
            clear hbi c1
            cases bi with
            | false =>
              go_wp2_with (fail)
              refine K1.out.mono ?_
              rintro e w5 ⟨rfl, rfl⟩
              go_wp2
              go_roundg (gk - 1)
              case measure => have := HJ.out; have := HI.out; omega
              case rel => exact ⟨i + 1, (by first | exact congrArg _ HE5.out | rfl), ⟨by have := HJ.out; have := HI.out; omega⟩, HX4, HP4, HB4⟩
            | true =>
              go_wp2_with (fail)
              refine K1.out.mono ?_
              rintro e w5 ⟨rfl, rfl⟩
              have h1 := (blk_cell HX4.out) 1
              clear K1
              obtain ⟨ko, hko⟩ : ∃ k, k = gk := ⟨_, rfl⟩
              go_wp2_with (fail)
              clear h0 h1
              go_loopg [10, 65] E.length (fun kq v10 v65 w' => ∃ (k : Nat), v10 = .bool (behindE (E.take k) s i) ∧ v65 = .int .i64 (k : Int) ∧ Aside0 (k + kq = E.length) ∧ Aside0 (w'.heap[w.heap.size]? = some (.cells #[.int .i64 (n : Int), .slice A E.length c] 62 (0, 0))) ∧ Aside0 (w'.heap[w2.heap.size]? = some (.cells #[.int .i64 (n : Int), .slice A E.length c] 55 (0, 0))) ∧ Aside0 (Below w.heap.size w w'))
              case atStart => exact ⟨0, rfl, rfl, ⟨by omega⟩, HX4, HP4, HB4⟩
              case round =>
                rename_i J0 K0 hJ0 hK0
                clear HX4 HP4 HB4
                obtain ⟨k, rfl, rfl, HJ2, HX4, HP4, HB4⟩ := hrel
                by_cases c2 : k < E.length
                · have e2 : decide (k < E.length) = true := decide_eq_true c2
                  have HK5 : Aside0 (wrap64 ((k : Int) + 1) = ((k + 1 : Nat) : Int)) := ⟨by have := HL.out; unfold wrap64; omega⟩
                  obtain ⟨ad, ea, hx, hy⟩ := at_stp HC.out k c2
                  cases ea
                  replace hx := pw_cell_below HB4.out hx
                  replace hy := pw_cell_below HB4.out hy
                  obtain ⟨e, he⟩ : ∃ e, E.getD k (0, 0) = e := ⟨_, rfl⟩
                  have hm : e ∈ E := by rw [← he]; exact getD_mem c2 _
                  have htk : E.take (k + 1) = E.take k ++ [e] := by rw [take_snoc' c2 (0, 0), he]
                  obtain ⟨⟨p1, p2⟩, ⟨p3, p4⟩⟩ := HEN.out e hm
                  rw [he] at hx hy
                  have HBE := Aside0.mk (behind_snoc (s := s) (i := i) htk)
                  obtain ⟨p, q⟩ := e
                  obtain ⟨p, rfl⟩ := Int.eq_ofNat_of_zero_le p1
                  obtain ⟨q, rfl⟩ := Int.eq_ofNat_of_zero_le p3
                  dsimp only at p2 p4 hx hy
                  have HI2 := Aside0.mk c2
                  have HB5 := Aside0.mk (HB4.out.alloc HB4.out.size (.cells #[.int .i64 (p : Int), .int .i64 (q : Int)] 74))
                  have HX5 := Aside0.mk (blk_alloc HX4.out (.cells #[.int .i64 (p : Int), .int .i64 (q : Int)] 74))
                  have HP5 := Aside0.mk (blk_alloc HP4.out (.cells #[.int .i64 (p : Int), .int .i64 (q : Int)] 74))
                  have hl6 := heap_last wr (.cells #[.int .i64 (p : Int), .int .i64 (q : Int)] 74)
                  have l0 := (blk_cell hl6) 0
                  have l1 := (blk_cell hl6) 1
                  have K1 := Aside0.mk (In_T s q (wr.alloc (.cells #[.int .i64 (p : Int), .int .i64 (q : Int)] 74)) HS.out (by have := HN10.out; omega))
                  obtain ⟨bq, hbq⟩ : ∃ b, s.testBit q = b := ⟨_, rfl⟩
                  rw [hbq] at K1
                  have hbe := HBE.out
                  rw [show s.testBit (Prod.snd ((p : Int), (q : Int))).toNat = bq from hbq, show (Prod.fst ((p : Int), (q : Int))).toNat = p from rfl] at hbe
                  have HBE2 := Aside0.mk hbe
                  obtain ⟨B, hB⟩ : ∃ b, behindE (E.take k) s i = b := ⟨_, rfl⟩
                  rw [hB] at hbe ⊢
                  clear he hm htk p1 p2 p3 p4 hbq hl6 hB HBE HBE2
                  cases B with
                  | true =>
                    rw [Bool.true_or] at hbe
                    have HBE := Aside0.mk hbe
                    clear hbe
                    go_wp2_with (fail)
                    go_roundg (gk - 1)
                    case measure => have := HJ2.out; have := HI2.out; omega
                    case rel => exact ⟨k + 1, by rw [HBE.out], (by first | exact congrArg _ HK5.out | rfl), ⟨by have := HJ2.out; have := HI2.out; omega⟩, HX5, HP5, HB5⟩
                  | false =>
                    rw [Bool.false_or] at hbe
                    by_cases cp : p = i
                    · have e3 : ((p : Int) == (i : Int)) = true := by rw [cp]; simp
                      rw [decide_eq_true cp, Bool.true_and] at hbe
                      have HBE := Aside0.mk hbe
                      clear hbe cp
                      go_wp2_with (fail)
                      refine K1.out.mono ?_
                      rintro e w5 ⟨rfl, rfl⟩
                      cases bq with
                      | true =>
                        go_wp2
                        go_roundg (gk - 1)
                        case measure => have := HJ2.out; have := HI2.out; omega
                        case rel => exact ⟨k + 1, by rw [HBE.out], (by first | exact congrArg _ HK5.out | rfl), ⟨by have := HJ2.out; have := HI2.out; omega⟩, HX5, HP5, HB5⟩
                      | false =>
                        go_wp2
                        go_roundg (gk - 1)
                        case measure => have := HJ2.out; have := HI2.out; omega
                        case rel => exact ⟨k + 1, by rw [HBE.out], (by first | exact congrArg _ HK5.out | rfl), ⟨by have := HJ2.out; have := HI2.out; omega⟩, HX5, HP5, HB5⟩
                    · have e3 : ((p : Int) == (i : Int)) = false := by rw [beq_eq_false_iff_ne]; omega
                      rw [decide_eq_false cp, Bool.false_and] at hbe
                      have HBE := Aside0.mk hbe
                      clear hbe cp
                      go_wp2_with (fail)
                      go_roundg (gk - 1)
                      case measure => have := HJ2.out; have := HI2.out; omega
                      case rel => exact ⟨k + 1, by rw [HBE.out], (by first | exact congrArg _ HK5.out | rfl), ⟨by have := HJ2.out; have := HI2.out; omega⟩, HX5, HP5, HB5⟩
                · have e2 : decide (k < E.length) = false := decide_eq_false c2
                  have hit : E.take k = E := List.take_of_length_le (by omega)
                  rw [hit]
                  have hdb := HLE.out.2 i
                  rw [HBI.out, Bool.true_and] at hdb
                  have K1 := Aside0.mk (In_T d i wr HLE.out.1 (by have := HN10.out; have := HI.out; omega))
                  rw [hdb] at K1
                  obtain ⟨B, hB⟩ : ∃ b, behindE E s i = b := ⟨_, rfl⟩
                  rw [hB] at K1 ⊢
                  have HBB := Aside0.mk hB
                  have hp0 := (blk_cell HP4.out) 0
                  have hp1 := (blk_cell HP4.out) 1
                  clear hdb hit c2 hB
                  have e3 : ((!B) == B) = false := by cases B <;> rfl
                  go_wp2_with (fail)
                  refine K1.out.mono ?_
                  rintro e w5 ⟨rfl, rfl⟩
                  go_wp2_with (fail)
                  have HPD := Aside0.mk (blk_drew HP4.out)
                  have HBD := Aside0.mk (below_drew1 HB4.out)
                  have HXD := Aside0.mk (blk_drew HX4.out)
                  have K1 := Aside0.mk (Closed_T (n : Int) E A c s wr.drew HS.out (Kd.C_below HC.out HBD.out) HE64.out HL.out)
                  have z0 : wr.drew.cell? ⟨w2.heap.size, 0, none⟩ = some (.int .i64 (n : Int)) := hp0
                  have z1 : wr.drew.cell? ⟨w2.heap.size, 1, none⟩ = some (.slice A E.length c) := hp1
                  have hin := HI.out
                  have hn10 := HN10.out
                  obtain ⟨bs, hbs⟩ : ∃ b, closedE E s = b := ⟨_, rfl⟩
                  rw [hbs] at K1
                  have HBS := Aside0.mk hbs
                  have KR2 := Aside0.mk (fun W (hb : Below w.heap.size w W) => Circle_T n E A c W (Kd.C_below HC.out hb) HR.out (by have := HL.out; have := okG_len HOK.out; omega))
                  have si : min i 64 = i := by omega
                  have ti := shlU i (by omega)
                  have ta := andPow s i
                  have KC3 := Aside0.mk (fun W (hb : Below w.heap.size w W) => Closed_T (n : Int) E A c (andN s (2 ^ i)) W (by have := andN_lt s (2 ^ i); simpa using this) (Kd.C_below HC.out hb) HE64.out HL.out)
                  clear hp0 hp1 hbs hin hn10 e2 e3 HB4 HX4 HP4
                  cases bs with
                  | false =>
                    refine wp_region_held_drew (S := (fun w' => w'.cell? ⟨w2.heap.size, 0, none⟩ = some (.int .i64 (n : Int)) ∧ w'.cell? ⟨w2.heap.size, 1, none⟩ = some (.slice A E.length c))) (by kernel_rfl) ⟨z0, z1⟩ (fun hHeld => ?_)
                    simp only [List.size_toArray, List.length_cons, List.length_nil, Nat.reduceAdd]
                    refine wpAnyH_take (i := 0) (oi := { dst := _, op := _, type := _, pos := _, after := _, guard := _ }) (v := ?_) rfl (by kernel_rfl) (by kernel_rfl) (by kernel_rfl) (fun _ _ _ h => h) (Or.inl ⟨by rfl, ?_⟩) (by assumption) ?_
                    rotate_left
                    · (intro wq hSw; (try dsimp only at hSw); go_simp <;> with_reducible rfl)
                    (try simp only [Act.put, List.setIfInBounds_toArray, List.set_cons_zero, List.set_cons_succ])
                    refine wpAnyH_take (i := 1) (oi := { dst := _, op := _, type := _, pos := _, after := _, guard := _ }) (v := ?_) rfl (by kernel_rfl) (by kernel_rfl) (by kernel_rfl) (fun _ _ _ h => h) (Or.inl ⟨by rfl, ?_⟩) (by assumption) ?_
                    rotate_left
                    · (intro wq hSw; (try dsimp only at hSw); go_simp <;> with_reducible rfl)
                    (try simp only [Act.put, List.setIfInBounds_toArray, List.set_cons_zero, List.set_cons_succ])
                    refine wpAnyH_ready (rs := [2]) (by kernel_rfl) (by simp) ?_
                    refine AllReadyH.cons (o := { dst := _, op := _, type := _, pos := _, after := _, guard := _ }) rfl (fun K hK => ?_) ?_
                    rotate_left
                    · exact AllReadyH.nil
                    go_simp
                    go_at_call 28
                    refine K1.out.mono ?_
                    rintro e w6 ⟨rfl, hb⟩
                    have HB6 := Aside0.mk (below_step HBD.out hb)
                    have HX6 := Aside0.mk (blk_below HXD.out hb)
                    have HP6 := Aside0.mk (blk_below HPD.out hb)
                    clear hb
                    refine hK.out _ _ ⟨(blk_cell HP6.out) 0, (blk_cell HP6.out) 1⟩ (fun hHeld => ?_)
                    clear hK K
                    (try simp only [Act.put, List.setIfInBounds_toArray, List.set_cons_zero, List.set_cons_succ])
                    refine wpAnyH_take (i := 3) (oi := { dst := _, op := _, type := _, pos := _, after := _, guard := _ }) (v := ?_) rfl (by kernel_rfl) (by kernel_rfl) (by kernel_rfl) (fun _ _ _ h => h) (Or.inl ⟨by rfl, ?_⟩) (by assumption) ?_
                    rotate_left
                    · (intro wq hSw; (try dsimp only at hSw); go_simp <;> with_reducible rfl)
                    (try simp only [Act.put, List.setIfInBounds_toArray, List.set_cons_zero, List.set_cons_succ])
                    refine wpAnyH_take (i := 4) (oi := { dst := _, op := _, type := _, pos := _, after := _, guard := _ }) (v := undef) rfl (by kernel_rfl) (by kernel_rfl) (by kernel_rfl) (fun _ _ _ h => h) (Or.inr ⟨by rfl, rfl⟩) (by assumption) ?_
                    (try simp only [Act.put, List.setIfInBounds_toArray, List.set_cons_zero, List.set_cons_succ])
                    refine wpAnyH_ready (rs := [5]) (by kernel_rfl) (by simp) ?_
                    refine AllReadyH.cons (o := { dst := _, op := _, type := _, pos := _, after := _, guard := _ }) rfl (fun K hK => ?_) ?_
                    rotate_left
                    · exact AllReadyH.nil
                    show K _ _
                    refine hK.out _ _ (by assumption) (fun hHeld => ?_)
                    clear hK K
                    (try simp only [Act.put, List.setIfInBounds_toArray, List.set_cons_zero, List.set_cons_succ])
                    refine wpAnyH_take (i := 6) (oi := { dst := _, op := _, type := _, pos := _, after := _, guard := _ }) (v := undef) rfl (by kernel_rfl) (by kernel_rfl) (by kernel_rfl) (fun _ _ _ h => h) (Or.inr ⟨by rfl, rfl⟩) (by assumption) ?_
                    (try simp only [Act.put, List.setIfInBounds_toArray, List.set_cons_zero, List.set_cons_succ])
                    refine wpAnyH_take (i := 7) (oi := { dst := _, op := _, type := _, pos := _, after := _, guard := _ }) (v := ?_) rfl (by kernel_rfl) (by kernel_rfl) (by kernel_rfl) (fun _ _ _ h => h) (Or.inl ⟨by rfl, ?_⟩) (by assumption) ?_
                    rotate_left
                    · (intro wq hSw; (try dsimp only at hSw); go_simp <;> with_reducible rfl)
                    (try simp only [Act.put, List.setIfInBounds_toArray, List.set_cons_zero, List.set_cons_succ])
                    refine wpAnyH_take (i := 8) (oi := { dst := _, op := _, type := _, pos := _, after := _, guard := _ }) (v := ?_) rfl (by kernel_rfl) (by kernel_rfl) (by kernel_rfl) (fun _ _ _ h => h) (Or.inl ⟨by rfl, ?_⟩) (by assumption) ?_
                    rotate_left
                    · (intro wq hSw; (try dsimp only at hSw); go_simp <;> with_reducible rfl)
                    (try simp only [Act.put, List.setIfInBounds_toArray, List.set_cons_zero, List.set_cons_succ])
                    refine wpAnyH_take (i := 9) (oi := { dst := _, op := _, type := _, pos := _, after := _, guard := _ }) (v := undef) rfl (by kernel_rfl) (by kernel_rfl) (by kernel_rfl) (fun _ _ _ h => h) (Or.inr ⟨by rfl, rfl⟩) (by assumption) ?_
                    (try simp only [Act.put, List.setIfInBounds_toArray, List.set_cons_zero, List.set_cons_succ])
                    refine wpAnyH_take (i := 10) (oi := { dst := _, op := _, type := _, pos := _, after := _, guard := _ }) (v := undef) rfl (by kernel_rfl) (by kernel_rfl) (by kernel_rfl) (fun _ _ _ h => h) (Or.inr ⟨by rfl, rfl⟩) (by assumption) ?_
                    (try simp only [Act.put, List.setIfInBounds_toArray, List.set_cons_zero, List.set_cons_succ])
                    refine wpAnyH_take (i := 11) (oi := { dst := _, op := _, type := _, pos := _, after := _, guard := _ }) (v := undef) rfl (by kernel_rfl) (by kernel_rfl) (by kernel_rfl) (fun _ _ _ h => h) (Or.inr ⟨by rfl, rfl⟩) (by assumption) ?_
                    (try simp only [Act.put, List.setIfInBounds_toArray, List.set_cons_zero, List.set_cons_succ])
                    refine wpAnyH_take (i := 12) (oi := { dst := _, op := _, type := _, pos := _, after := _, guard := _ }) (v := undef) rfl (by kernel_rfl) (by kernel_rfl) (by kernel_rfl) (fun _ _ _ h => h) (Or.inr ⟨by rfl, rfl⟩) (by assumption) ?_
                    (try simp only [Act.put, List.setIfInBounds_toArray, List.set_cons_zero, List.set_cons_succ])
                    refine wpAnyH_take (i := 13) (oi := { dst := _, op := _, type := _, pos := _, after := _, guard := _ }) (v := undef) rfl (by kernel_rfl) (by kernel_rfl) (by kernel_rfl) (fun _ _ _ h => h) (Or.inr ⟨by rfl, rfl⟩) (by assumption) ?_
                    (try simp only [Act.put, List.setIfInBounds_toArray, List.set_cons_zero, List.set_cons_succ])
                    refine wpAnyH_take (i := 15) (oi := { dst := _, op := _, type := _, pos := _, after := _, guard := _ }) (v := undef) rfl (by kernel_rfl) (by kernel_rfl) (by kernel_rfl) (fun _ _ _ h => h) (Or.inr ⟨by rfl, rfl⟩) (by assumption) ?_
                    (try simp only [Act.put, List.setIfInBounds_toArray, List.set_cons_zero, List.set_cons_succ])
                    refine wpAnyH_ready (rs := [14]) (by kernel_rfl) (by simp) ?_
                    refine AllReadyH.cons (o := { dst := _, op := _, type := _, pos := _, after := _, guard := _ }) rfl (fun K hK => ?_) ?_
                    rotate_left
                    · exact AllReadyH.nil
                    show K _ _
                    refine hK.out _ _ (by assumption) (fun hHeld => ?_)
                    clear hK K
                    (try simp only [Act.put, List.setIfInBounds_toArray, List.set_cons_zero, List.set_cons_succ])
                    refine wpAnyH_take (i := 16) (oi := { dst := _, op := _, type := _, pos := _, after := _, guard := _ }) (v := undef) rfl (by kernel_rfl) (by kernel_rfl) (by kernel_rfl) (fun _ _ _ h => h) (Or.inr ⟨by rfl, rfl⟩) (by assumption) ?_
                    (try simp only [Act.put, List.setIfInBounds_toArray, List.set_cons_zero, List.set_cons_succ])
                    refine wpAnyH_take (i := 17) (oi := { dst := _, op := _, type := _, pos := _, after := _, guard := _ }) (v := ?_) rfl (by kernel_rfl) (by kernel_rfl) (by kernel_rfl) (fun _ _ _ h => h) (Or.inl ⟨by rfl, ?_⟩) (by assumption) ?_
                    rotate_left
                    · (intro wq hSw; (try dsimp only at hSw); go_simp <;> with_reducible rfl)
                    (try simp only [Act.put, List.setIfInBounds_toArray, List.set_cons_zero, List.set_cons_succ])
                    refine wpAnyH_done (by kernel_rfl) ?_ _
                    go_wp2
                    go_roundg (ko - 1)
                    case measure => have := HJ.out; have := HI.out; omega
                    case rel => exact ⟨i + 1, (by first | exact congrArg _ HE5.out | rfl), ⟨by have := HJ.out; have := HI.out; omega⟩, HX6, HP6, HB6⟩
                  | true =>
                    by_cases hc : Circ E n
                    · have KC2 := Aside0.mk (fun W (hb : Below w.heap.size w W) => (KR2.out W hb).mono (fun e w' ⟨b, he, hi, hb⟩ => (⟨by rw [he, hi.2 hc], hb⟩ : e = Ending.returned (.bool true) ∧ Below W.heap.size W w')))
                      refine wp_region_held_drew (S := (fun w' => w'.cell? ⟨w2.heap.size, 0, none⟩ = some (.int .i64 (n : Int)) ∧ w'.cell? ⟨w2.heap.size, 1, none⟩ = some (.slice A E.length c))) (by kernel_rfl) ⟨z0, z1⟩ (fun hHeld => ?_)
                      simp only [List.size_toArray, List.length_cons, List.length_nil, Nat.reduceAdd]
                      refine wpAnyH_take (i := 0) (oi := { dst := _, op := _, type := _, pos := _, after := _, guard := _ }) (v := ?_) rfl (by kernel_rfl) (by kernel_rfl) (by kernel_rfl) (fun _ _ _ h => h) (Or.inl ⟨by rfl, ?_⟩) (by assumption) ?_
                      rotate_left
                      · (intro wq hSw; (try dsimp only at hSw); go_simp <;> with_reducible rfl)
                      (try simp only [Act.put, List.setIfInBounds_toArray, List.set_cons_zero, List.set_cons_succ])
                      refine wpAnyH_take (i := 1) (oi := { dst := _, op := _, type := _, pos := _, after := _, guard := _ }) (v := ?_) rfl (by kernel_rfl) (by kernel_rfl) (by kernel_rfl) (fun _ _ _ h => h) (Or.inl ⟨by rfl, ?_⟩) (by assumption) ?_
                      rotate_left
                      · (intro wq hSw; (try dsimp only at hSw); go_simp <;> with_reducible rfl)
                      (try simp only [Act.put, List.setIfInBounds_toArray, List.set_cons_zero, List.set_cons_succ])
                      refine wpAnyH_ready (rs := [2]) (by kernel_rfl) (by simp) ?_
                      refine AllReadyH.cons (o := { dst := _, op := _, type := _, pos := _, after := _, guard := _ }) rfl (fun K hK => ?_) ?_
                      rotate_left
                      · exact AllReadyH.nil
                      go_simp
                      go_at_call 28
                      refine K1.out.mono ?_
                      rintro e w6 ⟨rfl, hb⟩
                      have HB6 := Aside0.mk (below_step HBD.out hb)
                      have HX6 := Aside0.mk (blk_below HXD.out hb)
                      have HP6 := Aside0.mk (blk_below HPD.out hb)
                      clear hb
                      refine hK.out _ _ ⟨(blk_cell HP6.out) 0, (blk_cell HP6.out) 1⟩ (fun hHeld => ?_)
                      clear hK K
                      (try simp only [Act.put, List.setIfInBounds_toArray, List.set_cons_zero, List.set_cons_succ])
                      refine wpAnyH_take (i := 3) (oi := { dst := _, op := _, type := _, pos := _, after := _, guard := _ }) (v := ?_) rfl (by kernel_rfl) (by kernel_rfl) (by kernel_rfl) (fun _ _ _ h => h) (Or.inl ⟨by rfl, ?_⟩) (by assumption) ?_
                      rotate_left
                      · (intro wq hSw; (try dsimp only at hSw); go_simp <;> with_reducible rfl)
                      (try simp only [Act.put, List.setIfInBounds_toArray, List.set_cons_zero, List.set_cons_succ])
                      refine wpAnyH_take (i := 4) (oi := { dst := _, op := _, type := _, pos := _, after := _, guard := _ }) (v := ?_) rfl (by kernel_rfl) (by kernel_rfl) (by kernel_rfl) (fun _ _ _ h => h) (Or.inl ⟨by rfl, ?_⟩) (by assumption) ?_
                      rotate_left
                      · (intro wq hSw; (try dsimp only at hSw); go_simp <;> with_reducible rfl)
                      (try simp only [Act.put, List.setIfInBounds_toArray, List.set_cons_zero, List.set_cons_succ])
                      refine wpAnyH_ready (rs := [5]) (by kernel_rfl) (by simp) ?_
                      refine AllReadyH.cons (o := { dst := _, op := _, type := _, pos := _, after := _, guard := _ }) rfl (fun K hK => ?_) ?_
                      rotate_left
                      · exact AllReadyH.nil
                      go_simp
                      go_at_call 35
                      refine (KC2.out w6 HB6.out).mono ?_
                      rintro e w7 ⟨rfl, hb⟩
                      have HB7 := Aside0.mk (below_step HB6.out hb)
                      have HX7 := Aside0.mk (blk_below HX6.out hb)
                      have HP7 := Aside0.mk (blk_below HP6.out hb)
                      clear hb
                      refine hK.out _ _ ⟨(blk_cell HP7.out) 0, (blk_cell HP7.out) 1⟩ (fun hHeld => ?_)
                      clear hK K
                      (try simp only [Act.put, List.setIfInBounds_toArray, List.set_cons_zero, List.set_cons_succ])
                      refine wpAnyH_take (i := 6) (oi := { dst := _, op := _, type := _, pos := _, after := _, guard := _ }) (v := ?_) rfl (by kernel_rfl) (by kernel_rfl) (by kernel_rfl) (fun _ _ _ h => h) (Or.inl ⟨by rfl, ?_⟩) (by assumption) ?_
                      rotate_left
                      · (intro wq hSw; (try dsimp only at hSw); go_simp <;> with_reducible rfl)
                      (try simp only [Act.put, List.setIfInBounds_toArray, List.set_cons_zero, List.set_cons_succ])
                      refine wpAnyH_take (i := 7) (oi := { dst := _, op := _, type := _, pos := _, after := _, guard := _ }) (v := ?_) rfl (by kernel_rfl) (by kernel_rfl) (by kernel_rfl) (fun _ _ _ h => h) (Or.inl ⟨by rfl, ?_⟩) (by assumption) ?_
                      rotate_left
                      · (intro wq hSw; (try dsimp only at hSw); go_simp <;> with_reducible rfl)
                      (try simp only [Act.put, List.setIfInBounds_toArray, List.set_cons_zero, List.set_cons_succ])
                      refine wpAnyH_take (i := 8) (oi := { dst := _, op := _, type := _, pos := _, after := _, guard := _ }) (v := ?_) rfl (by kernel_rfl) (by kernel_rfl) (by kernel_rfl) (fun _ _ _ h => h) (Or.inl ⟨by rfl, ?_⟩) (by assumption) ?_
                      rotate_left
                      · (intro wq hSw; (try dsimp only at hSw); go_simp <;> with_reducible rfl)
                      (try simp only [Act.put, List.setIfInBounds_toArray, List.set_cons_zero, List.set_cons_succ])
                      refine wpAnyH_take (i := 9) (oi := { dst := _, op := _, type := _, pos := _, after := _, guard := _ }) (v := undef) rfl (by kernel_rfl) (by kernel_rfl) (by kernel_rfl) (fun _ _ _ h => h) (Or.inr ⟨by rfl, rfl⟩) (by assumption) ?_
                      (try simp only [Act.put, List.setIfInBounds_toArray, List.set_cons_zero, List.set_cons_succ])
                      refine wpAnyH_take (i := 10) (oi := { dst := _, op := _, type := _, pos := _, after := _, guard := _ }) (v := undef) rfl (by kernel_rfl) (by kernel_rfl) (by kernel_rfl) (fun _ _ _ h => h) (Or.inr ⟨by rfl, rfl⟩) (by assumption) ?_
                      (try simp only [Act.put, List.setIfInBounds_toArray, List.set_cons_zero, List.set_cons_succ])
                      refine wpAnyH_take (i := 11) (oi := { dst := _, op := _, type := _, pos := _, after := _, guard := _ }) (v := undef) rfl (by kernel_rfl) (by kernel_rfl) (by kernel_rfl) (fun _ _ _ h => h) (Or.inr ⟨by rfl, rfl⟩) (by assumption) ?_
                      (try simp only [Act.put, List.setIfInBounds_toArray, List.set_cons_zero, List.set_cons_succ])
                      refine wpAnyH_take (i := 12) (oi := { dst := _, op := _, type := _, pos := _, after := _, guard := _ }) (v := undef) rfl (by kernel_rfl) (by kernel_rfl) (by kernel_rfl) (fun _ _ _ h => h) (Or.inr ⟨by rfl, rfl⟩) (by assumption) ?_
                      (try simp only [Act.put, List.setIfInBounds_toArray, List.set_cons_zero, List.set_cons_succ])
                      refine wpAnyH_take (i := 13) (oi := { dst := _, op := _, type := _, pos := _, after := _, guard := _ }) (v := undef) rfl (by kernel_rfl) (by kernel_rfl) (by kernel_rfl) (fun _ _ _ h => h) (Or.inr ⟨by rfl, rfl⟩) (by assumption) ?_
                      (try simp only [Act.put, List.setIfInBounds_toArray, List.set_cons_zero, List.set_cons_succ])
                      refine wpAnyH_take (i := 15) (oi := { dst := _, op := _, type := _, pos := _, after := _, guard := _ }) (v := undef) rfl (by kernel_rfl) (by kernel_rfl) (by kernel_rfl) (fun _ _ _ h => h) (Or.inr ⟨by rfl, rfl⟩) (by assumption) ?_
                      (try simp only [Act.put, List.setIfInBounds_toArray, List.set_cons_zero, List.set_cons_succ])
                      refine wpAnyH_ready (rs := [14]) (by kernel_rfl) (by simp) ?_
                      refine AllReadyH.cons (o := { dst := _, op := _, type := _, pos := _, after := _, guard := _ }) rfl (fun K hK => ?_) ?_
                      rotate_left
                      · exact AllReadyH.nil
                      show K _ _
                      refine hK.out _ _ (by assumption) (fun hHeld => ?_)
                      clear hK K
                      (try simp only [Act.put, List.setIfInBounds_toArray, List.set_cons_zero, List.set_cons_succ])
                      refine wpAnyH_take (i := 16) (oi := { dst := _, op := _, type := _, pos := _, after := _, guard := _ }) (v := undef) rfl (by kernel_rfl) (by kernel_rfl) (by kernel_rfl) (fun _ _ _ h => h) (Or.inr ⟨by rfl, rfl⟩) (by assumption) ?_
                      (try simp only [Act.put, List.setIfInBounds_toArray, List.set_cons_zero, List.set_cons_succ])
                      refine wpAnyH_take (i := 17) (oi := { dst := _, op := _, type := _, pos := _, after := _, guard := _ }) (v := ?_) rfl (by kernel_rfl) (by kernel_rfl) (by kernel_rfl) (fun _ _ _ h => h) (Or.inl ⟨by rfl, ?_⟩) (by assumption) ?_
                      rotate_left
                      · (intro wq hSw; (try dsimp only at hSw); go_simp <;> with_reducible rfl)
                      (try simp only [Act.put, List.setIfInBounds_toArray, List.set_cons_zero, List.set_cons_succ])
                      refine wpAnyH_done (by kernel_rfl) ?_ _
                      go_wp2
                      go_roundg (ko - 1)
                      case measure => have := HJ.out; have := HI.out; omega
                      case rel => exact ⟨i + 1, (by first | exact congrArg _ HE5.out | rfl), ⟨by have := HJ.out; have := HI.out; omega⟩, HX7, HP7, HB7⟩
                    · have KC2 := Aside0.mk (fun W (hb : Below w.heap.size w W) => (KR2.out W hb).mono (fun e w' ⟨b, he, hi, hb⟩ => (⟨by rw [he, show b = false by cases b with | false => rfl | true => exact absurd (hi.1 rfl) hc], hb⟩ : e = Ending.returned (.bool false) ∧ Below W.heap.size W w')))
                      have hbp := border_plain HS.out HE2.out hc HBS.out HBI.out
                      rw [HBB.out] at hbp
                      rw [hbp] at KC3
                      obtain ⟨wo, hwo⟩ : ∃ z, andN s (2 ^ i) = z := ⟨_, rfl⟩
                      rw [hwo] at KC3 ta
                      clear hbp hwo
                      refine wp_region_held_drew (S := (fun w' => w'.cell? ⟨w2.heap.size, 0, none⟩ = some (.int .i64 (n : Int)) ∧ w'.cell? ⟨w2.heap.size, 1, none⟩ = some (.slice A E.length c))) (by kernel_rfl) ⟨z0, z1⟩ (fun hHeld => ?_)
                      simp only [List.size_toArray, List.length_cons, List.length_nil, Nat.reduceAdd]
                      refine wpAnyH_take (i := 0) (oi := { dst := _, op := _, type := _, pos := _, after := _, guard := _ }) (v := ?_) rfl (by kernel_rfl) (by kernel_rfl) (by kernel_rfl) (fun _ _ _ h => h) (Or.inl ⟨by rfl, ?_⟩) (by assumption) ?_
                      rotate_left
                      · (intro wq hSw; (try dsimp only at hSw); go_simp <;> with_reducible rfl)
                      (try simp only [Act.put, List.setIfInBounds_toArray, List.set_cons_zero, List.set_cons_succ])
                      refine wpAnyH_take (i := 1) (oi := { dst := _, op := _, type := _, pos := _, after := _, guard := _ }) (v := ?_) rfl (by kernel_rfl) (by kernel_rfl) (by kernel_rfl) (fun _ _ _ h => h) (Or.inl ⟨by rfl, ?_⟩) (by assumption) ?_
                      rotate_left
                      · (intro wq hSw; (try dsimp only at hSw); go_simp <;> with_reducible rfl)
                      (try simp only [Act.put, List.setIfInBounds_toArray, List.set_cons_zero, List.set_cons_succ])
                      refine wpAnyH_ready (rs := [2]) (by kernel_rfl) (by simp) ?_
                      refine AllReadyH.cons (o := { dst := _, op := _, type := _, pos := _, after := _, guard := _ }) rfl (fun K hK => ?_) ?_
                      rotate_left
                      · exact AllReadyH.nil
                      go_simp
                      go_at_call 28
                      refine K1.out.mono ?_
                      rintro e w6 ⟨rfl, hb⟩
                      have HB6 := Aside0.mk (below_step HBD.out hb)
                      have HX6 := Aside0.mk (blk_below HXD.out hb)
                      have HP6 := Aside0.mk (blk_below HPD.out hb)
                      clear hb
                      refine hK.out _ _ ⟨(blk_cell HP6.out) 0, (blk_cell HP6.out) 1⟩ (fun hHeld => ?_)
                      clear hK K
                      (try simp only [Act.put, List.setIfInBounds_toArray, List.set_cons_zero, List.set_cons_succ])
                      refine wpAnyH_take (i := 3) (oi := { dst := _, op := _, type := _, pos := _, after := _, guard := _ }) (v := ?_) rfl (by kernel_rfl) (by kernel_rfl) (by kernel_rfl) (fun _ _ _ h => h) (Or.inl ⟨by rfl, ?_⟩) (by assumption) ?_
                      rotate_left
                      · (intro wq hSw; (try dsimp only at hSw); go_simp <;> with_reducible rfl)
                      (try simp only [Act.put, List.setIfInBounds_toArray, List.set_cons_zero, List.set_cons_succ])
                      refine wpAnyH_take (i := 4) (oi := { dst := _, op := _, type := _, pos := _, after := _, guard := _ }) (v := ?_) rfl (by kernel_rfl) (by kernel_rfl) (by kernel_rfl) (fun _ _ _ h => h) (Or.inl ⟨by rfl, ?_⟩) (by assumption) ?_
                      rotate_left
                      · (intro wq hSw; (try dsimp only at hSw); go_simp <;> with_reducible rfl)
                      (try simp only [Act.put, List.setIfInBounds_toArray, List.set_cons_zero, List.set_cons_succ])
                      refine wpAnyH_ready (rs := [5]) (by kernel_rfl) (by simp) ?_
                      refine AllReadyH.cons (o := { dst := _, op := _, type := _, pos := _, after := _, guard := _ }) rfl (fun K hK => ?_) ?_
                      rotate_left
                      · exact AllReadyH.nil
                      go_simp
                      go_at_call 35
                      refine (KC2.out w6 HB6.out).mono ?_
                      rintro e w7 ⟨rfl, hb⟩
                      have HB7 := Aside0.mk (below_step HB6.out hb)
                      have HX7 := Aside0.mk (blk_below HX6.out hb)
                      have HP7 := Aside0.mk (blk_below HP6.out hb)
                      clear hb
                      refine hK.out _ _ ⟨(blk_cell HP7.out) 0, (blk_cell HP7.out) 1⟩ (fun hHeld => ?_)
                      clear hK K
                      (try simp only [Act.put, List.setIfInBounds_toArray, List.set_cons_zero, List.set_cons_succ])
                      refine wpAnyH_take (i := 6) (oi := { dst := _, op := _, type := _, pos := _, after := _, guard := _ }) (v := ?_) rfl (by kernel_rfl) (by kernel_rfl) (by kernel_rfl) (fun _ _ _ h => h) (Or.inl ⟨by rfl, ?_⟩) (by assumption) ?_
                      rotate_left
                      · (intro wq hSw; (try dsimp only at hSw); go_simp <;> with_reducible rfl)
                      (try simp only [Act.put, List.setIfInBounds_toArray, List.set_cons_zero, List.set_cons_succ])
                      refine wpAnyH_take (i := 7) (oi := { dst := _, op := _, type := _, pos := _, after := _, guard := _ }) (v := ?_) rfl (by kernel_rfl) (by kernel_rfl) (by kernel_rfl) (fun _ _ _ h => h) (Or.inl ⟨by rfl, ?_⟩) (by assumption) ?_
                      rotate_left
                      · (intro wq hSw; (try dsimp only at hSw); go_simp <;> with_reducible rfl)
                      (try simp only [Act.put, List.setIfInBounds_toArray, List.set_cons_zero, List.set_cons_succ])
                      refine wpAnyH_take (i := 8) (oi := { dst := _, op := _, type := _, pos := _, after := _, guard := _ }) (v := ?_) rfl (by kernel_rfl) (by kernel_rfl) (by kernel_rfl) (fun _ _ _ h => h) (Or.inl ⟨by rfl, ?_⟩) (by assumption) ?_
                      rotate_left
                      · (intro wq hSw; (try dsimp only at hSw); go_simp <;> with_reducible rfl)
                      (try simp only [Act.put, List.setIfInBounds_toArray, List.set_cons_zero, List.set_cons_succ])
                      refine wpAnyH_take (i := 9) (oi := { dst := _, op := _, type := _, pos := _, after := _, guard := _ }) (v := ?_) rfl (by kernel_rfl) (by kernel_rfl) (by kernel_rfl) (fun _ _ _ h => h) (Or.inl ⟨by rfl, ?_⟩) (by assumption) ?_
                      rotate_left
                      · (intro wq hSw; (try dsimp only at hSw); go_simp <;> with_reducible rfl)
                      (try simp only [Act.put, List.setIfInBounds_toArray, List.set_cons_zero, List.set_cons_succ])
                      refine wpAnyH_take (i := 10) (oi := { dst := _, op := _, type := _, pos := _, after := _, guard := _ }) (v := ?_) rfl (by kernel_rfl) (by kernel_rfl) (by kernel_rfl) (fun _ _ _ h => h) (Or.inl ⟨by rfl, ?_⟩) (by assumption) ?_
                      rotate_left
                      · (intro wq hSw; (try dsimp only at hSw); go_simp <;> with_reducible rfl)
                      (try simp only [Act.put, List.setIfInBounds_toArray, List.set_cons_zero, List.set_cons_succ])
                      refine wpAnyH_take (i := 11) (oi := { dst := _, op := _, type := _, pos := _, after := _, guard := _ }) (v := ?_) rfl (by kernel_rfl) (by kernel_rfl) (by kernel_rfl) (fun _ _ _ h => h) (Or.inl ⟨by rfl, ?_⟩) (by assumption) ?_
                      rotate_left
                      · (intro wq hSw; (try dsimp only at hSw); go_simp <;> with_reducible rfl)
                      (try simp only [Act.put, List.setIfInBounds_toArray, List.set_cons_zero, List.set_cons_succ])
                      refine wpAnyH_take (i := 12) (oi := { dst := _, op := _, type := _, pos := _, after := _, guard := _ }) (v := ?_) rfl (by kernel_rfl) (by kernel_rfl) (by kernel_rfl) (fun _ _ _ h => h) (Or.inl ⟨by rfl, ?_⟩) (by assumption) ?_
                      rotate_left
                      · (intro wq hSw; (try dsimp only at hSw); go_simp <;> with_reducible rfl)
                      (try simp only [Act.put, List.setIfInBounds_toArray, List.set_cons_zero, List.set_cons_succ])
                      refine wpAnyH_take (i := 13) (oi := { dst := _, op := _, type := _, pos := _, after := _, guard := _ }) (v := ?_) rfl (by kernel_rfl) (by kernel_rfl) (by kernel_rfl) (fun _ _ _ h => h) (Or.inl ⟨by rfl, ?_⟩) (by assumption) ?_
                      rotate_left
                      · (intro wq hSw; (try dsimp only at hSw); go_simp <;> with_reducible rfl)
                      (try simp only [Act.put, List.setIfInBounds_toArray, List.set_cons_zero, List.set_cons_succ])
                      refine wpAnyH_take (i := 15) (oi := { dst := _, op := _, type := _, pos := _, after := _, guard := _ }) (v := ?_) rfl (by kernel_rfl) (by kernel_rfl) (by kernel_rfl) (fun _ _ _ h => h) (Or.inl ⟨by rfl, ?_⟩) (by assumption) ?_
                      rotate_left
                      · (intro wq hSw; (try dsimp only at hSw); go_simp <;> with_reducible rfl)
                      (try simp only [Act.put, List.setIfInBounds_toArray, List.set_cons_zero, List.set_cons_succ])
                      refine wpAnyH_ready (rs := [14]) (by kernel_rfl) (by simp) ?_
                      refine AllReadyH.cons (o := { dst := _, op := _, type := _, pos := _, after := _, guard := _ }) rfl (fun K hK => ?_) ?_
                      rotate_left
                      · exact AllReadyH.nil
                      go_simp
                      go_at_call 28
                      refine (KC3.out w7 HB7.out).mono ?_
                      rintro e w8 ⟨rfl, hb⟩
                      have HB8 := Aside0.mk (below_step HB7.out hb)
                      have HX8 := Aside0.mk (blk_below HX7.out hb)
                      have HP8 := Aside0.mk (blk_below HP7.out hb)
                      clear hb
                      refine hK.out _ _ ⟨(blk_cell HP8.out) 0, (blk_cell HP8.out) 1⟩ (fun hHeld => ?_)
                      clear hK K
                      (try simp only [Act.put, List.setIfInBounds_toArray, List.set_cons_zero, List.set_cons_succ])
                      cases B with
                      | true =>
                        refine wpAnyH_take (i := 16) (oi := { dst := _, op := _, type := _, pos := _, after := _, guard := _ }) (v := ?_) rfl (by kernel_rfl) (by kernel_rfl) (by kernel_rfl) (fun _ _ _ h => h) (Or.inl ⟨by rfl, ?_⟩) (by assumption) ?_
                        rotate_left
                        · (intro wq hSw; (try dsimp only at hSw); go_simp <;> with_reducible rfl)
                        (try simp only [Act.put, List.setIfInBounds_toArray, List.set_cons_zero, List.set_cons_succ])
                        refine wpAnyH_take (i := 17) (oi := { dst := _, op := _, type := _, pos := _, after := _, guard := _ }) (v := ?_) rfl (by kernel_rfl) (by kernel_rfl) (by kernel_rfl) (fun _ _ _ h => h) (Or.inl ⟨by rfl, ?_⟩) (by assumption) ?_
                        rotate_left
                        · (intro wq hSw; (try dsimp only at hSw); go_simp <;> with_reducible rfl)
                        (try simp only [Act.put, List.setIfInBounds_toArray, List.set_cons_zero, List.set_cons_succ])
                        refine wpAnyH_done (by kernel_rfl) ?_ _
                        go_wp2
                        go_roundg (ko - 1)
                        case measure => have := HJ.out; have := HI.out; omega
                        case rel => exact ⟨i + 1, (by first | exact congrArg _ HE5.out | rfl), ⟨by have := HJ.out; have := HI.out; omega⟩, HX8, HP8, HB8⟩
                      | false =>
                        refine wpAnyH_take (i := 16) (oi := { dst := _, op := _, type := _, pos := _, after := _, guard := _ }) (v := ?_) rfl (by kernel_rfl) (by kernel_rfl) (by kernel_rfl) (fun _ _ _ h => h) (Or.inl ⟨by rfl, ?_⟩) (by assumption) ?_
                        rotate_left
                        · (intro wq hSw; (try dsimp only at hSw); go_simp <;> with_reducible rfl)
                        (try simp only [Act.put, List.setIfInBounds_toArray, List.set_cons_zero, List.set_cons_succ])
                        refine wpAnyH_take (i := 17) (oi := { dst := _, op := _, type := _, pos := _, after := _, guard := _ }) (v := ?_) rfl (by kernel_rfl) (by kernel_rfl) (by kernel_rfl) (fun _ _ _ h => h) (Or.inl ⟨by rfl, ?_⟩) (by assumption) ?_
                        rotate_left
                        · (intro wq hSw; (try dsimp only at hSw); go_simp <;> with_reducible rfl)
                        (try simp only [Act.put, List.setIfInBounds_toArray, List.set_cons_zero, List.set_cons_succ])
                        refine wpAnyH_done (by kernel_rfl) ?_ _
                        go_wp2
                        go_roundg (ko - 1)
                        case measure => have := HJ.out; have := HI.out; omega
                        case rel => exact ⟨i + 1, (by first | exact congrArg _ HE5.out | rfl), ⟨by have := HJ.out; have := HI.out; omega⟩, HX8, HP8, HB8⟩
          · have e1 : decide (i < n) = false := decide_eq_false c1
            have e0 : ¬ (i : Int) < (n : Int) := by omega
            go_wp2
            go_ret
            exact ⟨by simp, HB4.out⟩
      · rw [if_neg hsn] at hi
        rw [decide_eq_false hsn] at hz
        have e2 : d = 0 := HD2.out (by rw [hi]; decide)
        subst e2
        rw [hi]
        clear hi hsn hr h0n
        go_wp2
        go_ret
        exact ⟨by simp, HB4.out⟩
  · rw [Bool.not_eq_true] at hok
    rw [hok]
    clear hok
    go_wp2
    go_ret
    exact ⟨by simp, HB2.out⟩
theorem LatticeBorder_card (N : Int) (E : List Stp) (A : Option Addr) (c : Nat) (a : Int) (w : World) (hT : TabW w) (ha : (Lit.int .u64 a).wf = true) (h : Kd.C kP w A E.length E) (hN : (Lit.int .i64 N).wf = true) :
    Calls Tryd.prog 13 #[.agg #[.int .i64 N, .slice A E.length c], .int .u64 a] w fun e w' => e = .returned (.bool true) ∧ Below w.heap.size w w' := by
  obtain ⟨s, rfl, hs⟩ := wf_u64 ha
  exact LatticeBorder_main N E A c s w hT hs h (wf_i64 hN)
end Go.Proofs.YtplhihakeodadaaDoor.Sg
