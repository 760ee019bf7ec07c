import Derived.Test.YthgokeogmikgbaaWalk
namespace Go.Proofs.Ythgokeogmikgbaa.P
open Go Go.RowKit Go.Proofs.Ythgokeogmikgbaa.Fl Go.Proofs.YthgokeogmikgbaaW.PrintWords Go.Proofs.YthgokeogmikgbaaW.PrintLast Go.Proofs.YthgokeogmikgbaaW.PrintMore
set_option linter.unusedVariables false
set_option linter.unusedSimpArgs false
theorem run_ceq {P : Program} (t : TypeId) {a b c d : Int} (ha : Sm a) (hb : Sm b) (hc : Sm c) (hd : Sm d) (w : World) : (binOp .eql t (cx a b) (cx c d)).run P w = .ok (.bool (decide (a = c ∧ b = d))) w := by
  have h1 := ord_eq ha hc
  have h2 := ord_eq hb hd
  unfold cx
  go_simp
theorem eqc {P : Program} (t : TypeId) {a b : Int} {x y : Nat} (hx : x = fl a) (hy : y = fl b) (ha : Sm a) (hb : Sm b) (w : World) : (binOp .eql t (cx a b) (.complex .f64 x y)).run P w = .ok (.bool true) w := by
  subst hx; subst hy
  have := run_ceq (P := P) t ha hb ha hb w
  rw [decide_eq_true ⟨rfl, rfl⟩] at this
  exact this
theorem eqg {P : Program} (t : TypeId) (o1 o2 : Operand) (a b x y c d : Nat) (w : World) : (eqGuard .eql t o1 o2 (.complex .f64 a b) (.complex .f64 x y)).run P w = .ok () w := by
  go_simp
theorem eqgc {P : Program} (t : TypeId) (o1 o2 : Operand) (a b : Int) (x y : Nat) (w : World) : (eqGuard .eql t o1 o2 (cx a b) (.complex .f64 x y)).run P w = .ok () w := eqg t o1 o2 _ _ _ _ 0 0 w
theorem sm (a : Int) (h : -400000000 ≤ a ∧ a ≤ 400000000) : Sm a := h
theorem lit3 : #[Value.complex .f64 0 4607182418800017408, Value.complex .f64 13830554455654793216 0, Value.complex .f64 0 4607182418800017408] = (([(0, 1), (-1, 0), (0, 1)] : List (Int × Int)).map enc).toArray := by
  rw [cx01, show Value.complex .f64 13830554455654793216 0 = cx (-1) 0 by rw [cx, fl_zero, show (13830554455654793216 : Nat) = fl (-1) by decide]]
  rfl
set_option maxHeartbeats 4000000 in
theorem anchor_calls (w : World) : Calls Try.prog 5 #[] w fun e w' => e = .returned (.bool true) ∧ Below w.heap.size w w' := by
  have q1 := eqc (P := Try.prog) 23 (a := 2) (b := 3) (x := 4611686018427387904) (y := 4613937818241073152) (by decide) (by decide) (sm _ (by decide)) (sm _ (by decide))
  have q2 := eqc (P := Try.prog) 23 (a := 1) (b := 4) (x := 4607182418800017408) (y := 4616189618054758400) (by decide) (by decide) (sm _ (by decide)) (sm _ (by decide))
  have q3 := eqc (P := Try.prog) 23 (a := 1) (b := 5) (x := 4607182418800017408) (y := 4617315517961601024) (by decide) (by decide) (sm _ (by decide)) (sm _ (by decide))
  have gq := @eqgc Try.prog 23
  go_enter Try.func5, Try.ntmps5
  go_wp2_with (fail)
  refine (At_calls 2 3 ⟨by decide, by decide, by decide, by decide⟩ _).mono ?_
  rintro e w1 ⟨rfl, rfl⟩
  go_wp2_with (fail)
  have HO := Aside0.mk (R_lits w1 w1.heap.size (Nat.le_refl _) [(0, 1), (-1, 0), (0, 1)] (by simp))
  rw [← lit3] at HO
  have HB := Aside0.mk (below_alloc (Below.refl w1.heap.size w1) (Obj.cells #[Value.complex .f64 0 4607182418800017408, Value.complex .f64 13830554455654793216 0, Value.complex .f64 0 4607182418800017408] 23))
  refine (Walk_calls (2, 3) [(0, 1), (-1, 0), (0, 1)] (some ⟨w1.heap.size, 0, none⟩) 3 _ (by unfold PlaceP; decide) (by unfold IsStep; decide) (by unfold PlaceP; decide) (Kd.R_reads' HO.out).2.2 (by decide) (by decide)).mono ?_
  rintro e w2 ⟨v, rfl, hR, hb⟩
  replace HB := Aside0.mk (below_step HB.out hb)
  clear hb HO
  replace hR : Kcx.R 23 w2 _ (fun _ => True) v [(2, 3), (2, 4), (1, 4), (1, 5)] := hR
  obtain ⟨A, c, rfl, hc, hC⟩ := Kd.R_reads hR
  have hx2 := at_cx hC 2 (by decide) (by decide)
  have hx3 := at_cx hC 3 (by decide) (by decide)
  obtain ⟨ad, rfl, hx2⟩ := hx2
  obtain ⟨_, e, hx3⟩ := hx3
  cases e
  clear hR hC
  replace hx2 : w2.cell? (ad.add 2) = some (cx 1 4) := hx2
  replace hx3 : w2.cell? (ad.add 3) = some (cx 1 5) := hx3
  simp [Addr.add] at hx2 hx3
  go_wp2
  go_ret
  exact ⟨rfl, HB.out⟩
set_option maxHeartbeats 4000000 in
theorem Steps_calls (kind a b : Int) (hk : -9223372036854775808 ≤ kind ∧ kind < 9223372036854775808) (ha : -9223372036854775808 ≤ a ∧ a < 9223372036854775808) (hb : -9223372036854775808 ≤ b ∧ b < 9223372036854775808) (w : World) :
    Calls Try.prog 3 #[.int .i64 kind, .int .i64 a, .int .i64 b] w fun e w' => e = .returned (.bool true) ∧ Below w.heap.size w w' := by
  by_cases h1 : kind = 1 ∨ kind = 3
  · have q1 : ∀ w, (binOp .eql 23 (.complex .f64 0 4607182418800017408) (.complex .f64 0 4607182418800017408)).run Try.prog w = .ok (.bool true) w := by
      have := eqc (P := Try.prog) 23 (a := 0) (b := 1) (x := 0) (y := 4607182418800017408) (by decide) (by decide) (sm _ (by decide)) (sm _ (by decide))
      rw [← cx01] at this
      exact this
    have KS := Aside0.mk (Step_one kind a b h1)
    rcases h1 with rfl | rfl
    · go_enter Try.func3, Try.ntmps3
      go_wp2_with (fail)
      refine (anchor_calls _).mono ?_
      rintro e w1 ⟨rfl, HB⟩
      replace HB := Aside0.mk HB
      go_wp2_with (fail)
      refine (KS.out _).mono ?_
      rintro e w2 ⟨rfl, rfl⟩
      go_wp2
      go_ret
      exact ⟨rfl, HB.out⟩
    · go_enter Try.func3, Try.ntmps3
      go_wp2_with (fail)
      refine (anchor_calls _).mono ?_
      rintro e w1 ⟨rfl, HB⟩
      replace HB := Aside0.mk HB
      go_wp2_with (fail)
      refine (KS.out _).mono ?_
      rintro e w2 ⟨rfl, rfl⟩
      go_wp2
      go_ret
      exact ⟨rfl, HB.out⟩
  · have q0 : ∀ w, (binOp .eql 23 (.complex .f64 0 0) (.complex .f64 0 0)).run Try.prog w = .ok (.bool true) w := by
      have := eqc (P := Try.prog) 23 (a := 0) (b := 0) (x := 0) (y := 0) (by decide) (by decide) (sm _ (by decide)) (sm _ (by decide))
      rw [← cx00] at this
      exact this
    have e1 : (kind == 1) = false := beq_eq_false_iff_ne.2 (fun h => h1 (.inl h))
    have e3 : (kind == 3) = false := beq_eq_false_iff_ne.2 (fun h => h1 (.inr h))
    by_cases h2 : kind = 2
    · subst h2
      by_cases hp : Place a 0 ∧ Place b 0
      · have KS := Aside0.mk (Step_two a b hp.1 hp.2)
        obtain ⟨⟨p1, p2, _, _⟩, ⟨p3, p4, _, _⟩⟩ := hp
        have d1 : decide (a < 0) = false := decide_eq_false (by omega)
        have d2 : decide (b < 0) = false := decide_eq_false (by omega)
        have d3 : decide (1048576 < a) = false := decide_eq_false (by omega)
        have d4 : decide (1048576 < b) = false := decide_eq_false (by omega)
        have ew : wrap64 (b - a) = b - a := by unfold wrap64; omega
        have q2 := eqc (P := Try.prog) 23 (a := b - a) (b := 0) (x := floatOfInt .f64 (b - a)) (y := 0) rfl fl_zero.symm ⟨by omega, by omega⟩ (sm _ (by decide))
        clear p1 p2 p3 p4 ha hb hk h1
        have gq := @eqgc Try.prog 23
        go_enter Try.func3, Try.ntmps3
        go_wp2_with (fail)
        refine (anchor_calls _).mono ?_
        rintro e w1 ⟨rfl, HB⟩
        replace HB := Aside0.mk HB
        go_wp2_with (fail)
        refine (KS.out _).mono ?_
        rintro e w2 ⟨rfl, rfl⟩
        go_wp2
        go_ret
        exact ⟨rfl, HB.out⟩
      · have KS := Aside0.mk (Step_two_bad a b hp)
        have hd : (decide (a < 0) || decide (b < 0) || decide (1048576 < a) || decide (1048576 < b)) = true := by
          unfold Place at hp
          simp only [Bool.or_eq_true, decide_eq_true_eq]
          omega
        clear hp h1 hk ha hb
        have lastly : ∀ d1 d2 d3 d4 : Bool, decide (a < 0) = d1 → decide (b < 0) = d2 → decide (1048576 < a) = d3 → decide (1048576 < b) = d4 → (d1 || d2 || d3 || d4) = true →
            Calls Try.prog 3 #[.int .i64 2, .int .i64 a, .int .i64 b] w fun e w' => e = .returned (.bool true) ∧ Below w.heap.size w w' := by
          intro d1 d2 d3 d4 g1 g2 g3 g4 hor
          cases d1 <;> cases d2 <;> cases d3 <;> cases d4 <;> first
            | (exact absurd hor (by decide))
            | (go_enter Try.func3, Try.ntmps3
               go_wp2_with (fail)
               refine (anchor_calls _).mono ?_
               rintro e w1 ⟨rfl, HB⟩
               replace HB := Aside0.mk HB
               go_wp2_with (fail)
               refine (KS.out _).mono ?_
               rintro e w2 ⟨rfl, rfl⟩
               go_wp2
               go_ret
               exact ⟨rfl, HB.out⟩)
        exact lastly _ _ _ _ rfl rfl rfl rfl hd
    · have e2 : (kind == 2) = false := beq_eq_false_iff_ne.2 h2
      have e2' : (kind != 2) = true := bne_iff_ne.2 h2
      have KS := Aside0.mk (Step_none kind a b (fun h => h1 (.inl h)) h2 (fun h => h1 (.inr h)))
      clear h1 h2 hk
      go_enter Try.func3, Try.ntmps3
      go_wp2_with (fail)
      refine (anchor_calls _).mono ?_
      rintro e w1 ⟨rfl, HB⟩
      replace HB := Aside0.mk HB
      go_wp2_with (fail)
      refine (KS.out _).mono ?_
      rintro e w2 ⟨rfl, rfl⟩
      go_wp2
      go_ret
      exact ⟨rfl, HB.out⟩
end Go.Proofs.Ythgokeogmikgbaa.P
