import Derived.Test.YthgokeogmikgbaaThere
namespace Go.Proofs.Ythgokeogmikgbaa.P
open Go Go.RowKit Go.Proofs.Ythgokeogmikgbaa.Fl Go.Proofs.YthgokeogmikgbaaW.PrintWords Go.Proofs.YthgokeogmikgbaaW.PrintLast Go.Proofs.YthgokeogmikgbaaW.PrintMore
set_option linter.unusedVariables false
set_option linter.unusedSimpArgs false
attribute [local go_sem] max2_int min2_int max_two min_two max_three
def way (a b : Int) (n : Nat) : List (Int × Int) := (b - a, 0) :: List.replicate n (0, 1)
theorem adds_rep : ∀ (n : Nat) (v f : Int), adds (v, f) (List.replicate n (0, 1)) = (List.range n).map fun j : Nat => (v, f + (j : Int) + 1)
  | 0, _, _ => rfl
  | n + 1, v, f => by
    rw [List.replicate_succ, adds, List.range_succ_eq_map, List.map_cons, List.map_map]
    simp only [Int.add_zero]
    rw [adds_rep n v (f + 1)]
    congr 1
    · simp
    · apply List.map_congr_left
      intro j _
      simp
      omega
theorem adds_way (a b f : Int) (n : Nat) : adds (a, f) (way a b n) = (b, f) :: (List.range n).map fun j : Nat => (b, f + (j : Int) + 1) := by
  unfold way
  rw [adds]
  simp only [Int.add_zero]
  rw [show a + (b - a) = b by omega, adds_rep]
theorem way_last (a b f : Int) (n : Nat) : rdOf (0, 0) ((a, f) :: adds (a, f) (way a b n)) ((n + 1 : Nat) : Int) = (b, f + (n : Int)) := by
  rw [adds_way]
  unfold rdOf
  rw [Int.toNat_natCast, List.getD_cons_succ]
  cases n with
  | zero => simp
  | succ n =>
    rw [List.getD_cons_succ, List.getD_eq_getElem?_getD]
    simp
    omega
theorem way_len (a b : Int) (n : Nat) : (way a b n).length = n + 1 := by simp [way]
theorem way_snoc (a b : Int) (n : Nat) : way a b n ++ [(0, 1)] = way a b (n + 1) := by simp [way, List.replicate_succ']
theorem way_steps (a b : Int) (n : Nat) (ha : 0 ≤ a ∧ a ≤ 524288) (hb : 0 ≤ b ∧ b ≤ 524288) : ∀ p ∈ way a b n, IsStep p := by
  intro p hp
  unfold way at hp
  rcases List.mem_cons.1 hp with rfl | hp
  · unfold IsStep; simp; omega
  · rw [(List.mem_replicate.1 hp).2]; unfold IsStep; decide
theorem way_places (a b f : Int) (n : Nat) (hb : 0 ≤ b ∧ b ≤ 524288) (hf : 0 ≤ f ∧ f ≤ 524288) (hn : n ≤ 50) : ∀ p ∈ adds (a, f) (way a b n), PlaceP p := by
  intro p hp
  rw [adds_way] at hp
  rcases List.mem_cons.1 hp with rfl | hp
  · unfold PlaceP; simp; omega
  · obtain ⟨j, hj, rfl⟩ := List.mem_map.1 hp
    have := List.mem_range.1 hj
    unfold PlaceP; simp; omega
theorem w64' {x : Int} (h0 : -9223372036854775808 ≤ x) (h1 : x < 9223372036854775808) : wrap64 x = x := by unfold wrap64; omega
/-- The inputs of which the law speaks. -/
def Asked (a b f n : Int) : Prop := (0 ≤ a ∧ a ≤ 524288) ∧ (0 ≤ b ∧ b ≤ 524288) ∧ (0 ≤ f ∧ f ≤ 524288) ∧ 0 ≤ n ∧ n ≤ 50
set_option maxHeartbeats 4000000 in
set_option maxRecDepth 20000 in
theorem There_calls (a b f n : Int) (h : Asked a b f n) (w : World) : Calls Try.prog 4 #[.int .i64 a, .int .i64 b, .int .i64 f, .int .i64 n] w fun e w' => e = .returned (.bool true) ∧ Below w.heap.size w w' := by
  obtain ⟨ha, hb, hf, hn⟩ := h
  obtain ⟨m, rfl⟩ : ∃ m : Nat, n = (m : Int) := ⟨n.toNat, by omega⟩
  have KA := Aside0.mk (At_calls a f ⟨by omega, by omega, by omega, by omega⟩)
  have KS := Aside0.mk (Step_two a b ⟨by omega, by omega, by omega, by omega⟩ ⟨by omega, by omega, by omega, by omega⟩)
  have d1 : decide (a < 0) = false := decide_eq_false (by omega)
  have d2 : decide (b < 0) = false := decide_eq_false (by omega)
  have d3 : decide (f < 0) = false := decide_eq_false (by omega)
  have d4 : decide ((m : Int) < 0) = false := decide_eq_false (by omega)
  obtain ⟨x, hx⟩ : ∃ x, (if a < b then b else a) = x := ⟨_, rfl⟩
  obtain ⟨y, hy⟩ : ∃ y, (if x < f then f else x) = y := ⟨_, rfl⟩
  have d5 : decide (524288 < y) = false := decide_eq_false (by omega)
  have d6 : decide (50 < (m : Int)) = false := decide_eq_false (by omega)
  have HA := Aside0.mk ha
  have HBB := Aside0.mk hb
  have HF := Aside0.mk hf
  have HM := Aside0.mk hn
  clear ha hb hf hn
  go_enter Try.func4, Try.ntmps4
  go_wp2_with (fail)
  refine (anchor_calls _).mono ?_
  rintro e w1 ⟨rfl, HB⟩
  replace HB := Aside0.mk HB
  go_wp2_with (fail)
  refine (KA.out _).mono ?_
  rintro e w2 ⟨rfl, rfl⟩
  go_wp2_with (fail)
  refine (KS.out _).mono ?_
  rintro e w3 ⟨rfl, rfl⟩
  clear hx hy d1 d2 d3 d4 d5 d6
  go_wp2_with (first | ((with_reducible refine gate_dst (N := 64) rfl ?_); refine Kd.R_lit Kcx w.heap.size 23 ?hg (N := 64) ?hd (xs := [(b - a, 0)]) (inner := [cx (b - a) 0]) (ok := fun _ => True) (okp := fun _ => True) ?hr ?hp (fun _ hk => hk) trivial HB.out (below_size HB.out) (by simp) ?_; (case hd => rfl); (case hg => rfl); (case hr => first | (unfold cx; go_simp; done) | (unfold cx; go_simp; rfl)); (case hp => exact (Reps.one (show Kd.M Kcx _ _ _ (b - a, 0) [cx (b - a) 0] from rfl) (Reps.none _ _))); intro v0 w4 ho hb hg_ hnew_; clear hg_ hnew_; have HO := Aside0.mk ho; clear HB; have HB := Aside0.mk hb; clear ho hb))
  go_loopg [13, 66] m (fun kq v13 v66 w' => ∃ i : Nat, v66 = .int .i64 (i : Int) ∧ Aside0 (i + kq = m) ∧ Aside0 (Kcx.R 23 w' w.heap.size (fun _ => True) v13 (way a b i)) ∧ Aside0 (Below w.heap.size w w'))
  case atStart => exact ⟨0, rfl, ⟨by omega⟩, HO, HB⟩
  case round =>
    clear HO HB
    obtain ⟨i, rfl, HI, HO, HB⟩ := hrel
    by_cases c1 : i < m
    · have hM := HM.out
      have hk : (1 + 2 * ((i : Int) % 2) = 1 ∨ 1 + 2 * ((i : Int) % 2) = 3) := by omega
      have KO := Aside0.mk (Step_one _ (-1) (-1) hk)
      have e1 : decide (i < m) = true := decide_eq_true c1
      have e5 : wrap64 ((i : Int) + 1) = ((i + 1 : Nat) : Int) := by unfold wrap64; omega
      clear hM hk
      have C1 := Aside0.mk c1
      go_wp2_with (fail)
      refine (KO.out _).mono ?_
      rintro e w5 ⟨rfl, rfl⟩
      obtain ⟨A1, c1_, rfl, hcl, hCr⟩ := Kd.R_reads HO.out
      go_wp2_with (first | ((with_reducible refine gate_dst (N := 81) rfl ?_); refine Kd.R_lit Kcx w5.heap.size 23 ?hg (N := 81) ?hd (xs := [(0, 1)]) (inner := [.complex .f64 0 4607182418800017408]) (ok := fun _ => True) (okp := fun _ => True) ?hr ?hp (fun _ hk => hk) trivial (Below.refl _ _) (Nat.le_refl _) (by simp) ?_; (case hd => rfl); (case hg => rfl); (case hr => first | (go_simp; done) | (go_simp; rfl)); (case hp => exact (Reps.one (show Kd.M Kcx _ _ _ ((0 : Int), (1 : Int)) [.complex .f64 0 4607182418800017408] from by rw [cx01]; rfl) (Reps.none _ _))); intro v43 w7 ho hb hg_ hnew_; clear hg_ hnew_; obtain ⟨A43, c43, rfl, hcl43, hC43⟩ := Kd.R_reads ho; have HC43 := Aside0.mk hC43; have HO1 := Aside0.mk (Kd.R_below HO.out hb); have HB1 := Aside0.mk (below_step HB.out hb); clear ho hb hC43 hcl43) | ((with_reducible refine gate_builtin (b := .append) (xs := #[.tmp 79, .tmp 81]) rfl ?_); at_builtin; refine Kd.R_append_row enc (0, 0) (h1 := enc1) (w0 := w) w.heap.size rfl (.tmp 79) (.tmp 81) 30 23 (.complex .f64 0 0) 16 rfl Try.underlying30 info23 rfl (by decide) (.slice A1 (way a b i).length c1_) (way a b i) [(0, 1)] A43 1 c43 (fun _ => True) rfl rfl (fun _ _ => trivial) HO1.out HC43.out HB1.out (below_size HB1.out) (by have := way_len a b i; have := HM.out; have := C1.out; omega) ?_; intro v44 w8 ho hb hg hat; rw [way_snoc] at ho; have HO2 := Aside0.mk ho; have HB2 := Aside0.mk hb; clear ho hb hg hat))
      go_roundg (gk - 1)
      case measure => have := HI.out; have := C1.out; omega
      case rel => exact ⟨i + 1, congrArg _ e5, ⟨by have := HI.out; have := C1.out; omega⟩, HO2, HB2⟩
    · have e1 : decide (i < m) = false := decide_eq_false c1
      have hle : i = m := by have := HI.out; omega
      subst hle
      have hM := HM.out
      have hA := HA.out
      have hB := HBB.out
      have hF := HF.out
      obtain ⟨A1, c1_, rfl, hcl, hCr⟩ := Kd.R_reads HO.out
      have KW := Aside0.mk (Walk_calls (a, f) (way a b i) A1 c1_ wr (by unfold PlaceP; simp; omega) (way_steps a b i hA hB) (way_places a b f i hB hF (by omega)) hCr hcl (by rw [way_len]; omega))
      have KP := Aside0.mk (Parts_calls b (f + i) (by unfold PlaceP; simp; omega))
      have KD := Aside0.mk (Apart_calls a f b (f + i) (by unfold PlaceP; simp; omega) (by unfold PlaceP; simp; omega))
      go_wp2_with (fail)
      refine KW.out.mono ?_
      rintro e w5 ⟨v, rfl, hR, hb⟩
      replace HB := Aside0.mk (below_step HB.out hb)
      clear hb
      have hlast := way_last a b f i
      have hlen : ((a, f) :: adds (a, f) (way a b i)).length = i + 2 := by rw [adds_way]; simp
      generalize ((a, f) :: adds (a, f) (way a b i)) = ys at hR hlast hlen
      obtain ⟨A2, c2, rfl, hc2, hC2⟩ := Kd.R_reads hR
      obtain ⟨ad, rfl, hx⟩ := at_cx hC2 ((i + 1 : Nat) : Int) (by omega) (by omega)
      rw [hlast, Int.toNat_natCast] at hx
      dsimp only at hx
      simp [Addr.add] at hx
      rw [hlen]
      have e6 : wrap64 ((i : Int) + 2) = (i : Int) + 2 := by unfold wrap64; omega
      have e7 : wrap64 ((i : Int) + 1) = ((i + 1 : Nat) : Int) := by unfold wrap64; omega
      have e12 : ((i : Int) + 1).toNat = i + 1 := by omega
      have e8 : wrap64 (a - b) = a - b := by unfold wrap64; omega
      have e9 : wrap64 (b - a) = b - a := by unfold wrap64; omega
      have e10 : wrap64 (f + (i : Int)) = f + (i : Int) := by unfold wrap64; omega
      obtain ⟨X, hX⟩ : ∃ X, (if a - b < b - a then b - a else a - b) = X := ⟨_, rfl⟩
      have e11 : wrap64 (X + (i : Int)) = ((a - b).natAbs + (f - (f + (i : Int))).natAbs : Int) := by
        have : -524288 ≤ X ∧ X ≤ 524288 := by omega
        rw [w64' (by omega) (by omega)]
        omega
      generalize ((a - b).natAbs + (f - (f + (i : Int))).natAbs : Int) = Y at KD e11
      clear hR hC2 hc2 hlast hlen hM hA hB hF hcl hCr KW KA KS
      go_wp2_with (fail)
      refine (KP.out _).mono ?_
      rintro e w6 ⟨rfl, rfl⟩
      go_wp2_with (fail)
      refine (KD.out _).mono ?_
      rintro e w7 ⟨rfl, rfl⟩
      go_wp2
      go_ret
      exact ⟨rfl, HB.out⟩
end Go.Proofs.Ythgokeogmikgbaa.P
