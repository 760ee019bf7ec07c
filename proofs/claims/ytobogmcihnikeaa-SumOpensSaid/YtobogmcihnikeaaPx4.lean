-- DERIVED: written by wip/tools/xprint.py over the translation; Lean checks it.
import Derived.Test.YtobogmcihnikeaaPx0
import Derived.Test.YtobogmcihnikeaaPx2
import Derived.Test.YtobogmcihnikeaaPx3
namespace Go.Proofs.Ytobogmcihnikeaa.P
open Go.RowKit Go.Proofs.YtobogmcihnikeaaW.PrintWords Go.Proofs.YtobogmcihnikeaaW.PrintLast Go.Proofs.YtobogmcihnikeaaW.PrintMore
attribute [local go_sem] max2_int min2_int max_two min_two max_three min_three max_four min_four   -- for this text's walks alone
set_option linter.unusedVariables false
set_option linter.unusedSimpArgs false

/-! ### sum_Frame: function 15 -/
theorem C_rows_alloc {W : World} (t : TypeId) (xs : List (Option Addr × Nat × List Int)) (hn : xs.length ≤ 9223372036854775807) (hC : ∀ x ∈ xs, x.2.2.length ≤ x.2.1 ∧ Kd.C (Kd.int .u8) W x.1 x.2.2.length x.2.2) :
    Kd.C (Kd.slice 5 (Kd.int .u8)) (W.alloc (.cells (xs.map fun x => Value.slice x.1 x.2.2.length x.2.1).toArray t)) (some ⟨W.heap.size, 0, none⟩) xs.length (xs.map (·.2.2)) := by
  refine ⟨by simp, hn, fun _ => ⟨_, rfl, fun j p hp => ?_⟩⟩
  rw [List.getElem?_map, Option.map_eq_some_iff] at hp
  obtain ⟨x, hx, rfl⟩ := hp
  obtain ⟨h1, h2⟩ := hC x (List.mem_of_getElem? hx)
  refine ⟨[.slice x.1 x.2.2.length x.2.1], rfl, ⟨_, _, rfl, h1, Kd.C_below h2 (below_alloc (Below.refl _ _) _)⟩, fun i u hu => ?_⟩
  have hi : i = 0 := by
    cases i with
    | zero => rfl
    | succ i => simp at hu
  subst hi
  obtain rfl := Option.some.inj hu
  rw [add_plain, show j * (Kd.slice 5 (Kd.int .u8)).sz + 0 = j from by simp [Kd.slice]]
  have hj : j < xs.length := (List.getElem?_eq_some_iff.1 hx).1
  have hg : (W.alloc (.cells (xs.map fun x => Value.slice x.1 x.2.2.length x.2.1).toArray t)).heap[W.heap.size]? = some (.cells (xs.map fun x => Value.slice x.1 x.2.2.length x.2.1).toArray t (0, 0)) := by show (W.heap.push _)[W.heap.size]? = _; simp
  rw [blk_cell hg j]
  simp [hx]
def sum_Frame.f (k : Nat) (l0 : List Int) : Option (List Int × Int) :=
  if l0.length > 65536 then some ([], 11) else
  (sum_four.f l0.length).bind fun s => (sum_Of.f k [s, l0]).bind fun c => (sum_four.f c).bind fun t => (slices_Concat_byte_byte.f k [s, l0, t]).bind fun r => some (r, 0)
theorem sum_Frame.mono : ∀ a0 k, LeO (sum_Frame.f k a0) (sum_Frame.f (k + 1) a0) := by
  intro a0 k
  unfold sum_Frame.f
  refine LeO.ite (LeO.refl _) (LeO.bind (LeO.refl _) fun s => LeO.bind (sum_Of.mono _ _) fun c => LeO.bind (LeO.refl _) fun t => LeO.bind (slices_Concat_byte_byte.mono _ _) fun r => LeO.refl _)
set_option maxHeartbeats 4000000 in
theorem sum_Frame.calls (k : Nat) (A0 : Option Addr) (c0 : Nat) (l0 : List Int) (r1 : List Int) (r2 : Int) (w : World) (hr0 : Kd.C (Kd.int .u8) w A0 l0.length l0) (hc0 : l0.length ≤ c0) (h : sum_Frame.f k l0 = some (r1, r2)) :
    Calls Try.prog 15 #[.slice A0 l0.length c0] w fun e w' => ∃ v0_ : Value, e = .returned (.tuple #[v0_, .int .i64 r2]) ∧ Kd.R (Kd.int .u8) 5 w' w.heap.size (fun _ => True) v0_ r1 ∧ Below w.heap.size w w' := by
  have HR0 := Aside0.mk hr0
  have HC0 := Aside0.mk hc0
  clear hr0 hc0
  have HB := Aside0.mk (Below.refl w.heap.size w)
  unfold sum_Frame.f at h
  by_cases hl : l0.length > 65536
  · rw [if_pos hl] at h
    have hb : decide (l0.length > 65536) = true := decide_eq_true hl
    simp only [Option.some.injEq, Prod.mk.injEq] at h
    obtain ⟨rfl, rfl⟩ := h
    go_enter Try.func15, Try.ntmps15
    go_wp2
    go_ret2
    exact ⟨_, rfl, Kd.R_nil _ _ _ _ _, Below.refl _ _⟩
  · rw [if_neg hl] at h
    have hb : decide (l0.length > 65536) = false := decide_eq_false hl
    have hl' := Nat.le_of_not_gt hl
    clear hl
    obtain ⟨s, h1, h⟩ := Option.bind_eq_some_iff.mp h
    obtain ⟨c, h2, h⟩ := Option.bind_eq_some_iff.mp h
    obtain ⟨t, h3, h⟩ := Option.bind_eq_some_iff.mp h
    obtain ⟨r, h4, h⟩ := Option.bind_eq_some_iff.mp h
    simp only [Option.some.injEq, Prod.mk.injEq] at h
    obtain ⟨rfl, rfl⟩ := h
    have H1 := Aside0.mk h1; have H2 := Aside0.mk h2; have H3 := Aside0.mk h3; have H4 := Aside0.mk h4
    clear h1 h2 h3 h4
    go_enter Try.func15, Try.ntmps15
    go_wp2_with (first | (go_at_call 24; refine (sum_four.calls _ _ _ H1.out).mono ?_; rintro e w1 ⟨v1, rfl, hs, hb1⟩; have HS := Aside0.mk hs; have HB1 := Aside0.mk hb1; clear hs hb1; obtain ⟨A1, c1, rfl⟩ := Kd.R_slice HS.out))
    have HS1 := Kd.R_reads' HS.out
    have HC1 := Kd.C_below HR0.out HB1.out
    refine (sum_Of.calls k _ _ [s, l0] c _ ?_ (by simp) H2.out).mono ?_
    · exact C_rows_alloc 24 [(A1, c1, s), (A0, c0, l0)] (by simp) (by simp; exact ⟨⟨HS1.2.1, HS1.2.2⟩, HC0.out, HC1⟩)
    rintro e w2 ⟨rfl, ⟨⟨n2, rfl⟩⟩⟩
    have HB2 : Aside0 (Below w.heap.size w ((w1.alloc (Obj.cells #[Value.slice A1 s.length c1, Value.slice A0 l0.length c0] 24)).drewN n2)) := ⟨pw_below_drewN (below_alloc HB1.out _) _⟩
    have HB12 : Aside0 (Below w1.heap.size w1 ((w1.alloc (Obj.cells #[Value.slice A1 s.length c1, Value.slice A0 l0.length c0] 24)).drewN n2)) := ⟨pw_below_drewN (below_alloc (Below.refl _ _) _) _⟩
    generalize (w1.alloc (Obj.cells #[Value.slice A1 s.length c1, Value.slice A0 l0.length c0] 24)).drewN n2 = w2 at HB2 HB12 ⊢
    go_wp2_with (first | (go_at_call 24; refine (sum_four.calls _ _ _ H3.out).mono ?_; rintro e w3 ⟨v3, rfl, ht, hb3⟩; have HT := Aside0.mk ht; have HB3 := Aside0.mk hb3; clear ht hb3; obtain ⟨A3, c3, rfl⟩ := Kd.R_slice HT.out))
    have HT3 := Kd.R_reads' HT.out
    have HB13 : Below w1.heap.size w1 w3 := below_step HB12.out HB3.out
    have HB23 : Aside0 (Below w.heap.size w w3) := ⟨below_step HB2.out HB3.out⟩
    have HS3 := Kd.C_below HS1.2.2 HB13
    have HR3 := Kd.C_below HR0.out HB23.out
    refine (slices_Concat_byte_byte.calls k _ _ [s, l0, t] r _ ?_ (by simp) H4.out).mono ?_
    · exact C_rows_alloc 24 [(A1, c1, s), (A0, c0, l0), (A3, c3, t)] (by simp) (by simp; exact ⟨⟨HS1.2.1, HS3⟩, ⟨HC0.out, HR3⟩, HT3.2.1, HT3.2.2⟩)
    rintro e w4 ⟨v4, rfl, hr4, hb4⟩
    have HB4 : Aside0 (Below w.heap.size w w4) := ⟨below_step (below_alloc HB23.out _) hb4⟩
    have HR4 := Aside0.mk (Kd.R_lower hr4 (below_size (below_alloc HB23.out _)))
    clear hr4 hb4
    go_wp2
    go_ret2
    exact ⟨_, rfl, HR4.out, HB4.out⟩


/-! ### slipwayref11_Same: function 17 -/
def slipwayref11_Same.l0 : Nat → List Int → List Int → Int → Option (Bool)
  | 0, _, _, _ => none
  | k + 1, x0, x1, x5 => if x5 < (x0.length : Int) then (if 0 ≤ x5 then (if x5 < (x1.length : Int) then (if (rd x0 x5) = (rd x1 x5) then (slipwayref11_Same.l0 k x0 x1 (wrap64 (x5 + 1))) else (some false)) else (none)) else (none)) else (some true)
def slipwayref11_Same.f (k : Nat) (l0 : List Int) (l1 : List Int) : Option (Bool) := if (l0.length : Int) = (l1.length : Int) then (slipwayref11_Same.l0 k l0 l1 0) else (some false)
theorem slipwayref11_Same.mono_l : ∀ k, (∀ y0 y1 y2, LeO (slipwayref11_Same.l0 k y0 y1 y2) (slipwayref11_Same.l0 (k + 1) y0 y1 y2))
  | 0 => fun _ _ _ r h => by simp [slipwayref11_Same.l0] at h
  | k + 1 => by
    have ih0 := slipwayref11_Same.mono_l k
    · intro y0 y1 y2
      unfold slipwayref11_Same.l0
      repeat' first
      | (with_reducible exact ih0 _ _ _)
      | (with_reducible exact LeO.refl _)
      | (with_reducible exact LeO.none _)
      | (with_reducible refine LeO.ite ?_ ?_)
      | (with_reducible refine LeO.bind ?_ (fun _ => ?_))
      | exact ih0 _ _ _
      | exact LeO.none _
      | refine LeO.ite ?_ ?_
      | refine LeO.bind ?_ (fun _ => ?_)
theorem slipwayref11_Same.mono : ∀ a0 a1 k, LeO (slipwayref11_Same.f k a0 a1) (slipwayref11_Same.f (k + 1) a0 a1) := by
  intro a0 a1 k
  have ih0 := slipwayref11_Same.mono_l k
  unfold slipwayref11_Same.f
  repeat' first
      | (with_reducible exact ih0 _ _ _)
      | (with_reducible exact LeO.refl _)
      | (with_reducible exact LeO.none _)
      | (with_reducible refine LeO.ite ?_ ?_)
      | (with_reducible refine LeO.bind ?_ (fun _ => ?_))
      | exact ih0 _ _ _
      | exact LeO.none _
      | refine LeO.ite ?_ ?_
      | refine LeO.bind ?_ (fun _ => ?_)
set_option maxHeartbeats 8000000 in
set_option maxRecDepth 100000 in
theorem slipwayref11_Same.calls (k : Nat) (A0 : Option Addr) (c0 : Nat) (l0 : List Int) (A1 : Option Addr) (c1 : Nat) (l1 : List Int) (r : Bool) (w : World) (hr0 : Kd.C (Kd.int .u8) w A0 l0.length l0) (hc0 : l0.length ≤ c0) (hr1 : Kd.C (Kd.int .u8) w A1 l1.length l1) (hc1 : l1.length ≤ c1) (h : slipwayref11_Same.f k l0 l1 = some r) :
    Calls Try.prog 17 #[.slice A0 l0.length c0, .slice A1 l1.length c1] w fun e w' => e = .returned (.bool r) ∧ Drawn0 w w' := by
  have HR0 := Aside0.mk hr0
  have HC0 := Aside0.mk hc0
  clear hr0 hc0
  have HR1 := Aside0.mk hr1
  have HC1 := Aside0.mk hc1
  clear hr1 hc1
  have H : (if (l0.length : Int) = (l1.length : Int) then (slipwayref11_Same.l0 k l0 l1 0) else (some false)) = some r := h
  clear h
  by_cases c3 : (l0.length : Int) = (l1.length : Int)
  · rw [if_pos c3] at H
    have c3b0 : ((l0.length : Int) == (l1.length : Int)) = true := beq_iff_eq.mpr c3
    have c3b1 : ((l0.length : Int) != (l1.length : Int)) = false := bne_eq_false_iff_eq.mpr c3
    have c3b2 : (l0.length == l1.length) = true := by first | simpa using c3 | (simp at c3 ⊢; omega)
    clear c3
    have H' := Aside0.mk H
    clear H
    go_enter Try.func17, Try.ntmps17
    go_wp2
    repeat (go_quiet (fail); try go_wp2)
    go_loopg [5] k (fun kq v5 w' => ∃ (x5_1 : Int), v5 = .int .i64 x5_1 ∧ Aside0 (slipwayref11_Same.l0 kq l0 l1 x5_1 = some r) ∧ Aside0 (kq ≤ k) ∧ Drawn0 w w')
    case atStart => exact ⟨(0), (by first | rfl | (simp; done) | (simp [*]; done)), H', ⟨Nat.le_refl _⟩, by repeat (first | exact Drawn0.refl _ | apply Drawn0.step)⟩
    case round =>
      clear H'
      try clear c1
      try clear p2
      try clear c3
      try clear c3b0
      try clear c3b1
      try clear c3b2
      obtain ⟨x5_1, rfl, HA, HK1, ⟨m1, rfl⟩⟩ := hrel
      cases gk with
      | zero => exact absurd HA.out (by simp [slipwayref11_Same.l0])
      | succ k1 =>
        have H := HA.out
        clear HA
        simp only [slipwayref11_Same.l0] at H
        by_cases c4 : x5_1 < (l0.length : Int)
        · rw [if_pos c4] at H
          have c4b0 : decide (x5_1 < (l0.length : Int)) = true := decide_eq_true c4
          clear c4
          by_cases c5 : 0 ≤ x5_1
          · rw [if_pos c5] at H
            have c5b0 : decide (0 ≤ x5_1) = true := decide_eq_true c5
            clear c5
            by_cases c6 : x5_1 < (l1.length : Int)
            · rw [if_pos c6] at H
              have c6b0 : decide (x5_1 < (l1.length : Int)) = true := decide_eq_true c6
              clear c6
              by_cases c7 : (rd l0 x5_1) = (rd l1 x5_1)
              · rw [if_pos c7] at H
                have c7b0 : ((rd l0 x5_1) == (rd l1 x5_1)) = true := beq_iff_eq.mpr c7
                have c7b1 : ((rd l0 x5_1) != (rd l1 x5_1)) = false := bne_eq_false_iff_eq.mpr c7
                clear c7
                have H' := Aside0.mk H
                clear H
                have p107 : 0 ≤ (x5_1 : Int) := of_decide_eq_true (by first | (with_reducible assumption) | assumption)
                have q107 : x5_1 < (l0.length : Int) := of_decide_eq_true (by first | (with_reducible assumption) | assumption)
                obtain ⟨ad107, e107, hx107_0⟩ := Kd.at_int HR0.out x5_1 p107 q107
                cases e107
                replace p107 := eq_true p107
                replace q107 := eq_true q107
                have p108 : 0 ≤ (x5_1 : Int) := of_decide_eq_true (by first | (with_reducible assumption) | assumption)
                have q108 : x5_1 < (l1.length : Int) := of_decide_eq_true (by first | (with_reducible assumption) | assumption)
                obtain ⟨ad108, e108, hx108_0⟩ := Kd.at_int HR1.out x5_1 p108 q108
                cases e108
                replace p108 := eq_true p108
                replace q108 := eq_true q108
                go_wp2
                repeat (go_quiet (fail); try go_wp2)
                go_roundg k1
                case measure => have := HK1.out; omega
                case rel => exact ⟨(wrap64 (x5_1 + 1)), (by first | rfl | (simp; done) | (simp [*]; done)), H', ⟨by have := HK1.out; omega⟩, by repeat (first | exact Drawn0.refl _ | apply Drawn0.step)⟩
              · rw [if_neg c7] at H
                have c7b0 : ((rd l0 x5_1) == (rd l1 x5_1)) = false := beq_eq_false_iff_ne.mpr c7
                have c7b1 : ((rd l0 x5_1) != (rd l1 x5_1)) = true := bne_iff_ne.mpr c7
                obtain rfl := Option.some.inj H
                have p107 : 0 ≤ (x5_1 : Int) := of_decide_eq_true (by first | (with_reducible assumption) | assumption)
                have q107 : x5_1 < (l0.length : Int) := of_decide_eq_true (by first | (with_reducible assumption) | assumption)
                obtain ⟨ad107, e107, hx107_0⟩ := Kd.at_int HR0.out x5_1 p107 q107
                cases e107
                replace p107 := eq_true p107
                replace q107 := eq_true q107
                have p108 : 0 ≤ (x5_1 : Int) := of_decide_eq_true (by first | (with_reducible assumption) | assumption)
                have q108 : x5_1 < (l1.length : Int) := of_decide_eq_true (by first | (with_reducible assumption) | assumption)
                obtain ⟨ad108, e108, hx108_0⟩ := Kd.at_int HR1.out x5_1 p108 q108
                cases e108
                replace p108 := eq_true p108
                replace q108 := eq_true q108
                go_wp2
                repeat (go_quiet (fail); try go_wp2)
                go_ret
                exact ⟨by first | rfl | (simp; done) | (simp [*]; done), by repeat (first | exact Drawn0.refl _ | apply Drawn0.step)⟩
            · rw [if_neg c6] at H
              exact absurd H (by simp)
          · rw [if_neg c5] at H
            exact absurd H (by simp)
        · rw [if_neg c4] at H
          have c4b0 : decide (x5_1 < (l0.length : Int)) = false := decide_eq_false c4
          clear c4
          obtain rfl := Option.some.inj H
          go_wp2
          repeat (go_quiet (fail); try go_wp2)
          go_ret
          exact ⟨by first | rfl | (simp; done) | (simp [*]; done), by repeat (first | exact Drawn0.refl _ | apply Drawn0.step)⟩
  · rw [if_neg c3] at H
    have c3b0 : ((l0.length : Int) == (l1.length : Int)) = false := beq_eq_false_iff_ne.mpr c3
    have c3b1 : ((l0.length : Int) != (l1.length : Int)) = true := bne_iff_ne.mpr c3
    have c3b2 : (l0.length == l1.length) = false := by first | simpa using c3 | (simp at c3 ⊢; omega)
    obtain rfl := Option.some.inj H
    go_enter Try.func17, Try.ntmps17
    go_wp2
    repeat (go_quiet (fail); try go_wp2)
    go_ret
    exact ⟨by first | rfl | (simp; done) | (simp [*]; done), by repeat (first | exact Drawn0.refl _ | apply Drawn0.step)⟩

end Go.Proofs.Ytobogmcihnikeaa.P
