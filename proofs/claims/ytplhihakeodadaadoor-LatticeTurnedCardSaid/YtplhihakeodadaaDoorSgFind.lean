/- slices.Contains of ints; ContainsFunc of steps and of edges with the program's own closures; DeleteFunc. -/
import Derived.Test.YtplhihakeodadaaDoorSgClone
namespace Go.Proofs.YtplhihakeodadaaDoor.Sg
open Go Go.RowKit Go.Proofs.YtplhihakeodadaaDoorW.PrintWords Go.Proofs.YtplhihakeodadaaDoorW.PrintLast Go.Proofs.YtplhihakeodadaaDoorW.PrintMore
set_option linter.unusedVariables false
set_option linter.unusedSimpArgs false
theorem at_int {w : World} {A : Option Addr} {l : List Int} (h : Kd.C kI w A l.length l) (i : Nat) (hi : i < l.length) : ∃ ad, A = some ad ∧ w.cell? (ad.add i) = some (.int .i64 (l.getD i 0)) := by
  obtain ⟨ad, cs, ea, hcl, hK, hcc⟩ := Kd.C_get h 0 (i : Int) (by omega) (by omega)
  rw [Int.toNat_natCast] at hK hcc
  cases hK
  refine ⟨ad, ea, ?_⟩
  have := (show w.cell? (ad.add (i * 1 + 0)) = _ from hcc 0 _ rfl)
  rwa [Nat.mul_one, Nat.add_zero] at this
set_option maxHeartbeats 4000000 in
set_option maxRecDepth 20000 in
theorem Index_T (l : List Int) (A : Option Addr) (c : Nat) (x : Int) (w : World) (h : Kd.C kI w A l.length l) (hl : l.length ≤ 1000000000000) :
    Calls Tryd.prog 69 #[.slice A l.length c, .int .i64 x] w fun e w' => ∃ r : Int, e = .returned (.int .i64 r) ∧ (decide (0 ≤ r)) = l.contains x ∧ w = w' := by
  have HC := Aside0.mk h
  have HL := Aside0.mk hl
  clear h hl
  go_enter Tryd.func69, Tryd.ntmps69
  go_wp2
  go_loopg [5, 8] l.length (fun kq v5 v8 w' => ∃ (i : Nat), v8 = .int .i64 (i : Int) ∧ Aside0 (i + kq = l.length) ∧ Aside0 ((l.take i).any (fun y => y == x) = false) ∧ w' = w)
  case atStart => exact ⟨0, rfl, ⟨by omega⟩, ⟨rfl⟩, rfl⟩
  case round =>
    obtain ⟨i, rfl, HJ, HA, rfl⟩ := hrel
    by_cases c1 : i < l.length
    · have e1 : decide (i < l.length) = true := decide_eq_true c1
      have HE5 : Aside0 (wrap64 ((i : Int) + 1) = ((i + 1 : Nat) : Int)) := ⟨by have := HL.out; unfold wrap64; omega⟩
      obtain ⟨ad, ea, hx⟩ := at_int HC.out i c1
      cases ea
      obtain ⟨y, hy⟩ : ∃ e, l.getD i 0 = e := ⟨_, rfl⟩
      rw [hy] at hx
      have HY := Aside0.mk hy
      have HI := Aside0.mk c1
      clear hy
      by_cases q : x = y
      · subst q
        go_wp2
        go_ret
        refine ⟨(i : Int), rfl, ?_, rfl⟩
        rw [List.contains_eq_any_beq, decide_eq_true (by omega)]
        exact (any_hit HI.out 0 (by rw [HY.out]; simp)).symm
      · have q1 : (x == y) = false := by simpa using q
        have HT := Aside0.mk (any_step (f := fun y => y == x) HI.out 0 (by rw [HY.out]; simpa using fun e => q e.symm) HA.out)
        clear q
        go_wp2
        go_roundg (gk - 1)
        case measure => have := HJ.out; have := HI.out; omega
        case rel => exact ⟨i + 1, congrArg _ HE5.out, ⟨by have := HJ.out; have := HI.out; omega⟩, HT, rfl⟩
    · have e1 : decide (i < l.length) = false := decide_eq_false c1
      have HI := Aside0.mk c1
      go_wp2
      go_ret
      refine ⟨-1, rfl, ?_, rfl⟩
      have := HA.out
      rw [List.take_of_length_le (by have := HI.out; omega)] at this
      rw [List.contains_eq_any_beq]
      simp only [show (fun y => y == x) = (fun y => x == y) from funext fun y => Bool.beq_comm] at this
      first | exact this.symm | (rw [show (fun y => y == x) = (fun y => x == y) from funext fun y => Bool.beq_comm]; exact this.symm)
theorem Contains_T (l : List Int) (A : Option Addr) (c : Nat) (x : Int) (w : World) (h : Kd.C kI w A l.length l) (hl : l.length ≤ 1000000000000) :
    Calls Tryd.prog 48 #[.slice A l.length c, .int .i64 x] w fun e w' => e = .returned (.bool (l.contains x)) ∧ w = w' := by
  have K := Aside0.mk (Index_T l A c x w h hl)
  clear h hl
  go_enter Tryd.func48, Tryd.ntmps48
  go_wp2_with (fail)
  refine K.out.mono ?_
  rintro e w1 ⟨r, rfl, hr, rfl⟩
  have HR := Aside0.mk hr
  clear hr
  go_wp2
  go_ret
  exact ⟨by rw [← HR.out]; rfl, rfl⟩
/-- An edge that keeps a step from being begun. -/
def bars (step : Int) (dn : List Int) (e : Stp) : Bool := e.2 == step && !dn.contains e.1
set_option maxHeartbeats 4000000 in
set_option maxRecDepth 20000 in
theorem May1_T (e : Stp) (step : Int) (ps pg : Nat) (dn : List Int) (Ad : Option Addr) (cd : Nat) (w : World) (hs : w.cell? ⟨ps, 0, none⟩ = some (.int .i64 step)) (hd : w.cell? ⟨pg, 7, none⟩ = some (.slice Ad dn.length cd)) (hD : Kd.C kI w Ad dn.length dn) (hl : dn.length ≤ 1000000000000) :
    Calls Tryd.prog 50 #[.agg #[.int .i64 e.1, .int .i64 e.2], .pointer (some ⟨ps, 0, none⟩), .pointer (some ⟨pg, 0, none⟩)] w fun r w' => r = .returned (.bool (bars step dn e)) ∧ Below w.heap.size w w' := by
  obtain ⟨a, b⟩ := e
  have hb := below_alloc (Below.refl w.heap.size w) (.cells #[.int .i64 a, .int .i64 b] 74)
  have HB := Aside0.mk hb
  have hs1 := pw_cell_below hb hs
  have hd1 := pw_cell_below hb hd
  have K := Aside0.mk (Contains_T dn Ad cd a (w.alloc (.cells #[.int .i64 a, .int .i64 b] 74)) (Kd.C_below hD hb) hl)
  clear hs hd hD hl hb
  unfold bars
  by_cases q : b = step
  · subst q
    have q1 : (b == b) = true := by simp
    obtain ⟨B, hB⟩ : ∃ B, dn.contains a = B := ⟨_, rfl⟩
    rw [hB] at K
    dsimp only
    rw [hB, q1]
    clear q1
    go_enter Tryd.func50, Tryd.ntmps50
    go_wp2_with (fail)
    refine K.out.mono ?_
    rintro e w1 ⟨rfl, rfl⟩
    go_wp2
    go_ret
    exact ⟨by simp, HB.out⟩
  · have q1 : (b == step) = false := by simpa using q
    dsimp only
    rw [q1]
    clear q
    go_enter Tryd.func50, Tryd.ntmps50
    go_wp2
    go_ret
    exact ⟨by simp, HB.out⟩
set_option maxHeartbeats 4000000 in
set_option maxRecDepth 20000 in
theorem IndexFuncE_T (E : List Stp) (A : Option Addr) (c : Nat) (step : Int) (ps pg : Nat) (dn : List Int) (Ad : Option Addr) (cd : Nat) (w : World) (h : Kd.C kP w A E.length E) (hE : E.length ≤ 1000000000000) (hs : w.cell? ⟨ps, 0, none⟩ = some (.int .i64 step)) (hd : w.cell? ⟨pg, 7, none⟩ = some (.slice Ad dn.length cd)) (hD : Kd.C kI w Ad dn.length dn) (hl : dn.length ≤ 1000000000000) :
    Calls Tryd.prog 70 #[.slice A E.length c, .func (.func 50) #[] #[.pointer (some ⟨ps, 0, none⟩), .pointer (some ⟨pg, 0, none⟩)]] w fun e w' => ∃ r : Int, e = .returned (.int .i64 r) ∧ (decide (0 ≤ r)) = E.any (bars step dn) ∧ Below w.heap.size w w' := by
  have HC := Aside0.mk h
  have HL := Aside0.mk hE
  have HS := Aside0.mk hs
  have HD := Aside0.mk hd
  have HDD := Aside0.mk hD
  have HLD := Aside0.mk hl
  clear h hl hs hd hD hE
  go_enter Tryd.func70, Tryd.ntmps70
  go_wp2
  go_loopg [5, 8] E.length (fun kq v5 v8 w' => ∃ (i : Nat), v8 = .int .i64 (i : Int) ∧ Aside0 (i + kq = E.length) ∧ Aside0 ((E.take i).any (bars step dn) = false) ∧ Aside0 (Below w.heap.size w w'))
  case atStart => exact ⟨0, rfl, ⟨by omega⟩, ⟨rfl⟩, ⟨Below.refl _ _⟩⟩
  case round =>
    obtain ⟨i, rfl, HJ, HA, HB⟩ := hrel
    by_cases c1 : i < E.length
    · have e1 : decide (i < E.length) = true := decide_eq_true c1
      have HE5 : Aside0 (wrap64 ((i : Int) + 1) = ((i + 1 : Nat) : Int)) := ⟨by have := HL.out; unfold wrap64; omega⟩
      obtain ⟨ad, ea, hx, hy⟩ := at_stp HC.out i c1
      cases ea
      replace hx := pw_cell_below HB.out hx
      replace hy := pw_cell_below HB.out hy
      obtain ⟨e, he⟩ : ∃ e, E.getD i (0, 0) = e := ⟨_, rfl⟩
      rw [he] at hx hy
      have HEe := Aside0.mk he
      have HI := Aside0.mk c1
      have K := Aside0.mk (May1_T e step ps pg dn Ad cd wr (pw_cell_below HB.out HS.out) (pw_cell_below HB.out HD.out) (Kd.C_below HDD.out HB.out) HLD.out)
      obtain ⟨B, hB⟩ : ∃ B, bars step dn e = B := ⟨_, rfl⟩
      rw [hB] at K
      have HBB := Aside0.mk hB
      clear he hB
      obtain ⟨a, b⟩ := e
      cases B with
      | true =>
        go_wp2_with (fail)
        refine K.out.mono ?_
        rintro e w1 ⟨rfl, hb⟩
        have HB1 := Aside0.mk (below_step HB.out hb)
        clear hb
        go_wp2
        go_ret
        refine ⟨(i : Int), rfl, ?_, HB1.out⟩
        rw [decide_eq_true (by omega)]
        exact (any_hit HI.out (0, 0) (by rw [HEe.out]; exact HBB.out)).symm
      | false =>
        have HT := Aside0.mk (any_step (f := bars step dn) HI.out (0, 0) (by rw [HEe.out]; exact HBB.out) HA.out)
        go_wp2_with (fail)
        refine K.out.mono ?_
        rintro e w1 ⟨rfl, hb⟩
        have HB1 := Aside0.mk (below_step HB.out hb)
        clear hb
        go_wp2
        go_roundg (gk - 1)
        case measure => have := HJ.out; have := HI.out; omega
        case rel => exact ⟨i + 1, congrArg _ HE5.out, ⟨by have := HJ.out; have := HI.out; omega⟩, HT, HB1⟩
    · have e1 : decide (i < E.length) = false := decide_eq_false c1
      have HI := Aside0.mk c1
      go_wp2
      go_ret
      refine ⟨-1, rfl, ?_, HB.out⟩
      have := HA.out
      rw [List.take_of_length_le (by have := HI.out; omega)] at this
      exact this.symm
theorem ContainsFuncE_T (E : List Stp) (A : Option Addr) (c : Nat) (step : Int) (ps pg : Nat) (dn : List Int) (Ad : Option Addr) (cd : Nat) (w : World) (h : Kd.C kP w A E.length E) (hE : E.length ≤ 1000000000000) (hs : w.cell? ⟨ps, 0, none⟩ = some (.int .i64 step)) (hd : w.cell? ⟨pg, 7, none⟩ = some (.slice Ad dn.length cd)) (hD : Kd.C kI w Ad dn.length dn) (hl : dn.length ≤ 1000000000000) :
    Calls Tryd.prog 49 #[.slice A E.length c, .func (.func 50) #[] #[.pointer (some ⟨ps, 0, none⟩), .pointer (some ⟨pg, 0, none⟩)]] w fun e w' => e = .returned (.bool (E.any (bars step dn))) ∧ Below w.heap.size w w' := by
  have K := Aside0.mk (IndexFuncE_T E A c step ps pg dn Ad cd w h hE hs hd hD hl)
  clear h hl hE hs hd hD
  go_enter Tryd.func49, Tryd.ntmps49
  go_wp2_with (fail)
  refine K.out.mono ?_
  rintro e w1 ⟨r, rfl, hr, hb⟩
  have HR := Aside0.mk hr
  have HB := Aside0.mk hb
  clear hr hb
  go_wp2
  go_ret
  exact ⟨by rw [← HR.out]; rfl, HB.out⟩
/-- A step of no kind. -/
def odd (e : Stp) : Bool := decide (e.2 < 1) || decide (3 < e.2)
theorem Begins1_T (e : Stp) (w : World) : Calls Tryd.prog 83 #[.agg #[.int .i64 e.1, .int .i64 e.2]] w fun r w' => r = .returned (.bool (odd e)) ∧ Below w.heap.size w w' := by
  obtain ⟨a, b⟩ := e
  have HB := Aside0.mk (below_alloc (Below.refl w.heap.size w) (.cells #[.int .i64 a, .int .i64 b] 50))
  unfold odd
  by_cases q : b < 1
  · have q1 : decide (b < 1) = true := decide_eq_true q
    dsimp only
    rw [q1]
    go_enter Tryd.func83, Tryd.ntmps83
    go_wp2
    go_ret
    exact ⟨by simp, HB.out⟩
  · have q1 : decide (b < 1) = false := decide_eq_false q
    dsimp only
    rw [q1]
    go_enter Tryd.func83, Tryd.ntmps83
    go_wp2
    go_ret
    exact ⟨by simp, HB.out⟩
set_option maxHeartbeats 4000000 in
set_option maxRecDepth 20000 in
theorem IndexFuncS_T (E : List Stp) (A : Option Addr) (c : Nat) (w : World) (h : Kd.C kP w A E.length E) (hE : E.length ≤ 1000000000000) :
    Calls Tryd.prog 97 #[.slice A E.length c, .func (.func 83) #[] #[]] w fun e w' => ∃ r : Int, e = .returned (.int .i64 r) ∧ (decide (0 ≤ r)) = E.any odd ∧ Below w.heap.size w w' := by
  have HC := Aside0.mk h
  have HL := Aside0.mk hE
  clear h hE
  go_enter Tryd.func97, Tryd.ntmps97
  go_wp2
  go_loopg [5, 8] E.length (fun kq v5 v8 w' => ∃ (i : Nat), v8 = .int .i64 (i : Int) ∧ Aside0 (i + kq = E.length) ∧ Aside0 ((E.take i).any odd = false) ∧ Aside0 (Below w.heap.size w w'))
  case atStart => exact ⟨0, rfl, ⟨by omega⟩, ⟨rfl⟩, ⟨Below.refl _ _⟩⟩
  case round =>
    obtain ⟨i, rfl, HJ, HA, HB⟩ := hrel
    by_cases c1 : i < E.length
    · have e1 : decide (i < E.length) = true := decide_eq_true c1
      have HE5 : Aside0 (wrap64 ((i : Int) + 1) = ((i + 1 : Nat) : Int)) := ⟨by have := HL.out; unfold wrap64; omega⟩
      obtain ⟨ad, ea, hx, hy⟩ := at_stp HC.out i c1
      cases ea
      replace hx := pw_cell_below HB.out hx
      replace hy := pw_cell_below HB.out hy
      obtain ⟨e, he⟩ : ∃ e, E.getD i (0, 0) = e := ⟨_, rfl⟩
      rw [he] at hx hy
      have HEe := Aside0.mk he
      have HI := Aside0.mk c1
      have K := Aside0.mk (Begins1_T e wr)
      obtain ⟨B, hB⟩ : ∃ B, odd e = B := ⟨_, rfl⟩
      rw [hB] at K
      have HBB := Aside0.mk hB
      clear he hB
      obtain ⟨a, b⟩ := e
      cases B with
      | true =>
        go_wp2_with (fail)
        refine K.out.mono ?_
        rintro e w1 ⟨rfl, hb⟩
        have HB1 := Aside0.mk (below_step HB.out hb)
        clear hb
        go_wp2
        go_ret
        refine ⟨(i : Int), rfl, ?_, HB1.out⟩
        rw [decide_eq_true (by omega)]
        exact (any_hit HI.out (0, 0) (by rw [HEe.out]; exact HBB.out)).symm
      | false =>
        have HT := Aside0.mk (any_step (f := odd) HI.out (0, 0) (by rw [HEe.out]; exact HBB.out) HA.out)
        go_wp2_with (fail)
        refine K.out.mono ?_
        rintro e w1 ⟨rfl, hb⟩
        have HB1 := Aside0.mk (below_step HB.out hb)
        clear hb
        go_wp2
        go_roundg (gk - 1)
        case measure => have := HJ.out; have := HI.out; omega
        case rel => exact ⟨i + 1, congrArg _ HE5.out, ⟨by have := HJ.out; have := HI.out; omega⟩, HT, HB1⟩
    · have e1 : decide (i < E.length) = false := decide_eq_false c1
      have HI := Aside0.mk c1
      go_wp2
      go_ret
      refine ⟨-1, rfl, ?_, HB.out⟩
      have := HA.out
      rw [List.take_of_length_le (by have := HI.out; omega)] at this
      exact this.symm
theorem ContainsFuncS_T (E : List Stp) (A : Option Addr) (c : Nat) (w : World) (h : Kd.C kP w A E.length E) (hE : E.length ≤ 1000000000000) :
    Calls Tryd.prog 82 #[.slice A E.length c, .func (.func 83) #[] #[]] w fun e w' => e = .returned (.bool (E.any odd)) ∧ Below w.heap.size w w' := by
  have K := Aside0.mk (IndexFuncS_T E A c w h hE)
  clear h hE
  go_enter Tryd.func82, Tryd.ntmps82
  go_wp2_with (fail)
  refine K.out.mono ?_
  rintro e w1 ⟨r, rfl, hr, hb⟩
  have HR := Aside0.mk hr
  have HB := Aside0.mk hb
  clear hr hb
  go_wp2
  go_ret
  exact ⟨by rw [← HR.out]; rfl, HB.out⟩
end Go.Proofs.YtplhihakeodadaaDoor.Sg
