/- digraph: Check, ahead, ready, walked. -/
import Derived.Test.YtplhihakeodadaaDoorSgDrop
import Derived.RegionTactic
import Derived.BigRegion
import Derived.Deep.RegionLaw
import Derived.WalkMore
namespace Go.Proofs.YtplhihakeodadaaDoor.Sg
open Go Go.RowKit Go.Proofs.YtplhihakeodadaaDoorW.PrintWords Go.Proofs.YtplhihakeodadaaDoorW.PrintLast Go.Proofs.YtplhihakeodadaaDoorW.PrintMore
set_option linter.unusedVariables false
set_option linter.unusedSimpArgs false
def okEdge (N : Int) (e : Stp) : Bool := decide ((0 ≤ e.1 ∧ e.1 < N) ∧ (0 ≤ e.2 ∧ e.2 < N))
/-- A graph, as the program and the document have it. -/
def rightG (N : Int) (E : List Stp) : Bool := decide (0 ≤ N ∧ N ≤ 64 ∧ E.length ≤ 4096) && E.all (okEdge N)
def checkG (N : Int) (E : List Stp) : Int := if rightG N E then 0 else 20
set_option maxHeartbeats 4000000 in
set_option maxRecDepth 20000 in
theorem Check_T (N : Int) (E : List Stp) (A : Option Addr) (c : Nat) (w : World) (h : Kd.C kP w A E.length E) (hl : E.length ≤ 1000000000000) (hN : -9223372036854775808 ≤ N ∧ N < 9223372036854775808) :
    Calls Tryd.prog 75 #[.agg #[.int .i64 N, .slice A E.length c]] w fun e w' => e = .returned (.int .i64 (checkG N E)) ∧ Below w.heap.size w w' := by
  have HC := Aside0.mk h
  have HL := Aside0.mk hl
  obtain ⟨hN1, hN2⟩ := hN
  have HB0 := Aside0.mk (below_alloc (Below.refl w.heap.size w) (.cells #[.int .i64 N, .slice A E.length c] 62))
  have HG0 := Aside0.mk (heap_last w (.cells #[.int .i64 N, .slice A E.length c] 62))
  have hg0 := (blk_cell HG0.out) 0
  have hg1 := (blk_cell HG0.out) 1
  clear h hl
  by_cases q : 0 ≤ N ∧ N ≤ 64 ∧ E.length ≤ 4096
  · have HQ := Aside0.mk q
    obtain ⟨q1, q2, q3⟩ := q
    go_enter Tryd.func75, Tryd.ntmps75
    go_wp2
    go_loopg [22] E.length (fun kq v22 w' => ∃ (i : Nat), v22 = .int .i64 (i : Int) ∧ Aside0 (i + kq = E.length) ∧ Aside0 ((E.take i).all (okEdge N) = true) ∧ Aside0 (w'.heap[w.heap.size]? = some (.cells #[.int .i64 N, .slice A E.length c] 62 (0, 0))) ∧ Aside0 (Below w.heap.size w w'))
    case atStart => exact ⟨0, rfl, ⟨by omega⟩, ⟨rfl⟩, HG0, HB0⟩
    case round =>
      clear hg0 hg1
      obtain ⟨i, rfl, HJ, HA, HG, HB⟩ := hrel
      have hg0 := (blk_cell HG.out) 0
      have hg1 := (blk_cell HG.out) 1
      by_cases c1 : i < E.length
      · have e1 : decide (i < E.length) = true := decide_eq_true c1
        have HE5 : Aside0 (wrap64 ((i : Int) + 1) = ((i + 1 : Nat) : Int)) := ⟨by have := HL.out; unfold wrap64; omega⟩
        obtain ⟨ad, ea, hx, hy⟩ := at_stp HC.out i c1
        cases ea
        replace hx := pw_cell_below HB.out hx
        replace hy := pw_cell_below HB.out hy
        obtain ⟨e, he⟩ : ∃ e, E.getD i (0, 0) = e := ⟨_, rfl⟩
        rw [he] at hx hy
        have HEe := Aside0.mk he
        have HI := Aside0.mk c1
        have HB2 := Aside0.mk (below_alloc HB.out (.cells #[.int .i64 e.1, .int .i64 e.2] 74))
        have HG2 := Aside0.mk (blk_alloc HG.out (.cells #[.int .i64 e.1, .int .i64 e.2] 74))
        clear he
        obtain ⟨a, b⟩ := e
        dsimp only at hx hy
        have hg2 := (blk_cell HG2.out) 0
        by_cases q : okEdge N (a, b) = true
        · have HT := Aside0.mk (all_step (f := okEdge N) HI.out (0, 0) (by rw [HEe.out]; exact q) HA.out)
          unfold okEdge at q
          rw [decide_eq_true_eq] at q
          obtain ⟨⟨p1, p2⟩, ⟨p3, p4⟩⟩ := q
          dsimp only at p1 p2 p3 p4
          by_cases q5 : a < b
          · have q6 : ¬ b < a := by omega
            go_wp2
            go_roundg (gk - 1)
            case measure => have := HJ.out; have := HI.out; omega
            case rel => exact ⟨i + 1, (by first | exact congrArg _ HE5.out | rfl), ⟨by have := HJ.out; have := HI.out; omega⟩, HT, HG2, HB2⟩
          · by_cases q6 : b < a
            · go_wp2
              go_roundg (gk - 1)
              case measure => have := HJ.out; have := HI.out; omega
              case rel => exact ⟨i + 1, (by first | exact congrArg _ HE5.out | rfl), ⟨by have := HJ.out; have := HI.out; omega⟩, HT, HG2, HB2⟩
            · go_wp2
              go_roundg (gk - 1)
              case measure => have := HJ.out; have := HI.out; omega
              case rel => exact ⟨i + 1, (by first | exact congrArg _ HE5.out | rfl), ⟨by have := HJ.out; have := HI.out; omega⟩, HT, HG2, HB2⟩
        · have HF := Aside0.mk (show checkG N E = 20 by unfold checkG rightG; rw [all_bad (f := okEdge N) HI.out (0, 0) (by rw [HEe.out]; simpa using q), Bool.and_false]; rfl)
          unfold okEdge at q
          rw [decide_eq_true_eq] at q
          dsimp only at q
          by_cases q5 : a < b
          · have q6 : ¬ b < a := by omega
            by_cases q7 : a < 0
            · clear q
              go_wp2
              go_ret
              exact ⟨by rw [HF.out]; rfl, HB2.out⟩
            · have q8 : N ≤ b := by omega
              clear q
              go_wp2
              go_ret
              exact ⟨by rw [HF.out]; rfl, HB2.out⟩
          · by_cases q6 : b < a
            · by_cases q7 : b < 0
              · clear q
                go_wp2
                go_ret
                exact ⟨by rw [HF.out]; rfl, HB2.out⟩
              · have q8 : N ≤ a := by omega
                clear q
                go_wp2
                go_ret
                exact ⟨by rw [HF.out]; rfl, HB2.out⟩
            · by_cases q7 : a < 0
              · clear q
                go_wp2
                go_ret
                exact ⟨by rw [HF.out]; rfl, HB2.out⟩
              · have q8 : N ≤ a := by omega
                have q9 : N ≤ b := by omega
                clear q
                go_wp2
                go_ret
                exact ⟨by rw [HF.out]; rfl, HB2.out⟩
      · have e1 : decide (i < E.length) = false := decide_eq_false c1
        have HI := Aside0.mk c1
        go_wp2
        go_ret
        refine ⟨?_, HB.out⟩
        have := HA.out
        rw [List.take_of_length_le (by have := HI.out; omega)] at this
        unfold checkG rightG
        rw [this, decide_eq_true HQ.out]
        rfl
  · have HQ := Aside0.mk q
    have hc : checkG N E = 20 := by unfold checkG rightG; rw [decide_eq_false q]; rfl
    rw [hc]
    by_cases q1 : N < 0
    · clear q
      go_enter Tryd.func75, Tryd.ntmps75
      go_wp2
      go_ret
      exact ⟨rfl, HB0.out⟩
    · by_cases q2 : 64 < N
      · clear q
        go_enter Tryd.func75, Tryd.ntmps75
        go_wp2
        go_ret
        exact ⟨rfl, HB0.out⟩
      · have q3 : 4096 < E.length := by omega
        clear q
        go_enter Tryd.func75, Tryd.ntmps75
        go_wp2
        go_ret
        exact ⟨rfl, HB0.out⟩
end Go.Proofs.YtplhihakeodadaaDoor.Sg
