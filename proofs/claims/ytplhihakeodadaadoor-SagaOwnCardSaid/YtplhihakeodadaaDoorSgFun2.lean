/- saga: formed, Ends, Top, Marks, May, walked. -/
import Derived.Test.YtplhihakeodadaaDoorSgFun
namespace Go.Proofs.YtplhihakeodadaaDoor.Sg
open Go Go.RowKit Go.Proofs.YtplhihakeodadaaDoorW.PrintWords Go.Proofs.YtplhihakeodadaaDoorW.PrintLast Go.Proofs.YtplhihakeodadaaDoorW.PrintMore
set_option linter.unusedVariables false
set_option linter.unusedSimpArgs false
set_option maxHeartbeats 8000000 in
set_option maxRecDepth 20000 in
theorem formed_T (U : PV) (r : RR) (w : World) (h : PlC w U r.pl) (hp : okPlan r.pl = true) :
    Calls Tryd.prog 41 #[.agg (rrv U r)] w fun e w' => e = .returned (.bool (formed r)) ∧ Below w.heap.size w w' := by
  obtain ⟨k, st, p⟩ := r
  dsimp only at h hp
  have hb := below_alloc (Below.refl w.heap.size w) (.cells (rrv U ⟨k, st, p⟩) 39)
  have HB := Aside0.mk hb
  have K := Aside0.mk (bare_T U p (w.alloc (.cells (rrv U ⟨k, st, p⟩) 39)) (h.below hb) hp)
  have HG := Aside0.mk (heap_last w (.cells (rrv U ⟨k, st, p⟩) 39))
  have KS := Aside0.mk (fun W => stepped_T k W)
  obtain ⟨f, t, s', b⟩ := U
  unfold rrv at K HG HB ⊢
  unfold plv at K
  dsimp only at K HG HB ⊢
  obtain ⟨⟨Af, cf, e1, _⟩, ⟨At, ct, e2, _⟩, ⟨As, cs, e3, _⟩, ⟨Ab, cb, e4, _⟩⟩ := h
  dsimp only at e1 e2 e3 e4
  subst e1 e2 e3 e4
  clear hb hp
  unfold formed
  dsimp only
  rw [Bool.decide_and]
  by_cases q1 : 1 ≤ k
  · by_cases q2 : k ≤ 8
    · rw [decide_eq_true q1, decide_eq_true q2]
      by_cases q3 : k = 1
      · subst q3
        have hst : stepped 1 = false := rfl
        rw [hst] at KS ⊢
        have K1 := Aside0.mk (KS.out (w.alloc (.cells #[.int .i64 1, .int .i64 st, .slice Af p.1.length cf, .slice At p.2.1.length ct, .slice As p.2.2.1.length cs, .slice Ab p.2.2.2.length cb] 39)))
        clear hst q1 q2 K KS
        go_enter Tryd.func41, Tryd.ntmps41
        go_wp2_with (fail)
        refine K1.out.mono ?_
        rintro e w1 ⟨rfl, rfl⟩
        go_wp2
        go_ret
        exact ⟨by simp, HB.out⟩
      · have b3 : (k == 1) = false := by simpa using q3
        rw [b3]
        obtain ⟨B, hB⟩ : ∃ B, bare p = B := ⟨_, rfl⟩
        rw [hB] at K ⊢
        clear hB q3
        cases B with
        | false =>
          clear KS
          go_enter Tryd.func41, Tryd.ntmps41
          go_wp2_with (fail)
          refine K.out.mono ?_
          rintro e w1 ⟨rfl, hb⟩
          have HB1 := Aside0.mk (below_step HB.out hb)
          clear hb
          go_wp2
          go_ret
          exact ⟨by simp, HB1.out⟩
        | true =>
          obtain ⟨S, hS⟩ : ∃ B, stepped k = B := ⟨_, rfl⟩
          rw [hS] at KS ⊢
          clear hS
          cases S with
          | true =>
            go_enter Tryd.func41, Tryd.ntmps41
            go_wp2_with (fail)
            refine K.out.mono ?_
            rintro e w1 ⟨rfl, hb⟩
            have HB1 := Aside0.mk (below_step HB.out hb)
            have hg0 := (blk_cell (blk_below HG.out hb)) 0
            have hg1 := (blk_cell (blk_below HG.out hb)) 1
            clear hb
            go_wp2_with (fail)
            refine (KS.out w1).mono ?_
            rintro e w2 ⟨rfl, rfl⟩
            go_wp2
            go_ret
            exact ⟨by simp, HB1.out⟩
          | false =>
            go_enter Tryd.func41, Tryd.ntmps41
            go_wp2_with (fail)
            refine K.out.mono ?_
            rintro e w1 ⟨rfl, hb⟩
            have HB1 := Aside0.mk (below_step HB.out hb)
            have hg0 := (blk_cell (blk_below HG.out hb)) 0
            have hg1 := (blk_cell (blk_below HG.out hb)) 1
            clear hb
            go_wp2_with (fail)
            refine (KS.out w1).mono ?_
            rintro e w2 ⟨rfl, rfl⟩
            go_wp2
            go_ret
            exact ⟨by simp, HB1.out⟩
    · rw [decide_eq_true q1, decide_eq_false q2]
      clear K KS
      go_enter Tryd.func41, Tryd.ntmps41
      go_wp2
      go_ret
      exact ⟨by simp, HB.out⟩
  · rw [decide_eq_false q1]
    clear K KS
    go_enter Tryd.func41, Tryd.ntmps41
    go_wp2
    go_ret
    exact ⟨by simp, HB.out⟩
end Go.Proofs.YtplhihakeodadaaDoor.Sg
