/- saga: May, walked. -/
import Derived.Test.YtplhihakeodadaaDoorSgFun4
namespace Go.Proofs.YtplhihakeodadaaDoor.Sg
open Go Go.RowKit Go.Proofs.YtplhihakeodadaaDoorW.PrintWords Go.Proofs.YtplhihakeodadaaDoorW.PrintLast Go.Proofs.YtplhihakeodadaaDoorW.PrintMore
set_option linter.unusedVariables false
set_option linter.unusedSimpArgs false
set_option maxHeartbeats 8000000 in
set_option maxRecDepth 20000 in
theorem May_T (V : SV) (s : SS) (k : Int) (w : World) (h : StC w V s) (hp : okPlan s.pl = true) (ho : s.op.length ≤ 1000000000) (hd : s.dn.length ≤ 1000000000) :
    Calls Tryd.prog 20 #[.agg (stv V s), .int .i64 k] w fun e w' => e = .returned (.bool (may s k)) ∧ Below w.heap.size w w' := by
  obtain ⟨Af, cf, At, ct, As, cs, Ab, cb, Ao, co, Ad, cd, hst, hs, hbf, hop, hdn, _⟩ := h.opened
  rw [hst]
  obtain ⟨l1, l2, l3, l4⟩ := okPlan_le hp
  obtain ⟨num, ph, p, op, dn⟩ := s
  dsimp only at ho hd hop hdn hs hbf l1 l2 l3 l4 ⊢
  clear hst h hp
  obtain ⟨o, hO⟩ : ∃ o, Obj.cells #[.int .i64 num, .int .i64 ph, .slice Af p.1.length cf, .slice At p.2.1.length ct, .slice As p.2.2.1.length cs, .slice Ab p.2.2.2.length cb, .slice Ao op.length co, .slice Ad dn.length cd] 34 = o := ⟨_, rfl⟩
  have hb := below_alloc (below_alloc (Below.refl w.heap.size w) o) (.cells #[.int .i64 k] 3)
  have hg := blk_alloc (heap_last w o) (.cells #[.int .i64 k] 3)
  have hl := heap_last (w.alloc o) (.cells #[.int .i64 k] 3)
  rw [World.size_alloc] at hl
  obtain ⟨W, hW⟩ : ∃ W, (w.alloc o).alloc (.cells #[.int .i64 k] 3) = W := ⟨_, rfl⟩
  rw [hW] at hb hg hl
  subst hO
  have HB := Aside0.mk hb
  have HG := Aside0.mk hg
  have HK := Aside0.mk hl
  have HS := Aside0.mk (Kd.C_below hs hb)
  have HF := Aside0.mk (Kd.C_below hbf hb)
  have HO := Aside0.mk (Kd.C_below hop hb)
  have HD := Aside0.mk (Kd.C_below hdn hb)
  have HLD := Aside0.mk hd
  have KO := Aside0.mk (Contains_T op Ao co k W HO.out (by omega))
  have KD := Aside0.mk (Contains_T dn Ad cd k W HD.out (by omega))
  have hg1 := (blk_cell hg) 1
  have hg4 := (blk_cell hg) 4
  have hg5 := (blk_cell hg) 5
  have hg6 := (blk_cell hg) 6
  have hg7 := (blk_cell hg) 7
  have hl0 := (blk_cell hl) 0
  have HL3 := Aside0.mk l3
  have HL4 := Aside0.mk l4
  clear hb hg hl hs hbf hop hdn ho hd l1 l2 l3 l4
  unfold may
  dsimp only
  by_cases q1 : 0 ≤ k
  · by_cases q2 : k < p.2.2.1.length
    · rw [decide_eq_true (⟨q1, q2⟩ : 0 ≤ k ∧ k < p.2.2.1.length)]
      obtain ⟨k, rfl⟩ := Int.eq_ofNat_of_zero_le q1
      rw [Int.toNat_natCast]
      have q3 : k < p.2.2.1.length := by omega
      obtain ⟨ad, ea, hx, hy⟩ := at_stp HS.out k q3
      cases ea
      obtain ⟨e, he⟩ : ∃ e, p.2.2.1.getD k (0, 0) = e := ⟨_, rfl⟩
      rw [he] at hx hy ⊢
      have KL := Aside0.mk (last_T e W)
      obtain ⟨L, hL⟩ : ∃ B, isLast e = B := ⟨_, rfl⟩
      rw [hL] at KL ⊢
      obtain ⟨x, y⟩ := e
      dsimp only at hx hy
      obtain ⟨BO, hBO⟩ : ∃ B, op.contains (k : Int) = B := ⟨_, rfl⟩
      rw [hBO] at KO ⊢
      clear he hL hBO q1
      cases BO with
      | true =>
        rw [Bool.not_true, Bool.and_false, Bool.false_and, Bool.false_and, Bool.false_and]
        go_enter Tryd.func20, Tryd.ntmps20
        go_wp2_with (fail)
        refine KO.out.mono ?_
        rintro e w1 ⟨rfl, rfl⟩
        go_wp2
        go_ret
        exact ⟨rfl, HB.out⟩
      | false =>
        obtain ⟨BD, hBD⟩ : ∃ B, dn.contains (k : Int) = B := ⟨_, rfl⟩
        rw [hBD] at KD ⊢
        clear hBD
        cases BD with
        | true =>
          rw [Bool.not_true, Bool.and_false, Bool.false_and, Bool.false_and]
          go_enter Tryd.func20, Tryd.ntmps20
          go_wp2_with (fail)
          refine KO.out.mono ?_
          rintro e w1 ⟨rfl, rfl⟩
          go_wp2_with (fail)
          refine KD.out.mono ?_
          rintro e w1 ⟨rfl, rfl⟩
          go_wp2
          go_ret
          exact ⟨rfl, HB.out⟩
        | false =>
          rw [Bool.not_false, Bool.and_true, Bool.and_true, Bool.true_and]
          have KE := Aside0.mk (fun W' (hb : Below W.heap.size W W') => ContainsFuncE_T p.2.2.2 Ab cb (k : Int) (w.heap.size + 1) w.heap.size dn Ad cd W' (Kd.C_below HF.out hb) (by have := HL4.out; omega) ((blk_cell (blk_below HK.out hb)) 0) ((blk_cell (blk_below HG.out hb)) 7) (Kd.C_below HD.out hb) (by have := HLD.out; omega))
          obtain ⟨BE, hBE⟩ : ∃ B, p.2.2.2.any (bars (k : Int) dn) = B := ⟨_, rfl⟩
          rw [hBE] at KE ⊢
          clear hBE
          by_cases qp : (if L = true then (ph == 3) else (ph == 1)) = true
          · rw [qp, Bool.true_and]
            cases L with
            | true =>
              have qq : ph = 3 := by simpa using qp
              subst qq
              clear qp
              go_enter Tryd.func20, Tryd.ntmps20
              go_wp2_with (fail)
              refine KO.out.mono ?_
              rintro e w1 ⟨rfl, rfl⟩
              go_wp2_with (fail)
              refine KD.out.mono ?_
              rintro e w1 ⟨rfl, rfl⟩
              go_wp2_with (fail)
              refine KL.out.mono ?_
              rintro e w1 ⟨rfl, hb⟩
              have HB1 := Aside0.mk (below_step HB.out hb)
              have hk1 := (blk_cell (blk_below HG.out hb)) 1
              have hk5 := (blk_cell (blk_below HG.out hb)) 5
              have K5 := Aside0.mk (KE.out _ hb)
              clear hb
              go_wp2_with (fail)
              refine K5.out.mono ?_
              rintro e w2 ⟨rfl, hb⟩
              have HB2 := Aside0.mk (below_step HB1.out hb)
              clear hb
              go_wp2
              go_ret
              exact ⟨rfl, HB2.out⟩
            | false =>
              have qq : ph = 1 := by simpa using qp
              subst qq
              clear qp
              go_enter Tryd.func20, Tryd.ntmps20
              go_wp2_with (fail)
              refine KO.out.mono ?_
              rintro e w1 ⟨rfl, rfl⟩
              go_wp2_with (fail)
              refine KD.out.mono ?_
              rintro e w1 ⟨rfl, rfl⟩
              go_wp2_with (fail)
              refine KL.out.mono ?_
              rintro e w1 ⟨rfl, hb⟩
              have HB1 := Aside0.mk (below_step HB.out hb)
              have hk1 := (blk_cell (blk_below HG.out hb)) 1
              have hk5 := (blk_cell (blk_below HG.out hb)) 5
              have K5 := Aside0.mk (KE.out _ hb)
              clear hb
              go_wp2_with (fail)
              refine K5.out.mono ?_
              rintro e w2 ⟨rfl, hb⟩
              have HB2 := Aside0.mk (below_step HB1.out hb)
              clear hb
              go_wp2
              go_ret
              exact ⟨rfl, HB2.out⟩
          · have qf : (if L = true then (ph == 3) else (ph == 1)) = false := Bool.eq_false_iff.2 qp
            rw [qf, Bool.false_and]
            clear qp KE
            cases L with
            | true =>
              have b3 : (ph == 3) = false := qf
              by_cases q1 : ph = 1
              · subst q1
                clear qf b3
                go_enter Tryd.func20, Tryd.ntmps20
                go_wp2_with (fail)
                refine KO.out.mono ?_
                rintro e w1 ⟨rfl, rfl⟩
                go_wp2_with (fail)
                refine KD.out.mono ?_
                rintro e w1 ⟨rfl, rfl⟩
                go_wp2_with (fail)
                refine KL.out.mono ?_
                rintro e w1 ⟨rfl, hb⟩
                have HB1 := Aside0.mk (below_step HB.out hb)
                have hk1 := (blk_cell (blk_below HG.out hb)) 1
                clear hb
                go_wp2
                go_ret
                exact ⟨rfl, HB1.out⟩
              · have b1 : (ph == 1) = false := by simpa using q1
                clear qf q1
                go_enter Tryd.func20, Tryd.ntmps20
                go_wp2_with (fail)
                refine KO.out.mono ?_
                rintro e w1 ⟨rfl, rfl⟩
                go_wp2_with (fail)
                refine KD.out.mono ?_
                rintro e w1 ⟨rfl, rfl⟩
                go_wp2_with (fail)
                refine KL.out.mono ?_
                rintro e w1 ⟨rfl, hb⟩
                have HB1 := Aside0.mk (below_step HB.out hb)
                have hk1 := (blk_cell (blk_below HG.out hb)) 1
                clear hb
                go_wp2
                go_ret
                exact ⟨rfl, HB1.out⟩
            | false =>
              have b1 : (ph == 1) = false := qf
              by_cases q1 : ph = 3
              · subst q1
                clear qf b1
                go_enter Tryd.func20, Tryd.ntmps20
                go_wp2_with (fail)
                refine KO.out.mono ?_
                rintro e w1 ⟨rfl, rfl⟩
                go_wp2_with (fail)
                refine KD.out.mono ?_
                rintro e w1 ⟨rfl, rfl⟩
                go_wp2_with (fail)
                refine KL.out.mono ?_
                rintro e w1 ⟨rfl, hb⟩
                have HB1 := Aside0.mk (below_step HB.out hb)
                have hk1 := (blk_cell (blk_below HG.out hb)) 1
                clear hb
                go_wp2
                go_ret
                exact ⟨rfl, HB1.out⟩
              · have b3 : (ph == 3) = false := by simpa using q1
                clear qf q1
                go_enter Tryd.func20, Tryd.ntmps20
                go_wp2_with (fail)
                refine KO.out.mono ?_
                rintro e w1 ⟨rfl, rfl⟩
                go_wp2_with (fail)
                refine KD.out.mono ?_
                rintro e w1 ⟨rfl, rfl⟩
                go_wp2_with (fail)
                refine KL.out.mono ?_
                rintro e w1 ⟨rfl, hb⟩
                have HB1 := Aside0.mk (below_step HB.out hb)
                have hk1 := (blk_cell (blk_below HG.out hb)) 1
                clear hb
                go_wp2
                go_ret
                exact ⟨rfl, HB1.out⟩
    · rw [decide_eq_false (fun h => q2 h.2)]
      rw [Bool.false_and, Bool.false_and, Bool.false_and, Bool.false_and]
      go_enter Tryd.func20, Tryd.ntmps20
      go_wp2
      go_ret
      exact ⟨rfl, HB.out⟩
  · rw [decide_eq_false (fun h => q1 h.1)]
    rw [Bool.false_and, Bool.false_and, Bool.false_and, Bool.false_and]
    go_enter Tryd.func20, Tryd.ntmps20
    go_wp2
    go_ret
    exact ⟨rfl, HB.out⟩
end Go.Proofs.YtplhihakeodadaaDoor.Sg
