/- saga: Ends, Top, Marks, walked. -/
import Derived.Test.YtplhihakeodadaaDoorSgFun2
namespace Go.Proofs.YtplhihakeodadaaDoor.Sg
open Go Go.RowKit Go.Proofs.YtplhihakeodadaaDoorW.PrintWords Go.Proofs.YtplhihakeodadaaDoorW.PrintLast Go.Proofs.YtplhihakeodadaaDoorW.PrintMore
set_option linter.unusedVariables false
set_option linter.unusedSimpArgs false
/-- A state's cells, opened. -/
theorem StC.opened {w : World} {V : SV} {s : SS} (h : StC w V s) : ∃ Af cf At ct As cs Ab cb Ao co Ad cd, stv V s = #[.int .i64 s.num, .int .i64 s.ph, .slice Af s.pl.1.length cf, .slice At s.pl.2.1.length ct, .slice As s.pl.2.2.1.length cs, .slice Ab s.pl.2.2.2.length cb, .slice Ao s.op.length co, .slice Ad s.dn.length cd] ∧
    Kd.C kP w As s.pl.2.2.1.length s.pl.2.2.1 ∧ Kd.C kP w Ab s.pl.2.2.2.length s.pl.2.2.2 ∧ Kd.C kI w Ao s.op.length s.op ∧ Kd.C kI w Ad s.dn.length s.dn ∧ s.op.length ≤ co ∧ s.dn.length ≤ cd := by
  obtain ⟨⟨⟨Af, cf, e1, _⟩, ⟨At, ct, e2, _⟩, ⟨As, cs, e3, _, hs⟩, ⟨Ab, cb, e4, _, hb⟩⟩, ⟨Ao, co, e5, l5, ho⟩, ⟨Ad, cd, e6, l6, hd⟩⟩ := h
  refine ⟨Af, cf, At, ct, As, cs, Ab, cb, Ao, co, Ad, cd, ?_, hs, hb, ho, hd, l5, l6⟩
  unfold stv
  rw [e1, e2, e3, e4, e5, e6]
set_option maxHeartbeats 8000000 in
set_option maxRecDepth 20000 in
theorem Ends_T (V : SV) (s : SS) (w : World) (h : StC w V s) (hp : okPlan s.pl = true) (ho : s.op.length ≤ 1000000000) (hd : s.dn.length ≤ 1000000000) :
    Calls Tryd.prog 22 #[.agg (stv V s)] w fun e w' => e = .returned (.bool (ends s)) ∧ Below w.heap.size w w' := by
  obtain ⟨Af, cf, At, ct, As, cs, Ab, cb, Ao, co, Ad, cd, hst, _⟩ := h.opened
  rw [hst]
  have HB := Aside0.mk (below_alloc (Below.refl w.heap.size w) (.cells #[.int .i64 s.num, .int .i64 s.ph, .slice Af s.pl.1.length cf, .slice At s.pl.2.1.length ct, .slice As s.pl.2.2.1.length cs, .slice Ab s.pl.2.2.2.length cb, .slice Ao s.op.length co, .slice Ad s.dn.length cd] 34))
  obtain ⟨l1, l2, l3, l4⟩ := okPlan_le hp
  obtain ⟨num, ph, p, op, dn⟩ := s
  dsimp only at HB ho hd l1 l2 l3 l4 ⊢
  clear hst h hp
  by_cases q1 : ph = 3
  · subst q1
    have HE : Aside0 (ends ⟨num, 3, p, op, dn⟩ = decide (dn.length = p.2.2.1.length)) := ⟨by unfold ends; rw [if_pos rfl]⟩
    go_enter Tryd.func22, Tryd.ntmps22
    go_wp2
    go_ret
    refine ⟨?_, HB.out⟩
    rw [HE.out]
    have : ((dn.length : Int) == (p.2.2.1.length : Int)) = decide (dn.length = p.2.2.1.length) := by rw [Bool.eq_iff_iff]; simp; omega
    first | (rw [← this]; rfl) | simp
  · have b1 : (ph == 3) = false := by simpa using q1
    by_cases q2 : ph = 2
    · subst q2
      have HE : Aside0 (ends ⟨num, 2, p, op, dn⟩ = ((op.length : Int) + (dn.length : Int) == 0)) := ⟨by unfold ends; dsimp only; rw [if_neg (show ¬ (2 : Int) = 3 by decide), if_pos rfl, Bool.eq_iff_iff, beq_iff_eq, decide_eq_true_eq]; omega⟩
      clear b1 q1
      go_enter Tryd.func22, Tryd.ntmps22
      go_wp2
      go_ret
      refine ⟨?_, HB.out⟩
      rw [HE.out]
      rfl
    · have b2 : (ph == 2) = false := by simpa using q2
      have HE : Aside0 (ends ⟨num, ph, p, op, dn⟩ = false) := ⟨by unfold ends; rw [if_neg q1, if_neg q2]⟩
      clear q1 q2
      go_enter Tryd.func22, Tryd.ntmps22
      go_wp2
      go_ret
      refine ⟨?_, HB.out⟩
      rw [HE.out]
      rfl
set_option maxHeartbeats 8000000 in
set_option maxRecDepth 20000 in
theorem Marks_T (V : SV) (s : SS) (w : World) (h : StC w V s) (hp : okPlan s.pl = true) (hd : s.dn.length ≤ 1000000000) :
    Calls Tryd.prog 19 #[.agg (stv V s)] w fun e w' => e = .returned (.bool (marks s)) ∧ Below w.heap.size w w' := by
  obtain ⟨Af, cf, At, ct, As, cs, Ab, cb, Ao, co, Ad, cd, hst, hs, hb, ho, hdn, _⟩ := h.opened
  rw [hst]
  have HB0 := Aside0.mk (below_alloc (Below.refl w.heap.size w) (.cells #[.int .i64 s.num, .int .i64 s.ph, .slice Af s.pl.1.length cf, .slice At s.pl.2.1.length ct, .slice As s.pl.2.2.1.length cs, .slice Ab s.pl.2.2.2.length cb, .slice Ao s.op.length co, .slice Ad s.dn.length cd] 34))
  have HG0 := Aside0.mk (heap_last w (.cells #[.int .i64 s.num, .int .i64 s.ph, .slice Af s.pl.1.length cf, .slice At s.pl.2.1.length ct, .slice As s.pl.2.2.1.length cs, .slice Ab s.pl.2.2.2.length cb, .slice Ao s.op.length co, .slice Ad s.dn.length cd] 34))
  obtain ⟨l1, l2, l3, l4⟩ := okPlan_le hp
  obtain ⟨num, ph, p, op, dn⟩ := s
  dsimp only at HB0 HG0 hd l1 l2 l3 l4 hs hdn ⊢
  have HS := Aside0.mk hs
  have HD := Aside0.mk hdn
  have HL := Aside0.mk hd
  have HL3 := Aside0.mk l3
  have hg1 := (blk_cell HG0.out) 1
  have hg4 := (blk_cell HG0.out) 4
  clear hst h hp hs hdn ho hb
  go_enter Tryd.func19, Tryd.ntmps19
  go_wp2
  go_loopg [3, 4, 9] p.2.2.1.length (fun kq v3 v4 v9 w' => ∃ (i : Nat), v9 = .int .i64 (i : Int) ∧ Aside0 (i + kq = p.2.2.1.length) ∧ Aside0 (∀ k, k < i → (isLast (p.2.2.1.getD k (0, 0)) || dn.contains (k : Int)) = true) ∧ Aside0 (w'.heap[w.heap.size]? = some (.cells #[.int .i64 num, .int .i64 ph, .slice Af p.1.length cf, .slice At p.2.1.length ct, .slice As p.2.2.1.length cs, .slice Ab p.2.2.2.length cb, .slice Ao op.length co, .slice Ad dn.length cd] 34 (0, 0))) ∧ Aside0 (Below w.heap.size w w'))
  case atStart => exact ⟨0, rfl, ⟨by omega⟩, ⟨fun k hk => by omega⟩, HG0, HB0⟩
  case round =>
    clear hg1 hg4 HG0 HB0
    obtain ⟨i, rfl, HJ, HA, HG, HB⟩ := hrel
    have hg1 := (blk_cell HG.out) 1
    by_cases c1 : i < p.2.2.1.length
    · have e1 : decide (i < p.2.2.1.length) = true := decide_eq_true c1
      have HE5 : Aside0 (wrap64 ((i : Int) + 1) = ((i + 1 : Nat) : Int)) := ⟨by have := HL3.out; unfold wrap64; omega⟩
      obtain ⟨ad, ea, hx, hy⟩ := at_stp HS.out i c1
      cases ea
      replace hx := pw_cell_below HB.out hx
      replace hy := pw_cell_below HB.out hy
      obtain ⟨e, he⟩ : ∃ e, p.2.2.1.getD i (0, 0) = e := ⟨_, rfl⟩
      rw [he] at hx hy
      have HEe := Aside0.mk he
      have HI := Aside0.mk c1
      have hb2 := below_alloc (Below.refl wr.heap.size wr) (.cells #[.int .i64 e.1, .int .i64 e.2] 50)
      have HB2 := Aside0.mk (below_step HB.out hb2)
      have HG2 := Aside0.mk (blk_below HG.out hb2)
      have K := Aside0.mk (last_T e (wr.alloc (.cells #[.int .i64 e.1, .int .i64 e.2] 50)))
      have K2 := Aside0.mk (fun W (hb : Below w.heap.size w W) => Contains_T dn Ad cd (i : Int) W (Kd.C_below HD.out hb) (by have := HL.out; omega))
      obtain ⟨L, hL⟩ : ∃ B, isLast e = B := ⟨_, rfl⟩
      obtain ⟨D, hD⟩ : ∃ B, dn.contains (i : Int) = B := ⟨_, rfl⟩
      rw [hL] at K
      rw [hD] at K2
      have HLL := Aside0.mk hL
      have HDD := Aside0.mk hD
      clear he hL hD hb2
      obtain ⟨a, b⟩ := e
      dsimp only at hx hy
      cases L with
      | true =>
        have HT : Aside0 (∀ k, k < i + 1 → (isLast (p.2.2.1.getD k (0, 0)) || dn.contains (k : Int)) = true) := ⟨fun k hk => by
          by_cases q : k = i
          · subst q; rw [HEe.out, HLL.out]; rfl
          · exact HA.out k (by omega)⟩
        go_wp2_with (fail)
        refine K.out.mono ?_
        rintro e w1 ⟨rfl, hb⟩
        have HB3 := Aside0.mk (below_step HB2.out hb)
        have HG3 := Aside0.mk (blk_below HG2.out hb)
        clear hb
        go_wp2
        go_roundg (gk - 1)
        case measure => have := HJ.out; have := HI.out; omega
        case rel => exact ⟨i + 1, (by first | exact congrArg _ HE5.out | rfl), ⟨by have := HJ.out; have := HI.out; omega⟩, HT, HG3, HB3⟩
      | false =>
        go_wp2_with (fail)
        refine K.out.mono ?_
        rintro e w1 ⟨rfl, hb⟩
        have HB3 := Aside0.mk (below_step HB2.out hb)
        have HG3 := Aside0.mk (blk_below HG2.out hb)
        have hg7 := (blk_cell HG3.out) 7
        have K3 := Aside0.mk (K2.out _ HB3.out)
        clear hb K2
        cases D with
        | true =>
          have HT : Aside0 (∀ k, k < i + 1 → (isLast (p.2.2.1.getD k (0, 0)) || dn.contains (k : Int)) = true) := ⟨fun k hk => by
            by_cases q : k = i
            · subst q; rw [HDD.out, Bool.or_true]
            · exact HA.out k (by omega)⟩
          go_wp2_with (fail)
          refine K3.out.mono ?_
          rintro e w2 ⟨rfl, rfl⟩
          go_wp2
          go_roundg (gk - 1)
          case measure => have := HJ.out; have := HI.out; omega
          case rel => exact ⟨i + 1, (by first | exact congrArg _ HE5.out | rfl), ⟨by have := HJ.out; have := HI.out; omega⟩, HT, HG3, HB3⟩
        | false =>
          go_wp2_with (fail)
          refine K3.out.mono ?_
          rintro e w2 ⟨rfl, rfl⟩
          go_wp2
          go_ret
          refine ⟨?_, HB3.out⟩
          have hm : marks ⟨num, ph, p, op, dn⟩ = false := by
            unfold marks
            dsimp only
            rw [Bool.and_eq_false_iff]
            refine .inl ?_
            rw [List.all_eq_false]
            refine ⟨i, List.mem_range.2 HI.out, ?_⟩
            rw [HEe.out, HLL.out, HDD.out]
            simp
          rw [hm]
          rfl
    · have e1 : decide (i < p.2.2.1.length) = false := decide_eq_false c1
      have HI := Aside0.mk c1
      go_wp2
      go_ret
      refine ⟨?_, HB.out⟩
      have hm : marks ⟨num, ph, p, op, dn⟩ = (ph == 1) := by
        unfold marks
        dsimp only
        rw [List.all_eq_true.2 (fun k hk => HA.out k (by have := List.mem_range.1 hk; have := HI.out; omega)), Bool.true_and]
      rw [hm]
      rfl
end Go.Proofs.YtplhihakeodadaaDoor.Sg
