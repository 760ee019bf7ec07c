/- plan.Graph, saga.begins; slices.Grow, Concat of ints; Reached, walked. -/
import Derived.Test.YtplhihakeodadaaDoorSgFun
namespace Go.Proofs.YtplhihakeodadaaDoor.Sg
open Go Go.RowKit Go.Proofs.YtplhihakeodadaaDoorW.PrintWords Go.Proofs.YtplhihakeodadaaDoorW.PrintLast Go.Proofs.YtplhihakeodadaaDoorW.PrintMore
set_option linter.unusedVariables false
set_option linter.unusedSimpArgs false
set_option maxHeartbeats 8000000 in
set_option maxRecDepth 20000 in
theorem Graph_T (V : PV) (p : Pln) (w : World) (h : PlC w V p) (hp : okPlan p = true) :
    Calls Tryd.prog 81 #[.agg (plv V)] w fun e w' => ∃ A c, e = .returned (.agg #[.int .i64 (p.2.2.1.length : Int), .slice A p.2.2.2.length c]) ∧ Kd.C kP w' A p.2.2.2.length p.2.2.2 ∧ Below w.heap.size w w' := by
  obtain ⟨l1, l2, l3, l4⟩ := okPlan_le hp
  obtain ⟨f, t, st, b⟩ := V
  obtain ⟨h1, h2, h3, h4⟩ := h
  dsimp only at h1 h2 h3 h4
  unfold plv
  dsimp only
  have hb0 := below_alloc (below_alloc (Below.refl w.heap.size w) (.cells #[f, t, st, b] 26)) (.cells #[.int .i64 0, .slice none 0 0] 62)
  have HX := Aside0.mk (blk_alloc (heap_last w (.cells #[f, t, st, b] 26)) (.cells #[.int .i64 0, .slice none 0 0] 62))
  have hz := heap_last (w.alloc (.cells #[f, t, st, b] 26)) (.cells #[.int .i64 0, .slice none 0 0] 62)
  rw [World.size_alloc] at hz
  have HZ := Aside0.mk hz
  obtain ⟨W, hW⟩ : ∃ W, (w.alloc (.cells #[f, t, st, b] 26)).alloc (.cells #[.int .i64 0, .slice none 0 0] 62) = W := ⟨_, rfl⟩
  rw [hW] at hb0 HX HZ
  have HB := Aside0.mk hb0
  obtain ⟨Af, cf, rfl⟩ := h1.slice
  obtain ⟨At, ct, rfl⟩ := h2.slice
  obtain ⟨As, cs, rfl⟩ := h3.slice
  obtain ⟨Ab, cb, rfl⟩ := h4.slice
  have K := Aside0.mk (CloneE_S (h4.below (below_drew1 hb0)) (by omega))
  have hx2 := (blk_cell HX.out) 2
  have hx3 := (blk_cell HX.out) 3
  clear h1 h2 h3 h4 hb0 hp l1 l2 l3 l4 hz
  go_enter Tryd.func81, Tryd.ntmps81
  go_wp2
  replace HB := Aside0.mk (below_drew1 HB.out)
  replace HX := Aside0.mk (blk_drew HX.out)
  replace HZ := Aside0.mk (blk_drew HZ.out)
  clear hW
  go_region_held3 (fun w' => w'.cell? ⟨w.heap.size, 2, none⟩ = some (.slice As p.2.2.1.length cs) ∧ w'.cell? ⟨w.heap.size, 3, none⟩ = some (.slice Ab p.2.2.2.length cb)) (first | go_keep | exact ⟨hx2, hx3⟩)
    (first
      | (go_at_call 66; refine K.out.mono ?_; rintro e w4 ⟨v3, rfl, hr, hb⟩; have HB4 := Aside0.mk (below_step HB.out hb); have HX4 := Aside0.mk (blk_below HX.out hb); have HZ4 := Aside0.mk (blk_below HZ.out hb); have hy2 := (blk_cell HX4.out) 2; have hy3 := (blk_cell HX4.out) 3; have hq0 := (blk_cell HZ4.out) 0; have hq1 := (blk_cell HZ4.out) 1; have hf0 := free_of HZ4.out 0; have hf1 := free_of HZ4.out 1; have HR3 := Aside0.mk hr; obtain ⟨A3, d3, rfl⟩ := Kd.R_slice hr; clear K HX HZ HB hr hb))
  go_wp2
  refine bodyPost_ret (v := .agg #[.int .i64 (p.2.2.1.length : Int), .slice A3 p.2.2.2.length d3]) (by simp [results, Tryd.results81, go_sem, hq0, hq1]) rfl ?_
  refine ⟨A3, d3, rfl, ?_, ?_⟩
  · exact (Kd.R_reads' (Kd.R_set (Kd.R_set HR3.out HZ4.out (by decide) 0 _) (box_set HZ4.out _) (by decide) 1 _)).2.2
  · have hle : w.heap.size ≤ w.heap.size + 1 := Nat.le_succ _
    exact (HB4.out.setCell (p := ⟨w.heap.size + 1, 0, none⟩) hle _).setCell (p := ⟨w.heap.size + 1, 1, none⟩) hle _
set_option maxHeartbeats 8000000 in
set_option maxRecDepth 20000 in
theorem begins_T (V : PV) (p : Pln) (w : World) (hT : TabW w) (h : PlC w V p) (hp : okPlan p = true) :
    Calls Tryd.prog 63 #[.agg (plv V)] w fun e w' => e = .returned (.bool (begins p)) ∧ Below w.heap.size w w' := by
  obtain ⟨l1, l2, l3, l4⟩ := okPlan_le hp
  have hb := below_alloc (Below.refl w.heap.size w) (.cells (plv V) 26)
  have HB := Aside0.mk hb
  have HT := Aside0.mk (hT.below hb)
  have K := Aside0.mk (Graph_T V p (w.alloc (.cells (plv V) 26)) (h.below hb) hp)
  have HG := Aside0.mk (heap_last w (.cells (plv V) 26))
  have HPL := Aside0.mk (h.below hb)
  obtain ⟨f, t, s', b⟩ := V
  unfold plv at K HG HB HPL HT ⊢
  dsimp only at K HG HB HPL HT ⊢
  obtain ⟨⟨Af, cf, e1, _⟩, ⟨At, ct, e2, _⟩, ⟨As, cs, e3, _⟩, ⟨Ab, cb, e4, _⟩⟩ := h
  dsimp only at e1 e2 e3 e4
  subst e1 e2 e3 e4
  obtain ⟨A, c, e, _, hSt⟩ := HPL.out.2.2.1
  injection e with e1 e2 e3
  subst e1 e3
  have HSt := Aside0.mk hSt
  have HL3 := Aside0.mk l3
  have HL4 := Aside0.mk l4
  clear hb hp l1 l2 l3 l4 e2 hSt hT
  go_enter Tryd.func63, Tryd.ntmps63
  go_wp2_with (fail)
  refine K.out.mono ?_
  rintro e w1 ⟨A1, c1, rfl, hC, hb⟩
  have HB1 := Aside0.mk (below_step HB.out hb)
  have HG1 := Aside0.mk (blk_below HG.out hb)
  have HSt1 := Aside0.mk (Kd.C_below HSt.out hb)
  have K2 := Aside0.mk (Order_T (p.2.2.1.length : Int) p.2.2.2 A1 c1 w1 (HT.out.below hb) hC (by have := HL4.out; omega) (by have := HL3.out; omega))
  clear K hC hb
  go_wp2_with (fail)
  refine K2.out.mono ?_
  rintro e w2 ⟨v, rfl, hb⟩
  have HB2 := Aside0.mk (below_step HB1.out hb)
  have HG2 := Aside0.mk (blk_below HG1.out hb)
  have HSt2 := Aside0.mk (Kd.C_below HSt1.out hb)
  have hg2 := (blk_cell HG2.out) 2
  have K3 := Aside0.mk (ContainsFuncS_T p.2.2.1 As cs w2 HSt2.out (by have := HL3.out; omega))
  have HBG : Aside0 (begins p = ((orderErr p.2.2.1.length p.2.2.2 == 0) && decide (p.2.2.1.length ≤ 36) && !p.2.2.1.any odd)) := ⟨rfl⟩
  clear K2 hb
  obtain ⟨E, hE⟩ : ∃ E, orderErr p.2.2.1.length p.2.2.2 = E := ⟨_, rfl⟩
  rw [hE] at HBG ⊢
  obtain ⟨O, hO⟩ : ∃ E, p.2.2.1.any odd = E := ⟨_, rfl⟩
  rw [hO] at HBG K3
  clear hE hO
  by_cases q : E = 0
  · subst q
    by_cases q2 : p.2.2.1.length ≤ 36
    · have HBG' : Aside0 (begins p = !O) := ⟨by rw [HBG.out, decide_eq_true q2]; simp⟩
      clear HBG
      go_wp2_with (fail)
      refine K3.out.mono ?_
      rintro e w3 ⟨rfl, hb⟩
      have HB3 := Aside0.mk (below_step HB2.out hb)
      clear hb
      go_wp2
      go_ret
      exact ⟨by rw [HBG'.out]; rfl, HB3.out⟩
    · have HBG' : Aside0 (begins p = false) := ⟨by rw [HBG.out, decide_eq_false q2]; simp⟩
      clear HBG K3
      go_wp2
      go_ret
      exact ⟨by rw [HBG'.out]; rfl, HB2.out⟩
  · have b1 : (E == 0) = false := by simpa using q
    have HBG' : Aside0 (begins p = false) := ⟨by rw [HBG.out, b1]; simp⟩
    clear HBG K3 q
    go_wp2
    go_ret
    exact ⟨by rw [HBG'.out]; rfl, HB2.out⟩
set_option maxHeartbeats 8000000 in
set_option maxRecDepth 20000 in
theorem Grow_T (n : Nat) (h1 : n ≤ 1000000000000) (w : World) :
    Calls Tryd.prog 71 #[.slice none 0 0, .int .i64 (n : Int)] w fun e w' => ∃ v, e = .returned v ∧ Kd.R kI 3 w' w.heap.size (fun _ => True) v [] ∧ Below w.heap.size w w' := by
  have HB := Aside0.mk (Below.refl w.heap.size w)
  by_cases hz : n = 0
  · subst hz
    go_enter Tryd.func71, Tryd.ntmps71
    go_wp2
    go_ret
    exact ⟨_, rfl, Kd.R_nil _ _ _ _ _, Below.refl _ _⟩
  · have hp : 0 < n := by omega
    go_enter Tryd.func71, Tryd.ntmps71
    go_wp2_with (first | ((with_reducible refine gate_builtin (b := .append) (xs := #[.tmp 20, .tmp 21]) rfl ?_); at_builtin; refine Kd.R_append_zeros kI (w0 := w) w.heap.size rfl (.tmp 20) (.tmp 21) 22 3 3 (.int .i64 0) 8 rfl Tryd.underlying22 Tryd.underlying3 info_int rfl (by decide) (by omega) (.slice none 0 0) [] 0 (n : Int) (fun _ => True) rfl rfl rfl ?aF ?aO (by omega) ?aB ?aS ?aL ?_; (case aF => exact fun _ _ => trivial); (case aO => exact Kd.R_nil _ _ _ _ _); (case aB => exact HB.out); (case aS => exact Nat.le_refl _); (case aL => simp only [List.length_nil]; omega); intro v1 w1 ho hb hg hat; obtain ⟨A, c, rfl⟩ := Kd.R_slice ho; have hln := (Kd.R_reads' ho).2.1; have HO := Aside0.mk ho; have HB1 := Aside0.mk hb; clear ho hb hg hat; have hln' := Nat.zero_le c))
    go_ret
    exact ⟨_, rfl, Kd.R_take HO.out (Nat.zero_le _), HB1.out⟩
end Go.Proofs.YtplhihakeodadaaDoor.Sg
