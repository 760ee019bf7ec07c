/- saga: copied, own, walked. -/
import Derived.Test.YtplhihakeodadaaDoorSgM
namespace Go.Proofs.YtplhihakeodadaaDoor.Sg
open Go Go.RowKit Go.Proofs.YtplhihakeodadaaDoorW.PrintWords Go.Proofs.YtplhihakeodadaaDoorW.PrintLast Go.Proofs.YtplhihakeodadaaDoorW.PrintMore
set_option linter.unusedVariables false
set_option linter.unusedSimpArgs false
theorem CloneI_S {w : World} {v : Value} {l : List Int} (h : Sl kI w v l) (hl : l.length ≤ 1000000000000) : Calls Tryd.prog 64 #[v] w fun e w' => ∃ v', e = .returned v' ∧ Kd.R kI 3 w' w.heap.size (fun _ => True) v' l ∧ Below w.heap.size w w' := by
  obtain ⟨A, c, rfl, hc, hC⟩ := h
  exact CloneI_T A c l w hC hc hl
theorem CloneS_S {w : World} {v : Value} {l : List Stp} (h : Sl kP w v l) (hl : l.length ≤ 1000000000000) : Calls Tryd.prog 65 #[v] w fun e w' => ∃ v', e = .returned v' ∧ Kd.R kP 50 w' w.heap.size (fun _ => True) v' l ∧ Below w.heap.size w w' := by
  obtain ⟨A, c, rfl, hc, hC⟩ := h
  exact CloneS_T A c l w hC hc hl
theorem CloneE_S {w : World} {v : Value} {l : List Stp} (h : Sl kP w v l) (hl : l.length ≤ 1000000000000) : Calls Tryd.prog 66 #[v] w fun e w' => ∃ v', e = .returned v' ∧ Kd.R kP 74 w' w.heap.size (fun _ => True) v' l ∧ Below w.heap.size w w' := by
  obtain ⟨A, c, rfl, hc, hC⟩ := h
  exact CloneE_T A c l w hC hc hl
theorem Sl.slice {α : Type} {K : Kd α} {w : World} {v : Value} {l : List α} (h : Sl K w v l) : ∃ A c, v = .slice A l.length c := by
  obtain ⟨A, c, e, _⟩ := h
  exact ⟨A, c, e⟩
theorem R_box4 {α : Type} {K : Kd α} {E base z T : Nat} {ok : Nat → Prop} {w : World} {v : Value} {l : List α} {cs : Array Value} (h : Kd.R K E w base ok v l) (hz : w.heap[z]? = some (.cells cs T (0, 0))) (ht : ∀ q, q ∈ E :: K.E → q ≠ T) (u0 u1 u2 u3 : Value) :
    Kd.R K E ((((w.setCell ⟨z, 0, none⟩ u0).setCell ⟨z, 1, none⟩ u1).setCell ⟨z, 2, none⟩ u2).setCell ⟨z, 3, none⟩ u3) base ok v l :=
  Kd.R_set (Kd.R_set (Kd.R_set (Kd.R_set h hz ht 0 u0) (box_set hz u0) ht 1 u1) (box_set (box_set hz u0) u1) ht 2 u2) (box_set (box_set (box_set hz u0) u1) u2) ht 3 u3
set_option maxHeartbeats 8000000 in
set_option maxRecDepth 20000 in
theorem copied_T (V : PV) (p : Pln) (w : World) (h : PlC w V p) (hp : okPlan p = true) :
    Calls Tryd.prog 45 #[.agg (plv V)] w fun e w' => ∃ V', e = .returned (.agg (plv V')) ∧ PlR w' w.heap.size V' p ∧ Below w.heap.size w w' := by
  obtain ⟨l1, l2, l3, l4⟩ := okPlan_le hp
  obtain ⟨f, t, st, b⟩ := V
  obtain ⟨h1, h2, h3, h4⟩ := h
  dsimp only at h1 h2 h3 h4
  unfold plv
  dsimp only
  have hb0 := below_alloc (below_alloc (Below.refl w.heap.size w) (.cells #[f, t, st, b] 26)) (.cells #[.slice none 0 0, .slice none 0 0, .slice none 0 0, .slice none 0 0] 26)
  have HX := Aside0.mk (blk_alloc (heap_last w (.cells #[f, t, st, b] 26)) (.cells #[.slice none 0 0, .slice none 0 0, .slice none 0 0, .slice none 0 0] 26))
  have hz := heap_last (w.alloc (.cells #[f, t, st, b] 26)) (.cells #[.slice none 0 0, .slice none 0 0, .slice none 0 0, .slice none 0 0] 26)
  rw [World.size_alloc] at hz
  have HZ := Aside0.mk hz
  obtain ⟨W, hW⟩ : ∃ W, (w.alloc (.cells #[f, t, st, b] 26)).alloc (.cells #[.slice none 0 0, .slice none 0 0, .slice none 0 0, .slice none 0 0] 26) = W := ⟨_, rfl⟩
  rw [hW] at hb0 HX HZ
  have HB := Aside0.mk hb0
  have H1 := Aside0.mk (h1.below hb0)
  have H2 := Aside0.mk (h2.below hb0)
  have H3 := Aside0.mk (h3.below hb0)
  have H4 := Aside0.mk (h4.below hb0)
  obtain ⟨Af, cf, rfl⟩ := h1.slice
  obtain ⟨At, ct, rfl⟩ := h2.slice
  obtain ⟨As, cs, rfl⟩ := h3.slice
  obtain ⟨Ab, cb, rfl⟩ := h4.slice
  have K := Aside0.mk (fun W (hb : Below w.heap.size w W) => CloneI_S (h1.below hb) (by omega))
  have KK := Aside0.mk (fun W (hb : Below w.heap.size w W) => CloneI_S (h2.below hb) (by omega))
  have KS := Aside0.mk (fun W (hb : Below w.heap.size w W) => CloneS_S (h3.below hb) (by omega))
  have KE := Aside0.mk (fun W (hb : Below w.heap.size w W) => CloneE_S (h4.below hb) (by omega))
  have hx0 := (blk_cell HX.out) 0
  have hx1 := (blk_cell HX.out) 1
  have hx2 := (blk_cell HX.out) 2
  have hx3 := (blk_cell HX.out) 3
  clear h1 h2 h3 h4 hb0 hp l1 l2 l3 l4 hz
  go_enter Tryd.func45, Tryd.ntmps45
  go_wp2
  have tok : True := trivial
  have K1 := Aside0.mk (K.out W.drew (below_drew1 HB.out))
  replace HB := Aside0.mk (below_drew1 HB.out)
  replace HX := Aside0.mk (blk_drew HX.out)
  replace HZ := Aside0.mk (blk_drew HZ.out)
  clear K hW
  go_region_held3 (fun w' => w'.cell? ⟨w.heap.size, 0, none⟩ = some (.slice Af p.1.length cf) ∧ w'.cell? ⟨w.heap.size, 1, none⟩ = some (.slice At p.2.1.length ct) ∧ w'.cell? ⟨w.heap.size, 2, none⟩ = some (.slice As p.2.2.1.length cs) ∧ w'.cell? ⟨w.heap.size, 3, none⟩ = some (.slice Ab p.2.2.2.length cb)) (first | go_keep | exact ⟨hx0, hx1, hx2, hx3⟩)
    (first
      | (go_at_call 64; refine K1.out.mono ?_; rintro e w1 ⟨v0, rfl, hr, hb⟩; have HB1 := Aside0.mk (below_step HB.out hb); have HX1 := Aside0.mk (blk_below HX.out hb); have HZ1 := Aside0.mk (blk_below HZ.out hb); have hy0 := (blk_cell HX1.out) 0; have hy1 := (blk_cell HX1.out) 1; have hy2 := (blk_cell HX1.out) 2; have hy3 := (blk_cell HX1.out) 3; have HR0 := Aside0.mk (Kd.R_lower hr (below_size HB.out)); have K2 := Aside0.mk (KK.out _ HB1.out); clear K1 KK hx0 hx1 hx2 hx3 HX HZ HB hr hb)
      | (go_at_call 64; refine K2.out.mono ?_; rintro e w2 ⟨v1, rfl, hr, hb⟩; have HB2 := Aside0.mk (below_step HB1.out hb); have HX2 := Aside0.mk (blk_below HX1.out hb); have HZ2 := Aside0.mk (blk_below HZ1.out hb); have hy0 := (blk_cell HX2.out) 0; have hy1 := (blk_cell HX2.out) 1; have hy2 := (blk_cell HX2.out) 2; have hy3 := (blk_cell HX2.out) 3; have HR1 := Aside0.mk (Kd.R_lower hr (below_size HB1.out)); have HR01 := Aside0.mk (Kd.R_below HR0.out hb); have K3 := Aside0.mk (KS.out _ HB2.out); clear K2 KS HX1 HZ1 HB1 HR0 hr hb)
      | (go_at_call 65; refine K3.out.mono ?_; rintro e w3 ⟨v2, rfl, hr, hb⟩; have HB3 := Aside0.mk (below_step HB2.out hb); have HX3 := Aside0.mk (blk_below HX2.out hb); have HZ3 := Aside0.mk (blk_below HZ2.out hb); have hy0 := (blk_cell HX3.out) 0; have hy1 := (blk_cell HX3.out) 1; have hy2 := (blk_cell HX3.out) 2; have hy3 := (blk_cell HX3.out) 3; have HR2 := Aside0.mk (Kd.R_lower hr (below_size HB2.out)); have HR02 := Aside0.mk (Kd.R_below HR01.out hb); have HR12 := Aside0.mk (Kd.R_below HR1.out hb); have K4 := Aside0.mk (KE.out _ HB3.out); clear K3 KE HX2 HZ2 HB2 HR01 HR1 hr hb)
      | (go_at_call 66; refine K4.out.mono ?_; rintro e w4 ⟨v3, rfl, hr, hb⟩; have HB4 := Aside0.mk (below_step HB3.out hb); have HX4 := Aside0.mk (blk_below HX3.out hb); have HZ4 := Aside0.mk (blk_below HZ3.out hb); have hy0 := (blk_cell HX4.out) 0; have hy1 := (blk_cell HX4.out) 1; have hy2 := (blk_cell HX4.out) 2; have hy3 := (blk_cell HX4.out) 3; have hq0 := (blk_cell HZ4.out) 0; have hq1 := (blk_cell HZ4.out) 1; have hq2 := (blk_cell HZ4.out) 2; have hq3 := (blk_cell HZ4.out) 3; have hf0 := free_of HZ4.out 0; have hf1 := free_of HZ4.out 1; have hf2 := free_of HZ4.out 2; have hf3 := free_of HZ4.out 3; have HR3 := Aside0.mk (Kd.R_lower hr (below_size HB3.out)); have HR03 := Aside0.mk (Kd.R_below HR02.out hb); have HR13 := Aside0.mk (Kd.R_below HR12.out hb); have HR23 := Aside0.mk (Kd.R_below HR2.out hb); obtain ⟨A0, d0, rfl⟩ := Kd.R_slice HR03.out; obtain ⟨A1, d1, rfl⟩ := Kd.R_slice HR13.out; obtain ⟨A2, d2, rfl⟩ := Kd.R_slice HR23.out; obtain ⟨A3, d3, rfl⟩ := Kd.R_slice HR3.out; clear K4 HX3 HZ3 HB3 HR02 HR12 HR2 hr hb))
  go_wp2
  refine bodyPost_ret (v := .agg #[.slice A0 p.1.length d0, .slice A1 p.2.1.length d1, .slice A2 p.2.2.1.length d2, .slice A3 p.2.2.2.length d3]) (by simp [results, Tryd.results45, go_sem, hq0, hq1, hq2, hq3]) rfl ?_
  refine ⟨⟨.slice A0 p.1.length d0, .slice A1 p.2.1.length d1, .slice A2 p.2.2.1.length d2, .slice A3 p.2.2.2.length d3⟩, rfl, ?_, ?_⟩
  · exact ⟨R_box4 HR03.out HZ4.out (by decide) _ _ _ _, R_box4 HR13.out HZ4.out (by decide) _ _ _ _, R_box4 HR23.out HZ4.out (by decide) _ _ _ _, R_box4 HR3.out HZ4.out (by decide) _ _ _ _⟩
  · have hle : w.heap.size ≤ w.heap.size + 1 := Nat.le_succ _
    exact (((HB4.out.setCell (p := ⟨w.heap.size + 1, 0, none⟩) hle _).setCell (p := ⟨w.heap.size + 1, 1, none⟩) hle _).setCell (p := ⟨w.heap.size + 1, 2, none⟩) hle _).setCell (p := ⟨w.heap.size + 1, 3, none⟩) hle _
end Go.Proofs.YtplhihakeodadaaDoor.Sg
