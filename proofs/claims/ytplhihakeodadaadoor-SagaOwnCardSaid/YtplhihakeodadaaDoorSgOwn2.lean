/- saga: own, walked. -/
import Derived.Test.YtplhihakeodadaaDoorSgOwn
namespace Go.Proofs.YtplhihakeodadaaDoor.Sg
open Go Go.RowKit Go.Proofs.YtplhihakeodadaaDoorW.PrintWords Go.Proofs.YtplhihakeodadaaDoorW.PrintLast Go.Proofs.YtplhihakeodadaaDoorW.PrintMore
set_option linter.unusedVariables false
set_option linter.unusedSimpArgs false
abbrev z8 : Array Value := #[.int .i64 0, .int .i64 0, .slice none 0 0, .slice none 0 0, .slice none 0 0, .slice none 0 0, .slice none 0 0, .slice none 0 0]
/-- A row apart from others. -/
def Apart1 (v : Value) (l : List Value) : Prop := ∀ u ∈ l, ∀ k, v.ownBlock = some k → u.ownBlock ≠ some k
/-- The rows of what is open, and of what is done, are apart from all others. -/
structure StA (V : SV) : Prop where
  o : Apart1 V.o [V.p.f, V.p.t, V.p.st, V.p.b, V.d]
  d : Apart1 V.d [V.p.f, V.p.t, V.p.st, V.p.b, V.o]
theorem StA.mk' {f t st b vo vd : Value} {n m : Nat} (h1 : ∀ u ∈ [f, t, st, b], ∀ k, u.ownBlock = some k → k < n) (h2 : ∀ k, vo.ownBlock = some k → n ≤ k ∧ k < m) (h3 : ∀ k, vd.ownBlock = some k → m ≤ k) (hnm : n ≤ m) : StA ⟨⟨f, t, st, b⟩, vo, vd⟩ := by
  refine ⟨fun u hu k hk e => ?_, fun u hu k hk e => ?_⟩
  · dsimp only at hu hk
    have := h2 k hk
    by_cases q : u ∈ [f, t, st, b]
    · have := h1 u q k e
      omega
    · have : u = vd := by simp at hu q; rcases hu with h | h | h | h | h <;> first | exact absurd h (by simp [q]) | exact h
      subst this
      have := h3 k e
      omega
  · dsimp only at hu hk
    have := h3 k hk
    by_cases q : u ∈ [f, t, st, b]
    · have := h1 u q k e
      omega
    · have : u = vo := by simp at hu q; rcases hu with h | h | h | h | h <;> first | exact absurd h (by simp [q]) | exact h
      subst this
      have := h2 k e
      omega
/-- Several stores into one box. -/
def sets (z : Nat) (w : World) (l : List (Nat × Value)) : World := l.foldl (fun w p => w.setCell ⟨z, p.1, none⟩ p.2) w
theorem Below_sets {z base : Nat} {w : World} (hz : base ≤ z) : ∀ (l : List (Nat × Value)) (W : World), Below base w W → Below base w (sets z W l)
  | [], W, h => h
  | p :: l, W, h => Below_sets hz l _ (h.setCell (p := ⟨z, p.1, none⟩) hz p.2)
theorem StR_sets {z base T : Nat} {V : SV} {s : SS} (hT : T ≠ 3 ∧ T ≠ 50 ∧ T ≠ 74) : ∀ (l : List (Nat × Value)) (W : World) (cs : Array Value), W.heap[z]? = some (.cells cs T (0, 0)) → StR W base V s → StR (sets z W l) base V s
  | [], W, cs, hz, h => h
  | p :: l, W, cs, hz, h => StR_sets hT l _ _ (box_set hz p.2) (by
    have hi : ∀ q, q ∈ 3 :: kI.E → q ≠ T := fun q hq => by
      have : q = 3 := (List.mem_cons.1 hq).elim id (fun h => by cases h)
      rw [this]; exact fun e => hT.1 e.symm
    have hs : ∀ q, q ∈ 50 :: kP.E → q ≠ T := fun q hq => by
      have : q = 50 := (List.mem_cons.1 hq).elim id (fun h => by cases h)
      rw [this]; exact fun e => hT.2.1 e.symm
    have he : ∀ q, q ∈ 74 :: kP.E → q ≠ T := fun q hq => by
      have : q = 74 := (List.mem_cons.1 hq).elim id (fun h => by cases h)
      rw [this]; exact fun e => hT.2.2 e.symm
    exact ⟨⟨Kd.R_set h.1.1 hz hi _ _, Kd.R_set h.1.2.1 hz hi _ _, Kd.R_set h.1.2.2.1 hz hs _ _, Kd.R_set h.1.2.2.2 hz he _ _⟩, Kd.R_set h.2.1 hz hi _ _, Kd.R_set h.2.2 hz hi _ _⟩)
theorem pl_lt {w : World} {base : Nat} {f t st b : Value} {p : Pln} (h : PlR w base ⟨f, t, st, b⟩ p) : ∀ u ∈ [f, t, st, b], ∀ k, u.ownBlock = some k → k < w.heap.size := by
  intro u hu k hk
  simp at hu
  rcases hu with rfl | rfl | rfl | rfl
  · exact Kd.R_lt h.1 k hk
  · exact Kd.R_lt h.2.1 k hk
  · exact Kd.R_lt h.2.2.1 k hk
  · exact Kd.R_lt h.2.2.2 k hk
theorem R_6 {α : Type} {K : Kd α} {E base z T : Nat} {ok : Nat → Prop} {w : World} {v : Value} {l : List α} {cs c1 c2 c3 c4 c5 : Array Value} (h : Kd.R K E w base ok v l) {u0 u1 u2 u3 u4 u5 : Value} {o0 o1 o2 o3 o4 o5 : Nat} (hz : w.heap[z]? = some (.cells cs T (0, 0)))
    (h1 : (w.setCell ⟨z, o0, none⟩ u0).heap[z]? = some (.cells c1 T (0, 0))) (h2 : ((w.setCell ⟨z, o0, none⟩ u0).setCell ⟨z, o1, none⟩ u1).heap[z]? = some (.cells c2 T (0, 0))) (h3 : (((w.setCell ⟨z, o0, none⟩ u0).setCell ⟨z, o1, none⟩ u1).setCell ⟨z, o2, none⟩ u2).heap[z]? = some (.cells c3 T (0, 0)))
    (h4 : ((((w.setCell ⟨z, o0, none⟩ u0).setCell ⟨z, o1, none⟩ u1).setCell ⟨z, o2, none⟩ u2).setCell ⟨z, o3, none⟩ u3).heap[z]? = some (.cells c4 T (0, 0))) (h5 : (((((w.setCell ⟨z, o0, none⟩ u0).setCell ⟨z, o1, none⟩ u1).setCell ⟨z, o2, none⟩ u2).setCell ⟨z, o3, none⟩ u3).setCell ⟨z, o4, none⟩ u4).heap[z]? = some (.cells c5 T (0, 0)))
    (ht : ∀ q, q ∈ E :: K.E → q ≠ T) :
    Kd.R K E ((((((w.setCell ⟨z, o0, none⟩ u0).setCell ⟨z, o1, none⟩ u1).setCell ⟨z, o2, none⟩ u2).setCell ⟨z, o3, none⟩ u3).setCell ⟨z, o4, none⟩ u4).setCell ⟨z, o5, none⟩ u5) base ok v l :=
  Kd.R_set (Kd.R_set (Kd.R_set (Kd.R_set (Kd.R_set (Kd.R_set h hz ht o0 u0) h1 ht o1 u1) h2 ht o2 u2) h3 ht o3 u3) h4 ht o4 u4) h5 ht o5 u5
set_option maxHeartbeats 8000000 in
set_option maxRecDepth 20000 in
theorem own_T (V : SV) (s : SS) (w : World) (h : StC w V s) (hp : okPlan s.pl = true) (ho : s.op.length ≤ 1000000000) (hd : s.dn.length ≤ 1000000000) :
    Calls Tryd.prog 44 #[.agg (stv V s)] w fun e w' => ∃ V', e = .returned (.agg (stv V' s)) ∧ StR w' w.heap.size V' s ∧ StA V' ∧ Below w.heap.size w w' := by
  obtain ⟨num, ph, p, op, dn⟩ := s
  obtain ⟨⟨f, t, st, b⟩, vo, vd⟩ := V
  obtain ⟨h1, h2, h3⟩ := h
  unfold stv
  dsimp only at h1 h2 h3 hp ho hd ⊢
  have hb0 := below_alloc (below_alloc (Below.refl w.heap.size w) (.cells #[.int .i64 num, .int .i64 ph, f, t, st, b, vo, vd] 34)) (.cells z8 34)
  have HX := Aside0.mk (blk_alloc (heap_last w (.cells #[.int .i64 num, .int .i64 ph, f, t, st, b, vo, vd] 34)) (.cells z8 34))
  have hz := heap_last (w.alloc (.cells #[.int .i64 num, .int .i64 ph, f, t, st, b, vo, vd] 34)) (.cells z8 34)
  rw [World.size_alloc] at hz
  have HZ := Aside0.mk hz
  obtain ⟨W, hW⟩ : ∃ W, (w.alloc (.cells #[.int .i64 num, .int .i64 ph, f, t, st, b, vo, vd] 34)).alloc (.cells z8 34) = W := ⟨_, rfl⟩
  rw [hW] at hb0 HX HZ
  unfold z8 at hW
  have HB := Aside0.mk hb0
  have hf : ∃ A c, f = .slice A p.1.length c := h1.1.slice
  have ht : ∃ A c, t = .slice A p.2.1.length c := h1.2.1.slice
  have hst : ∃ A c, st = .slice A p.2.2.1.length c := h1.2.2.1.slice
  have hb : ∃ A c, b = .slice A p.2.2.2.length c := h1.2.2.2.slice
  obtain ⟨Af, cf, rfl⟩ := hf
  obtain ⟨At, ct, rfl⟩ := ht
  obtain ⟨As, cs, rfl⟩ := hst
  obtain ⟨Ab, cb, rfl⟩ := hb
  obtain ⟨Ao, co, rfl⟩ := h2.slice
  obtain ⟨Ad, cd, rfl⟩ := h3.slice
  have K := Aside0.mk (fun W (hb : Below w.heap.size w W) => copied_T _ p W (h1.below hb) hp)
  unfold plv at K
  dsimp only at K
  have KK := Aside0.mk (fun W (hb : Below w.heap.size w W) => CloneI_S (h2.below hb) (by omega))
  have KD := Aside0.mk (fun W (hb : Below w.heap.size w W) => CloneI_S (h3.below hb) (by omega))
  have hx2 := (blk_cell HX.out) 2
  have hx3 := (blk_cell HX.out) 3
  have hx4 := (blk_cell HX.out) 4
  have hx5 := (blk_cell HX.out) 5
  have hx6 := (blk_cell HX.out) 6
  have hx7 := (blk_cell HX.out) 7
  clear h1 h2 h3 hb0 hp hz ho hd
  go_enter Tryd.func44, Tryd.ntmps44
  go_wp2
  have K1 := Aside0.mk (K.out W.drew (below_drew1 HB.out))
  replace HB := Aside0.mk (below_drew1 HB.out)
  replace HX := Aside0.mk (blk_drew HX.out)
  replace HZ := Aside0.mk (blk_drew HZ.out)
  clear K hW
  go_cut [5] (fun v5 wx => ∃ V' : SV, Aside0 (wx.heap[w.heap.size]? = some (.cells (stv V' ⟨num, ph, p, op, dn⟩) 34 (0, 0))) ∧ Aside0 (wx.heap[w.heap.size + 1]? = some (.cells z8 34 (0, 0))) ∧ Aside0 (StR wx w.heap.size V' ⟨num, ph, p, op, dn⟩) ∧ Aside0 (StA V') ∧ Aside0 (Below w.heap.size w wx))
  case first =>
    go_region_law (first
      | (go_simp; go_at_call 45; go_must (refine K1.out.mono ?_; rintro e w1 ⟨⟨f', t', st', b'⟩, rfl, hr, hb⟩; have HB1 := Aside0.mk (below_step HB.out hb); have HX1 := Aside0.mk (blk_below HX.out hb); have HZ1 := Aside0.mk (blk_below HZ.out hb); have hy2 := (blk_cell HX1.out) 2; have hy3 := (blk_cell HX1.out) 3; have hy4 := (blk_cell HX1.out) 4; have hy5 := (blk_cell HX1.out) 5; have hy6 := (blk_cell HX1.out) 6; have hy7 := (blk_cell HX1.out) 7; have HR0 := Aside0.mk (hr.lower (below_size HB.out)); have HLT1 : Aside0 (∀ u ∈ [f', t', st', b'], ∀ k, u.ownBlock = some k → k < w1.heap.size) := ⟨pl_lt hr⟩; have K2 := Aside0.mk (KK.out _ HB1.out); clear K1 KK hx2 hx3 hx4 hx5 hx6 hx7 HX HZ HB hr hb))
      | (go_simp; go_at_call 64; (refine K2.out.mono ?_; rintro e w2 ⟨v1, rfl, hr, hb⟩; have HB2 := Aside0.mk (below_step HB1.out hb); have HX2 := Aside0.mk (blk_below HX1.out hb); have HZ2 := Aside0.mk (blk_below HZ1.out hb); have hu2 := (blk_cell HX2.out) 2; have hu3 := (blk_cell HX2.out) 3; have hu4 := (blk_cell HX2.out) 4; have hu5 := (blk_cell HX2.out) 5; have hu6 := (blk_cell HX2.out) 6; have hu7 := (blk_cell HX2.out) 7; have HR1 := Aside0.mk (Kd.R_lower hr (below_size HB1.out)); have HO1 : Aside0 (∀ k, v1.ownBlock = some k → w1.heap.size ≤ k ∧ k < w2.heap.size) := ⟨fun k hk => ⟨Kd.R_base hr k hk, Kd.R_lt hr k hk⟩⟩; have HW12 : Aside0 (w1.heap.size ≤ w2.heap.size) := ⟨hb.size⟩; have HR01 := Aside0.mk (HR0.out.below hb); have K3 := Aside0.mk (KD.out _ HB2.out); clear K2 KD HX1 HZ1 HB1 HR0 hr hb hy2 hy3 hy4 hy5 hy6 hy7))
      | (go_simp; go_at_call 64; (refine K3.out.mono ?_; rintro e w3 ⟨v2, rfl, hr, hb⟩; have HB3 := Aside0.mk (below_step HB2.out hb); have HX3 := Aside0.mk (blk_below HX2.out hb); have HZ3 := Aside0.mk (blk_below HZ2.out hb); have hv2 := (blk_cell HX3.out) 2; have hv3 := (blk_cell HX3.out) 3; have hv4 := (blk_cell HX3.out) 4; have hv5 := (blk_cell HX3.out) 5; have hv6 := (blk_cell HX3.out) 6; have hv7 := (blk_cell HX3.out) 7; have hw2 := free_of HX3.out 2; have hw3 := free_of HX3.out 3; have hw4 := free_of HX3.out 4; have hw5 := free_of HX3.out 5; have hw6 := free_of HX3.out 6; have hw7 := free_of HX3.out 7; have HR2 := Aside0.mk (Kd.R_lower hr (below_size HB2.out)); have HD2 : Aside0 (∀ k, v2.ownBlock = some k → w2.heap.size ≤ k) := ⟨Kd.R_base hr⟩; have HR02 := Aside0.mk (HR01.out.below hb); have HR12 := Aside0.mk (Kd.R_below HR1.out hb); obtain ⟨A0, d0, rfl⟩ := Kd.R_slice HR02.out.1; obtain ⟨A1, d1, rfl⟩ := Kd.R_slice HR02.out.2.1; obtain ⟨A2, d2, rfl⟩ := Kd.R_slice HR02.out.2.2.1; obtain ⟨A3, d3, rfl⟩ := Kd.R_slice HR02.out.2.2.2; obtain ⟨A4, d4, rfl⟩ := Kd.R_slice HR12.out; obtain ⟨A5, d5, rfl⟩ := Kd.R_slice HR2.out; clear K3 HX2 HZ2 HB2 HR01 HR1 hr hb hu2 hu3 hu4 hu5 hu6 hu7)))
    all_goals go_wp2_with (fail)
    all_goals go_meet
    all_goals
      have c1 := box_set HX3.out (o := 2) (.slice A0 p.1.length d0)
      have c2 := box_set c1 (o := 3) (.slice A1 p.2.1.length d1)
      have c3 := box_set c2 (o := 4) (.slice A2 p.2.2.1.length d2)
      have c4 := box_set c3 (o := 5) (.slice A3 p.2.2.2.length d3)
      have c5 := box_set c4 (o := 6) (.slice A4 op.length d4)
      have c6 := box_set c5 (o := 7) (.slice A5 dn.length d5)
      have hne : ∀ (W : World) (o : Nat) (v : Value), (W.setCell ⟨w.heap.size, o, none⟩ v).heap[w.heap.size + 1]? = W.heap[w.heap.size + 1]? := fun W o v => Below.heap_setCell W ⟨w.heap.size, o, none⟩ v (w.heap.size + 1) (by simp)
      refine ⟨⟨⟨.slice A0 p.1.length d0, .slice A1 p.2.1.length d1, .slice A2 p.2.2.1.length d2, .slice A3 p.2.2.2.length d3⟩, .slice A4 op.length d4, .slice A5 dn.length d5⟩, ⟨c6⟩, ⟨?_⟩, ⟨⟨?_, ?_, ?_⟩⟩, ⟨StA.mk' HLT1.out HO1.out HD2.out HW12.out⟩, ⟨?_⟩⟩
      · rw [hne, hne, hne, hne, hne, hne]
        exact HZ3.out
      · exact ⟨R_6 HR02.out.1 HX3.out c1 c2 c3 c4 c5 (by decide), R_6 HR02.out.2.1 HX3.out c1 c2 c3 c4 c5 (by decide), R_6 HR02.out.2.2.1 HX3.out c1 c2 c3 c4 c5 (by decide), R_6 HR02.out.2.2.2 HX3.out c1 c2 c3 c4 c5 (by decide)⟩
      · exact R_6 HR12.out HX3.out c1 c2 c3 c4 c5 (by decide)
      · exact R_6 HR2.out HX3.out c1 c2 c3 c4 c5 (by decide)
      · have hle : w.heap.size ≤ w.heap.size := Nat.le_refl _
        exact (((((HB3.out.setCell (p := ⟨w.heap.size, 2, none⟩) hle _).setCell (p := ⟨w.heap.size, 3, none⟩) hle _).setCell (p := ⟨w.heap.size, 4, none⟩) hle _).setCell (p := ⟨w.heap.size, 5, none⟩) hle _).setCell (p := ⟨w.heap.size, 6, none⟩) hle _).setCell (p := ⟨w.heap.size, 7, none⟩) hle _
  case rest =>
    obtain ⟨V', HG, HZ, HR, HAP, HB⟩ := hcut
    obtain ⟨⟨f, t, st, b⟩, vo, vd⟩ := V'
    unfold stv at HG
    dsimp only at HG
    have hg0 := (blk_cell HG.out) 0
    have hg1 := (blk_cell HG.out) 1
    have hg2 := (blk_cell HG.out) 2
    have hg3 := (blk_cell HG.out) 3
    have hg4 := (blk_cell HG.out) 4
    have hg5 := (blk_cell HG.out) 5
    have hg6 := (blk_cell HG.out) 6
    have hg7 := (blk_cell HG.out) 7
    obtain ⟨A0, d0, rfl⟩ : ∃ A c, f = .slice A p.1.length c := Kd.R_slice HR.out.1.1
    obtain ⟨A1, d1, rfl⟩ : ∃ A c, t = .slice A p.2.1.length c := Kd.R_slice HR.out.1.2.1
    obtain ⟨A2, d2, rfl⟩ : ∃ A c, st = .slice A p.2.2.1.length c := Kd.R_slice HR.out.1.2.2.1
    obtain ⟨A3, d3, rfl⟩ : ∃ A c, b = .slice A p.2.2.2.length c := Kd.R_slice HR.out.1.2.2.2
    obtain ⟨A4, d4, rfl⟩ : ∃ A c, vo = .slice A op.length c := Kd.R_slice HR.out.2.1
    obtain ⟨A5, d5, rfl⟩ : ∃ A c, vd = .slice A dn.length c := Kd.R_slice HR.out.2.2
    unfold z8 at HZ
    have hz0 := (blk_cell HZ.out) 0
    have hz1 := (blk_cell HZ.out) 1
    have hz2 := (blk_cell HZ.out) 2
    have hz3 := (blk_cell HZ.out) 3
    have hz4 := (blk_cell HZ.out) 4
    have hz5 := (blk_cell HZ.out) 5
    have hz6 := (blk_cell HZ.out) 6
    have hz7 := (blk_cell HZ.out) 7
    have hf0 := free_of HZ.out 0
    have hf1 := free_of HZ.out 1
    have hf2 := free_of HZ.out 2
    have hf3 := free_of HZ.out 3
    have hf4 := free_of HZ.out 4
    have hf5 := free_of HZ.out 5
    have hf6 := free_of HZ.out 6
    have hf7 := free_of HZ.out 7
    go_wp2
    refine bodyPost_ret (v := .agg #[.int .i64 num, .int .i64 ph, .slice A0 p.1.length d0, .slice A1 p.2.1.length d1, .slice A2 p.2.2.1.length d2, .slice A3 p.2.2.2.length d3, .slice A4 op.length d4, .slice A5 dn.length d5]) (by simp [results, Tryd.results44, go_sem, hz0, hz1, hz2, hz3, hz4, hz5, hz6, hz7]) rfl ?_
    refine ⟨⟨⟨.slice A0 p.1.length d0, .slice A1 p.2.1.length d1, .slice A2 p.2.2.1.length d2, .slice A3 p.2.2.2.length d3⟩, .slice A4 op.length d4, .slice A5 dn.length d5⟩, rfl, ?_, HAP.out, ?_⟩
    · exact StR_sets (T := 34) (by decide) [(0, .int .i64 num), (1, .int .i64 ph), (2, .slice A0 p.1.length d0), (3, .slice A1 p.2.1.length d1), (4, .slice A2 p.2.2.1.length d2), (5, .slice A3 p.2.2.2.length d3), (6, .slice A4 op.length d4), (7, .slice A5 dn.length d5)] _ _ HZ.out HR.out
    · exact Below_sets (Nat.le_succ _) [(0, .int .i64 num), (1, .int .i64 ph), (2, .slice A0 p.1.length d0), (3, .slice A1 p.2.1.length d1), (4, .slice A2 p.2.2.1.length d2), (5, .slice A3 p.2.2.2.length d3), (6, .slice A4 op.length d4), (7, .slice A5 dn.length d5)] _ HB.out
end Go.Proofs.YtplhihakeodadaaDoor.Sg
