/- saga: slipwaymade.Plan (what a play goes through with), walked. -/
import Derived.Test.YtplhihakeodadaaDoorSgRun
import Derived.Test.YtplhihakeodadaaDoorWRepsOne
namespace Go.Proofs.YtplhihakeodadaaDoor.Sg
open Go Go.RowKit Go.Proofs.YtplhihakeodadaaDoorW.PrintWords Go.Proofs.YtplhihakeodadaaDoorW.PrintLast Go.Proofs.YtplhihakeodadaaDoorW.PrintMore
set_option linter.unusedVariables false
set_option linter.unusedSimpArgs false
theorem reps1 {α : Type} {R : α → List Value → Prop} {size : Nat} {p : α} {c : List Value} (hp : R p c) (hc : c.length = size) : Reps R size [p] c := Reps.snoc (Reps.none R size) hp hc
theorem R_fresh {α : Type} {K : Kd α} {E base : Nat} {ok : Nat → Prop} {w : World} {v : Value} {l : List α} (h : Kd.R K E w base ok v l) : some w.heap.size ≠ v.ownBlock := fun e => by have := Kd.R_lt h _ e.symm; omega
def Halt (p : Prop) : Prop := p
theorem Halt.out {p : Prop} (h : Halt p) : p := h
theorem info_rstep : (Tryd.prog.info? 80).map (fun i => (i.zero, i.size, i.bytes)) = some (some (.agg #[.int .i64 0, .int .i64 0]), 2, 16) := by kernel_rfl
theorem box2 {w : World} {b t : Nat} {a0 a1 a2 a3 : Value} (h : w.heap[b]? = some (.cells #[a0, a1, a2, a3] t (0, 0))) (v2 : Value) : (w.setCell ⟨b, 2, none⟩ v2).heap[b]? = some (.cells #[a0, a1, v2, a3] t (0, 0)) := box_set h v2
theorem box4 {w : World} {b t : Nat} {a0 a1 a2 a3 : Value} (h : w.heap[b]? = some (.cells #[a0, a1, a2, a3] t (0, 0))) (v0 v1 v2 v3 : Value) : (sets b w [(0, v0), (1, v1), (2, v2), (3, v3)]).heap[b]? = some (.cells #[v0, v1, v2, v3] t (0, 0)) := by
  have h1 : (w.setCell ⟨b, 0, none⟩ v0).heap[b]? = some (.cells #[v0, a1, a2, a3] t (0, 0)) := box_set h v0
  have h2 : ((w.setCell ⟨b, 0, none⟩ v0).setCell ⟨b, 1, none⟩ v1).heap[b]? = some (.cells #[v0, v1, a2, a3] t (0, 0)) := box_set h1 v1
  have h3 : (((w.setCell ⟨b, 0, none⟩ v0).setCell ⟨b, 1, none⟩ v1).setCell ⟨b, 2, none⟩ v2).heap[b]? = some (.cells #[v0, v1, v2, a3] t (0, 0)) := box_set h2 v2
  have h4 : ((((w.setCell ⟨b, 0, none⟩ v0).setCell ⟨b, 1, none⟩ v1).setCell ⟨b, 2, none⟩ v2).setCell ⟨b, 3, none⟩ v3).heap[b]? = some (.cells #[v0, v1, v2, v3] t (0, 0)) := box_set h3 v3
  exact h4
theorem PlC.opened' {w : World} {V : PV} {p : Pln} (h : PlC w V p) : ∃ Af cf At ct As cs Ab cb, V = ⟨.slice Af p.1.length cf, .slice At p.2.1.length ct, .slice As p.2.2.1.length cs, .slice Ab p.2.2.2.length cb⟩ ∧ Kd.C kP w As p.2.2.1.length p.2.2.1 := by
  obtain ⟨f, t, st, b⟩ := V
  obtain ⟨h1, h2, h3, h4⟩ := h
  obtain ⟨Af, cf, rfl⟩ := h1.slice
  obtain ⟨At, ct, rfl⟩ := h2.slice
  obtain ⟨As, cs, e, _, hC⟩ := h3
  obtain ⟨Ab, cb, rfl⟩ := h4.slice
  dsimp only at e
  subst e
  exact ⟨Af, cf, At, ct, As, cs, Ab, cb, rfl, hC⟩
def Planned (w : World) (V : PV) (p : Pln) (e : Ending) (w' : World) : Prop := ∃ A5 n c5, e = .returned (.tuple #[.agg #[V.f, V.t, .slice A5 n c5, V.b], .bool (okPlan p)]) ∧ (okPlan p = true → Kd.R kP 80 w' w.heap.size (fun _ => True) (.slice A5 n c5) p.2.2.1) ∧ Below w.heap.size w w'
set_option maxHeartbeats 8000000 in
set_option maxRecDepth 20000 in
theorem Plan_T (V : PV) (p : Pln) (w : World) (h : PlC w V p) :
    Calls Tryd.prog 16 #[.agg (plv V)] w (Planned w V p) := by
  obtain ⟨Af, cf, At, ct, As, cs, Ab, cb, rfl, hC⟩ := h.opened'
  unfold plv
  obtain ⟨pf, pt, ps, pb⟩ := p
  dsimp only at hC ⊢
  have hb0 := below_alloc (below_alloc (below_alloc (Below.refl w.heap.size w) (.cells #[.slice Af pf.length cf, .slice At pt.length ct, .slice As ps.length cs, .slice Ab pb.length cb] 26)) (.cells #[.slice none 0 0, .slice none 0 0, .slice none 0 0, .slice none 0 0] 30)) (.cells #[.slice none 0 0, .slice none 0 0, .slice none 0 0, .slice none 0 0] 30)
  have hx := blk_alloc (blk_alloc (heap_last w (.cells #[.slice Af pf.length cf, .slice At pt.length ct, .slice As ps.length cs, .slice Ab pb.length cb] 26)) (.cells #[.slice none 0 0, .slice none 0 0, .slice none 0 0, .slice none 0 0] 30)) (.cells #[.slice none 0 0, .slice none 0 0, .slice none 0 0, .slice none 0 0] 30)
  have hy := blk_alloc (heap_last (w.alloc (.cells #[.slice Af pf.length cf, .slice At pt.length ct, .slice As ps.length cs, .slice Ab pb.length cb] 26)) (.cells #[.slice none 0 0, .slice none 0 0, .slice none 0 0, .slice none 0 0] 30)) (.cells #[.slice none 0 0, .slice none 0 0, .slice none 0 0, .slice none 0 0] 30)
  have hz := heap_last ((w.alloc (.cells #[.slice Af pf.length cf, .slice At pt.length ct, .slice As ps.length cs, .slice Ab pb.length cb] 26)).alloc (.cells #[.slice none 0 0, .slice none 0 0, .slice none 0 0, .slice none 0 0] 30)) (.cells #[.slice none 0 0, .slice none 0 0, .slice none 0 0, .slice none 0 0] 30)
  rw [World.size_alloc] at hy
  rw [World.size_alloc, World.size_alloc] at hz
  obtain ⟨W, hW⟩ : ∃ W, ((w.alloc (.cells #[.slice Af pf.length cf, .slice At pt.length ct, .slice As ps.length cs, .slice Ab pb.length cb] 26)).alloc (.cells #[.slice none 0 0, .slice none 0 0, .slice none 0 0, .slice none 0 0] 30)).alloc (.cells #[.slice none 0 0, .slice none 0 0, .slice none 0 0, .slice none 0 0] 30) = W := ⟨_, rfl⟩
  rw [hW] at hb0 hx hy hz
  have HX := Aside0.mk hx
  have HY := Aside0.mk hy
  have HZ := Aside0.mk hz
  have HB := Aside0.mk hb0
  have HC := Aside0.mk hC
  have hx0 := (blk_cell hx) 0
  have hx1 := (blk_cell hx) 1
  have hx2 := (blk_cell hx) 2
  have hx3 := (blk_cell hx) 3
  have hy0 := (blk_cell hy) 0
  have hy1 := (blk_cell hy) 1
  have hy2 := (blk_cell hy) 2
  have hy3 := (blk_cell hy) 3
  have hyf0 := free_of hy 0
  have hyf1 := free_of hy 1
  have hyf2 := free_of hy 2
  have hyf3 := free_of hy 3
  have hz0 := (blk_cell hz) 0
  have hz1 := (blk_cell hz) 1
  have hz2 := (blk_cell hz) 2
  have hz3 := (blk_cell hz) 3
  have hzf0 := free_of hz 0
  have hzf1 := free_of hz 1
  have hzf2 := free_of hz 2
  have hzf3 := free_of hz 3
  clear hb0 hx hy hz h hC
  go_enter Tryd.func16, Tryd.ntmps16
  go_upto_region 2 with (fail)
  go_cut [1, 2, 4, 35] (fun v1 v2 v4 v35 wx => v1 = .pointer (some ⟨w.heap.size, 0, none⟩) ∧ v2 = .pointer (some ⟨w.heap.size + 1, 0, none⟩) ∧ v4 = .pointer (some ⟨w.heap.size + 1 + 1, 0, none⟩) ∧ v35 = .bool (!okPlan (pf, pt, ps, pb)) ∧ Aside0 (wx.heap[w.heap.size]? = some (.cells #[.slice Af pf.length cf, .slice At pt.length ct, .slice As ps.length cs, .slice Ab pb.length cb] 26 (0, 0))) ∧ Aside0 (wx.heap[w.heap.size + 1]? = some (.cells #[.slice none 0 0, .slice none 0 0, .slice none 0 0, .slice none 0 0] 30 (0, 0))) ∧ Aside0 (wx.heap[w.heap.size + 1 + 1]? = some (.cells #[.slice Af pf.length cf, .slice At pt.length ct, .slice none 0 0, .slice Ab pb.length cb] 30 (0, 0))) ∧ Aside0 (Below w.heap.size w wx))
  case first =>
    have hne : ∀ (q : Nat) (W : World) (o : Nat) (v : Value), q ≠ w.heap.size + 1 + 1 → (W.setCell ⟨w.heap.size + 1 + 1, o, none⟩ v).heap[q]? = W.heap[q]? := fun q W o v h => Below.heap_setCell W ⟨w.heap.size + 1 + 1, o, none⟩ v q h
    have HNE := Aside0.mk hne
    clear hne
    go_wp2
    all_goals
      go_meet
      have hne := HNE.out
      refine ⟨rfl, rfl, rfl, ?_, ⟨?_⟩, ⟨?_⟩, ⟨?_⟩, ⟨?_⟩⟩
      · refine congrArg Value.bool ?_
        unfold okPlan
        dsimp only
        rw [Bool.eq_iff_iff, Bool.not_eq_true', decide_eq_false_iff_not]
        first
          | (simp only [decide_eq_true_eq]; omega)
          | (simp only [true_iff]; omega)
          | (simp; omega)
      · rw [hne _ _ _ _ (by omega), hne _ _ _ _ (by omega), hne _ _ _ _ (by omega), hne _ _ _ _ (by omega)]; exact HX.out
      · rw [hne _ _ _ _ (by omega), hne _ _ _ _ (by omega), hne _ _ _ _ (by omega), hne _ _ _ _ (by omega)]; exact HY.out
      · exact box4 HZ.out (.slice Af pf.length cf) (.slice At pt.length ct) (.slice none 0 0) (.slice Ab pb.length cb)
      · exact Below_sets (z := w.heap.size + 1 + 1) (by omega) [(0, .slice Af pf.length cf), (1, .slice At pt.length ct), (2, .slice none 0 0), (3, .slice Ab pb.length cb)] _ HB.out
  case rest =>
    obtain ⟨rfl, rfl, rfl, rfl, HX1, HY1, HZ1, HB1⟩ := hcut
    clear hx0 hx1 hx2 hx3 hy0 hy1 hy2 hy3 hyf0 hyf1 hyf2 hyf3 hz0 hz1 hz2 hz3 hzf0 hzf1 hzf2 hzf3 HX HY HZ HB hW
    cases hp : okPlan (pf, pt, ps, pb) with
    | false =>
      have gx0 := (blk_cell HX1.out) 0
      have gx1 := (blk_cell HX1.out) 1
      have gx2 := (blk_cell HX1.out) 2
      have gx3 := (blk_cell HX1.out) 3
      have gy0 := (blk_cell HY1.out) 0
      have gy1 := (blk_cell HY1.out) 1
      have gy2 := (blk_cell HY1.out) 2
      have gy3 := (blk_cell HY1.out) 3
      have gyf0 := free_of HY1.out 0
      have gyf1 := free_of HY1.out 1
      have gyf2 := free_of HY1.out 2
      have gyf3 := free_of HY1.out 3
      have gz0 := (blk_cell HZ1.out) 0
      have gz1 := (blk_cell HZ1.out) 1
      have gz2 := (blk_cell HZ1.out) 2
      have gz3 := (blk_cell HZ1.out) 3
      have HPP := Aside0.mk hp
      clear hp
      go_wp2
      refine bodyPost_ret (v := .tuple #[.agg #[.slice Af pf.length cf, .slice At pt.length ct, .slice none 0 0, .slice Ab pb.length cb], .bool false]) (by simp [results, Tryd.results16, go_sem, gy0, gy1, gy2, gy3]) rfl ?_
      refine ⟨none, 0, 0, by rw [HPP.out], fun h => (by rw [HPP.out] at h; cases h), ?_⟩
      exact Below_sets (z := w.heap.size + 1) (Nat.le_succ _) [(0, .slice Af pf.length cf), (1, .slice At pt.length ct), (2, .slice none 0 0), (3, .slice Ab pb.length cb)] _ HB1.out
    | true =>
      obtain ⟨l1, l2, l3, l4⟩ := okPlan_le hp
      dsimp only at l1 l2 l3 l4
      have HPP := Aside0.mk hp
      have HL3 := Aside0.mk l3
      have gx2 := (blk_cell HX1.out) 2
      clear hp l1 l2 l3 l4
      go_wp2
      go_loopg [6, 40] ps.length (fun kq v6 v40 w' => ∃ (i : Nat) (A5 : Option Addr) (c5 : Nat), v40 = .int .i64 (i : Int) ∧ Aside0 (i + kq = ps.length) ∧ Aside0 (Kd.R kP 80 w' w.heap.size (fun _ => True) (.slice A5 i c5) (ps.take i)) ∧ Aside0 (w'.heap[w.heap.size + 1]? = some (.cells #[.slice none 0 0, .slice none 0 0, .slice none 0 0, .slice none 0 0] 30 (0, 0))) ∧ Aside0 (w'.heap[w.heap.size + 1 + 1]? = some (.cells #[.slice Af pf.length cf, .slice At pt.length ct, .slice A5 i c5, .slice Ab pb.length cb] 30 (0, 0))) ∧ Aside0 (Below w.heap.size w w'))
      case atStart => exact ⟨0, none, 0, rfl, ⟨by omega⟩, ⟨Kd.R_nil _ _ _ _ _⟩, HY1, HZ1, HB1⟩
      case round =>
        clear gx2 HX1 HY1 HZ1 HB1
        obtain ⟨i, A5, c5, rfl, HJ, HR, HY, HZ, HB⟩ := hrel
        by_cases c1 : i < ps.length
        · have e1 : decide (i < ps.length) = true := decide_eq_true c1
          have HE5 : Aside0 (wrap64 ((i : Int) + 1) = ((i + 1 : Nat) : Int)) := ⟨by have := HL3.out; unfold wrap64; omega⟩
          obtain ⟨ad, ea, hx, hy⟩ := at_stp HC.out i c1
          cases ea
          replace hx := pw_cell_below HB.out hx
          replace hy := pw_cell_below HB.out hy
          have HTK : Aside0 (ps.take i ++ [ps.getD i (0, 0)] = ps.take (i + 1)) := ⟨(take_snoc' c1 _).symm⟩
          obtain ⟨e, he⟩ : ∃ e, ps.getD i (0, 0) = e := ⟨_, rfl⟩
          rw [he] at hx hy HTK
          obtain ⟨a, b⟩ := e
          dsimp only at hx hy
          have hb2 := below_alloc (Below.refl wr.heap.size wr) (.cells #[.int .i64 a, .int .i64 b] 50)
          have HRA := Aside0.mk (Kd.R_below HR.out hb2)
          have HYA := Aside0.mk (blk_below HY.out hb2)
          have HZA := Aside0.mk (blk_below HZ.out hb2)
          have HBA := Aside0.mk (below_step HB.out hb2)
          have HGA := Aside0.mk (heap_last wr (.cells #[.int .i64 a, .int .i64 b] 50))
          have hg0 := (blk_cell HGA.out) 0
          have hg1 := (blk_cell HGA.out) 1
          have hz2 := (blk_cell HZA.out) 2
          have HI := Aside0.mk c1
          have hlen : (ps.take i).length = i := by rw [List.length_take]; omega
          have HLEN := Aside0.mk hlen
          clear hlen he hb2
          go_wp2_with (first
            | ((with_reducible refine gate_dst (N := 47) rfl ?_); refine Kd.R_lit kP (w0 := wr.alloc (.cells #[.int .i64 a, .int .i64 b] 50)) (wr.alloc (.cells #[.int .i64 a, .int .i64 b] 50)).heap.size 80 ?hg (N := 47) ?hd (xs := [(a, b)]) (inner := [.int .i64 a, .int .i64 b]) (ok := fun k => True ∧ some k ≠ (Value.slice A5 i c5).ownBlock) (okp := fun k => True ∧ some k ≠ (Value.slice A5 i c5).ownBlock) ?hr ?hp (fun _ hk => hk) ⟨trivial, R_fresh HRA.out⟩ (Below.refl _ _) (Nat.le_refl _) (by simp) ?_; (case hd => rfl); (case hg => rfl); (case hr => first | (go_simp; done) | (go_simp; rfl)); (case hp => exact reps1 (show Kd.M kP _ _ _ (a, b) [.int .i64 a, .int .i64 b] from ⟨[.int .i64 a], [.int .i64 b], rfl, rfl, rfl⟩) rfl); intro v43 w7 ho hb hg_ hnew_; clear hg_ hnew_; obtain ⟨A43, c43, rfl, hcl43, hC43⟩ := OwnRow.reads ho.2; have HC43 := Aside0.mk hC43; have HO1 := Aside0.mk (Kd.R_below HRA.out hb); have HY7 := Aside0.mk (blk_below HYA.out hb); have HZ7 := Aside0.mk (blk_below HZA.out hb); have HB7 := Aside0.mk (below_step HBA.out hb); clear ho hb hC43 hcl43)
            | ((with_reducible refine gate_builtin (b := .append) (xs := #[.tmp 45, .tmp 47]) rfl ?_); at_builtin; refine Halt.out ?_))
          unfold Halt
          refine Kd.R_append_rows kP (w0 := w) w.heap.size rfl (.tmp 45) (.tmp 47) 28 80 (.agg #[.int .i64 0, .int .i64 0]) 16 rfl (by kernel_rfl) info_rstep rfl (by decide) (by decide) (.slice A5 i c5) (ps.take i) [(a, b)] A43 1 c43 (fun _ => True) (fun k => (True ∧ some k ≠ (Value.slice A5 i c5).ownBlock) ∧ some k ≠ (Value.slice A43 [(a, b)].length c43).ownBlock) rfl rfl HO1.out HC43.out (fun _ _ h => h) (fun k hk => ⟨trivial, hk.1.2⟩) (fun _ _ => trivial) HB7.out (below_size HB7.out) (by have := HLEN.out; have := HI.out; have := HL3.out; omega) ?_
          intro v44 w8 ho hb hgr hat
          rw [HTK.out] at ho
          obtain ⟨A44, c44, rfl⟩ := Kd.R_slice ho
          have hl2 : (ps.take (i + 1)).length = i + 1 := by have := HI.out; rw [List.length_take]; omega
          rw [hl2] at ho ⊢
          clear hl2
          have HO8 := Aside0.mk ho
          have HY8 := Aside0.mk (blk_grown HY7.out hgr (Kd.R_ne HO1.out HY7.out (by decide)))
          have HZ8 := Aside0.mk (blk_grown HZ7.out hgr (Kd.R_ne HO1.out HZ7.out (by decide)))
          have HB8 := Aside0.mk hb
          have gf2 := free_of HZ8.out 2
          have gq2 := (blk_cell HZ8.out) 2
          clear ho hb hgr hat
          go_wp2_with (fail)
          go_roundg (gk - 1)
          case measure => have := HJ.out; have := HI.out; omega
          case rel =>
            have hR := Kd.R_set HO8.out HZ8.out (by decide) 2 (.slice A44 (i + 1) c44)
            have hZ := box2 HZ8.out (.slice A44 (i + 1) c44)
            have hY := (Below.heap_setCell w8 ⟨w.heap.size + 1 + 1, 2, none⟩ (.slice A44 (i + 1) c44) (w.heap.size + 1) (by show w.heap.size + 1 ≠ w.heap.size + 1 + 1; omega)).trans HY8.out
            have hB := HB8.out.setCell (p := ⟨w.heap.size + 1 + 1, 2, none⟩) (Nat.le_add_right _ 2) (.slice A44 (i + 1) c44)
            exact ⟨i + 1, A44, c44, (by first | exact congrArg _ HE5.out | rfl), ⟨by have := HJ.out; have := HI.out; omega⟩, ⟨hR⟩, ⟨hY⟩, ⟨hZ⟩, ⟨hB⟩⟩
        · have e1 : decide (i < ps.length) = false := decide_eq_false c1
          have HI : Aside0 (i = ps.length) := ⟨by have := HJ.out; omega⟩
          have gy0 := (blk_cell HY.out) 0
          have gy1 := (blk_cell HY.out) 1
          have gy2 := (blk_cell HY.out) 2
          have gy3 := (blk_cell HY.out) 3
          have gyf0 := free_of HY.out 0
          have gyf1 := free_of HY.out 1
          have gyf2 := free_of HY.out 2
          have gyf3 := free_of HY.out 3
          have gz0 := (blk_cell HZ.out) 0
          have gz1 := (blk_cell HZ.out) 1
          have gz2 := (blk_cell HZ.out) 2
          have gz3 := (blk_cell HZ.out) 3
          go_wp2
          refine bodyPost_ret (v := .tuple #[.agg #[.slice Af pf.length cf, .slice At pt.length ct, .slice A5 i c5, .slice Ab pb.length cb], .bool true]) (by simp [results, Tryd.results16, go_sem, gy0, gy1, gy2, gy3]) rfl ?_
          refine ⟨A5, i, c5, by rw [HPP.out], fun _ => ?_, ?_⟩
          · have hr := Kd.R_set (Kd.R_set (Kd.R_set (Kd.R_set HR.out HY.out (by decide) 0 (.slice Af pf.length cf)) (box_set HY.out _) (by decide) 1 (.slice At pt.length ct)) (box_set (box_set HY.out _) _) (by decide) 2 (.slice A5 i c5)) (box_set (box_set (box_set HY.out _) _) _) (by decide) 3 (.slice Ab pb.length cb)
            have hi := HI.out
            rw [show ps.take i = ps from List.take_of_length_le (by omega)] at hr
            exact hr
          · exact Below_sets (z := w.heap.size + 1) (Nat.le_succ _) [(0, .slice Af pf.length cf), (1, .slice At pt.length ct), (2, .slice A5 i c5), (3, .slice Ab pb.length cb)] _ HB.out
end Go.Proofs.YtplhihakeodadaaDoor.Sg
