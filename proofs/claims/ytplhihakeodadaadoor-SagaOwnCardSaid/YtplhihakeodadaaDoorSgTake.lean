/- saga: Take, walked. (written by gen_take.py) -/
import Derived.Test.YtplhihakeodadaaDoorSgAsk
import Derived.Test.YtplhihakeodadaaDoorSgOwn2
namespace Go.Proofs.YtplhihakeodadaaDoor.Sg
open Go Go.RowKit Go.Proofs.YtplhihakeodadaaDoorW.PrintWords Go.Proofs.YtplhihakeodadaaDoorW.PrintLast Go.Proofs.YtplhihakeodadaaDoorW.PrintMore
set_option linter.unusedVariables false
set_option linter.unusedSimpArgs false
theorem box8 {w : World} {b t : Nat} {a0 a1 a2 a3 a4 a5 a6 a7 : Value} (h : w.heap[b]? = some (.cells #[a0, a1, a2, a3, a4, a5, a6, a7] t (0, 0))) (v0 v1 v2 v3 v4 v5 v6 v7 : Value) : (sets b w [(0, v0), (1, v1), (2, v2), (3, v3), (4, v4), (5, v5), (6, v6), (7, v7)]).heap[b]? = some (.cells #[v0, v1, v2, v3, v4, v5, v6, v7] t (0, 0)) := by
  have h1 : (w.setCell ⟨b, 0, none⟩ v0).heap[b]? = some (.cells #[v0, a1, a2, a3, a4, a5, a6, a7] t (0, 0)) := box_set h v0
  have h2 : ((w.setCell ⟨b, 0, none⟩ v0).setCell ⟨b, 1, none⟩ v1).heap[b]? = some (.cells #[v0, v1, a2, a3, a4, a5, a6, a7] t (0, 0)) := box_set h1 v1
  have h3 : (((w.setCell ⟨b, 0, none⟩ v0).setCell ⟨b, 1, none⟩ v1).setCell ⟨b, 2, none⟩ v2).heap[b]? = some (.cells #[v0, v1, v2, a3, a4, a5, a6, a7] t (0, 0)) := box_set h2 v2
  have h4 : ((((w.setCell ⟨b, 0, none⟩ v0).setCell ⟨b, 1, none⟩ v1).setCell ⟨b, 2, none⟩ v2).setCell ⟨b, 3, none⟩ v3).heap[b]? = some (.cells #[v0, v1, v2, v3, a4, a5, a6, a7] t (0, 0)) := box_set h3 v3
  have h5 : (((((w.setCell ⟨b, 0, none⟩ v0).setCell ⟨b, 1, none⟩ v1).setCell ⟨b, 2, none⟩ v2).setCell ⟨b, 3, none⟩ v3).setCell ⟨b, 4, none⟩ v4).heap[b]? = some (.cells #[v0, v1, v2, v3, v4, a5, a6, a7] t (0, 0)) := box_set h4 v4
  have h6 : ((((((w.setCell ⟨b, 0, none⟩ v0).setCell ⟨b, 1, none⟩ v1).setCell ⟨b, 2, none⟩ v2).setCell ⟨b, 3, none⟩ v3).setCell ⟨b, 4, none⟩ v4).setCell ⟨b, 5, none⟩ v5).heap[b]? = some (.cells #[v0, v1, v2, v3, v4, v5, a6, a7] t (0, 0)) := box_set h5 v5
  have h7 : (((((((w.setCell ⟨b, 0, none⟩ v0).setCell ⟨b, 1, none⟩ v1).setCell ⟨b, 2, none⟩ v2).setCell ⟨b, 3, none⟩ v3).setCell ⟨b, 4, none⟩ v4).setCell ⟨b, 5, none⟩ v5).setCell ⟨b, 6, none⟩ v6).heap[b]? = some (.cells #[v0, v1, v2, v3, v4, v5, v6, a7] t (0, 0)) := box_set h6 v6
  have h8 : ((((((((w.setCell ⟨b, 0, none⟩ v0).setCell ⟨b, 1, none⟩ v1).setCell ⟨b, 2, none⟩ v2).setCell ⟨b, 3, none⟩ v3).setCell ⟨b, 4, none⟩ v4).setCell ⟨b, 5, none⟩ v5).setCell ⟨b, 6, none⟩ v6).setCell ⟨b, 7, none⟩ v7).heap[b]? = some (.cells #[v0, v1, v2, v3, v4, v5, v6, v7] t (0, 0)) := box_set h7 v7
  exact h8
theorem box67 {w : World} {b t : Nat} {a0 a1 a2 a3 a4 a5 a6 a7 : Value} (h : w.heap[b]? = some (.cells #[a0, a1, a2, a3, a4, a5, a6, a7] t (0, 0))) (v6 v7 : Value) : (sets b w [(6, v6), (7, v7)]).heap[b]? = some (.cells #[a0, a1, a2, a3, a4, a5, v6, v7] t (0, 0)) := by
  have h1 : (w.setCell ⟨b, 6, none⟩ v6).heap[b]? = some (.cells #[a0, a1, a2, a3, a4, a5, v6, a7] t (0, 0)) := box_set h v6
  have h2 : ((w.setCell ⟨b, 6, none⟩ v6).setCell ⟨b, 7, none⟩ v7).heap[b]? = some (.cells #[a0, a1, a2, a3, a4, a5, v6, v7] t (0, 0)) := box_set h1 v7
  exact h2
theorem box6 {w : World} {b t : Nat} {a0 a1 a2 a3 a4 a5 a6 a7 : Value} (h : w.heap[b]? = some (.cells #[a0, a1, a2, a3, a4, a5, a6, a7] t (0, 0))) (v6 : Value) : (sets b w [(6, v6)]).heap[b]? = some (.cells #[a0, a1, a2, a3, a4, a5, v6, a7] t (0, 0)) :=
  box_set h v6
theorem box1 {w : World} {b t : Nat} {a0 a1 a2 a3 a4 a5 a6 a7 : Value} (h : w.heap[b]? = some (.cells #[a0, a1, a2, a3, a4, a5, a6, a7] t (0, 0))) (v1 : Value) : (sets b w [(1, v1)]).heap[b]? = some (.cells #[a0, v1, a2, a3, a4, a5, a6, a7] t (0, 0)) :=
  box_set h v1
/-- What Take comes to. -/
def Took (w : World) (s : SS) (err : Int) (e : Ending) (w' : World) : Prop := ∃ V', e = .returned (.tuple #[.agg (stv V' s), .int .i64 err]) ∧ StR w' w.heap.size V' s ∧ Below w.heap.size w w'
theorem StR.opened {w : World} {base : Nat} {V : SV} {s : SS} (h : StR w base V s) : ∃ Af cf At ct As cs Ab cb Ao co Ad cd, V = ⟨⟨.slice Af s.pl.1.length cf, .slice At s.pl.2.1.length ct, .slice As s.pl.2.2.1.length cs, .slice Ab s.pl.2.2.2.length cb⟩, .slice Ao s.op.length co, .slice Ad s.dn.length cd⟩ := by
  obtain ⟨⟨f, t, st, b⟩, o, d⟩ := V
  obtain ⟨A0, d0, h0⟩ : ∃ A c, f = .slice A s.pl.1.length c := Kd.R_slice h.1.1
  obtain ⟨A1, d1, h1⟩ : ∃ A c, t = .slice A s.pl.2.1.length c := Kd.R_slice h.1.2.1
  obtain ⟨A2, d2, h2⟩ : ∃ A c, st = .slice A s.pl.2.2.1.length c := Kd.R_slice h.1.2.2.1
  obtain ⟨A3, d3, h3⟩ : ∃ A c, b = .slice A s.pl.2.2.2.length c := Kd.R_slice h.1.2.2.2
  obtain ⟨A4, d4, h4⟩ : ∃ A c, o = .slice A s.op.length c := Kd.R_slice h.2.1
  obtain ⟨A5, d5, h5⟩ : ∃ A c, d = .slice A s.dn.length c := Kd.R_slice h.2.2
  subst h0 h1 h2 h3 h4 h5
  exact ⟨A0, d0, A1, d1, A2, d2, A3, d3, A4, d4, A5, d5, rfl⟩
def stl (V : SV) (s : SS) : List (Nat × Value) := [(0, .int .i64 s.num), (1, .int .i64 s.ph), (2, V.p.f), (3, V.p.t), (4, V.p.st), (5, V.p.b), (6, V.o), (7, V.d)]
set_option maxHeartbeats 16000000 in
set_option maxRecDepth 20000 in
theorem takeF_T (V : SV) (s : SS) (U : PV) (r : RR) (w : World) (hT : TabW w) (h : StC w V s) (hu : PlC w U r.pl) (hp : okPlan s.pl = true) (hq : okPlan r.pl = true) (ho : s.op.length ≤ 1000000) (hd : s.dn.length ≤ 1000000) (hn : 0 ≤ s.num ∧ s.num ≤ 1000000) (hf : formed r = false) :
    Calls Tryd.prog 17 #[.agg (stv V s), .agg (rrv U r)] w (Took w ss0 12) := by
  have hop0 := h
  obtain ⟨Af, cf, At, ct, As, cs, Ab, cb, Ao, co, Ad, cd, hst, _⟩ := h.opened
  obtain ⟨Bf, df, Bt, dt, Bs, ds, Bb, db, hpl⟩ := hu.opened
  have hrr := rrv_plv (r := r) hpl
  obtain ⟨o, hO⟩ : ∃ o, Obj.cells (stv V s) 34 = o := ⟨_, rfl⟩
  obtain ⟨o2, hO2⟩ : ∃ o, Obj.cells (rrv U r) 39 = o := ⟨_, rfl⟩
  have hb1 := below_alloc (below_alloc (Below.refl w.heap.size w) o) o2
  have hb := below_alloc hb1 (.cells z8 34)
  have hg := blk_alloc (blk_alloc (heap_last w o) o2) (.cells z8 34)
  have hl := heap_last (w.alloc o) o2
  rw [World.size_alloc] at hl
  replace hl := blk_alloc hl (.cells z8 34)
  have hz := heap_last ((w.alloc o).alloc o2) (.cells z8 34)
  rw [World.size_alloc, World.size_alloc] at hz
  obtain ⟨W, hW⟩ : ∃ W, ((w.alloc o).alloc o2).alloc (.cells z8 34) = W := ⟨_, rfl⟩
  rw [hW] at hb hg hl hz
  subst hO hO2
  have HB := Aside0.mk hb
  have HT := Aside0.mk (hT.below hb)
  have HSC := Aside0.mk (h.below hb)
  have HUC := Aside0.mk (hu.below hb)
  have HHP := Aside0.mk hp
  have HHQ := Aside0.mk hq
  have HHO := Aside0.mk ho
  have HHD := Aside0.mk hd
  have HHN := Aside0.mk hn
  have KF := Aside0.mk (formed_T U r W HUC.out hq)
  have KW := Aside0.mk (fun W => when_T r.kind s.ph W)
  have KA := Aside0.mk (fun W' (hb : Below W.heap.size W W') (hf : formed r = true) => ask_T V s U r W' (HT.out.below hb) (HSC.out.below hb) (HUC.out.below hb) hp hq (by omega) (by omega) hf)
  have KO := Aside0.mk (fun W' (hb : Below W.heap.size W W') => own_T V s W' (HSC.out.below hb) hp (by omega) (by omega))
  rw [hst] at hg hW ⊢ KA KO
  rw [hrr] at hl hW ⊢ KF KA
  unfold z8 at hW hz
  have HG := Aside0.mk hg
  have HL := Aside0.mk hl
  have HZ := Aside0.mk hz
  have hg0 := (blk_cell hg) 0
  have hg1 := (blk_cell hg) 1
  have hg2 := (blk_cell hg) 2
  have hg3 := (blk_cell hg) 3
  have hg4 := (blk_cell hg) 4
  have hg5 := (blk_cell hg) 5
  have hg6 := (blk_cell hg) 6
  have hg7 := (blk_cell hg) 7
  have hl0 := (blk_cell hl) 0
  have hl1 := (blk_cell hl) 1
  have hl2 := (blk_cell hl) 2
  have hl3 := (blk_cell hl) 3
  have hl4 := (blk_cell hl) 4
  have hl5 := (blk_cell hl) 5
  have hz0 := (blk_cell hz) 0
  have hz1 := (blk_cell hz) 1
  have hz2 := (blk_cell hz) 2
  have hz3 := (blk_cell hz) 3
  have hz4 := (blk_cell hz) 4
  have hz5 := (blk_cell hz) 5
  have hz6 := (blk_cell hz) 6
  have hz7 := (blk_cell hz) 7
  have hzf0 := free_of hz 0
  have hzf1 := free_of hz 1
  have hzf2 := free_of hz 2
  have hzf3 := free_of hz 3
  have hzf4 := free_of hz 4
  have hzf5 := free_of hz 5
  have hzf6 := free_of hz 6
  have hzf7 := free_of hz 7
  have HST := Aside0.mk hst
  have HU0 := Aside0.mk hu
  have HPL := Aside0.mk hpl
  clear hb hb1 hg hl hz hop0 h hu hT hp hq ho hd hn hst hpl hrr
  rw [hf] at KF
  go_enter Tryd.func17, Tryd.ntmps17
  go_wp2_with (fail)
  refine KF.out.mono ?_
  rintro e w1 ⟨rfl, hb⟩
  have HBW := Aside0.mk hb
  have HG1 := Aside0.mk (blk_below HG.out hb)
  have HL1 := Aside0.mk (blk_below HL.out hb)
  have HZ1 := Aside0.mk (blk_below HZ.out hb)
  have ga0 := (blk_cell HG1.out) 0
  have ga1 := (blk_cell HG1.out) 1
  have ga2 := (blk_cell HG1.out) 2
  have ga3 := (blk_cell HG1.out) 3
  have ga4 := (blk_cell HG1.out) 4
  have ga5 := (blk_cell HG1.out) 5
  have ga6 := (blk_cell HG1.out) 6
  have ga7 := (blk_cell HG1.out) 7
  have la0 := (blk_cell HL1.out) 0
  have la1 := (blk_cell HL1.out) 1
  have la2 := (blk_cell HL1.out) 2
  have la3 := (blk_cell HL1.out) 3
  have la4 := (blk_cell HL1.out) 4
  have la5 := (blk_cell HL1.out) 5
  have za0 := (blk_cell HZ1.out) 0
  have za1 := (blk_cell HZ1.out) 1
  have za2 := (blk_cell HZ1.out) 2
  have za3 := (blk_cell HZ1.out) 3
  have za4 := (blk_cell HZ1.out) 4
  have za5 := (blk_cell HZ1.out) 5
  have za6 := (blk_cell HZ1.out) 6
  have za7 := (blk_cell HZ1.out) 7
  have zaf0 := free_of HZ1.out 0
  have zaf1 := free_of HZ1.out 1
  have zaf2 := free_of HZ1.out 2
  have zaf3 := free_of HZ1.out 3
  have zaf4 := free_of HZ1.out 4
  have zaf5 := free_of HZ1.out 5
  have zaf6 := free_of HZ1.out 6
  have zaf7 := free_of HZ1.out 7
  clear hb hW hg0 hg1 hg2 hg3 hg4 hg5 hg6 hg7 hl0 hl1 hl2 hl3 hl4 hl5 hz0 hz1 hz2 hz3 hz4 hz5 hz6 hz7 hzf0 hzf1 hzf2 hzf3 hzf4 hzf5 hzf6 hzf7
  go_wp2
  refine bodyPost_ret (v := .tuple #[.agg #[.int .i64 0, .int .i64 0, .slice none 0 0, .slice none 0 0, .slice none 0 0, .slice none 0 0, .slice none 0 0, .slice none 0 0], .int .i64 12]) (by simp [results, Tryd.results17, go_sem, za0, za1, za2, za3, za4, za5, za6, za7]) rfl ?_
  refine ⟨sv0, rfl, StR.zero _ _, ?_⟩
  exact Below_sets (Nat.le_add_right _ 2) (stl sv0 ss0) _ (below_step HB.out HBW.out)
set_option maxHeartbeats 16000000 in
set_option maxRecDepth 20000 in
theorem takeW_T (V : SV) (s : SS) (U : PV) (r : RR) (w : World) (hT : TabW w) (h : StC w V s) (hu : PlC w U r.pl) (hp : okPlan s.pl = true) (hq : okPlan r.pl = true) (ho : s.op.length ≤ 1000000) (hd : s.dn.length ≤ 1000000) (hn : 0 ≤ s.num ∧ s.num ≤ 1000000) (hf : formed r = true) (hw : when r.kind s.ph = false) :
    Calls Tryd.prog 17 #[.agg (stv V s), .agg (rrv U r)] w (Took w ss0 70) := by
  have hop0 := h
  obtain ⟨Af, cf, At, ct, As, cs, Ab, cb, Ao, co, Ad, cd, hst, _⟩ := h.opened
  obtain ⟨Bf, df, Bt, dt, Bs, ds, Bb, db, hpl⟩ := hu.opened
  have hrr := rrv_plv (r := r) hpl
  obtain ⟨o, hO⟩ : ∃ o, Obj.cells (stv V s) 34 = o := ⟨_, rfl⟩
  obtain ⟨o2, hO2⟩ : ∃ o, Obj.cells (rrv U r) 39 = o := ⟨_, rfl⟩
  have hb1 := below_alloc (below_alloc (Below.refl w.heap.size w) o) o2
  have hb := below_alloc hb1 (.cells z8 34)
  have hg := blk_alloc (blk_alloc (heap_last w o) o2) (.cells z8 34)
  have hl := heap_last (w.alloc o) o2
  rw [World.size_alloc] at hl
  replace hl := blk_alloc hl (.cells z8 34)
  have hz := heap_last ((w.alloc o).alloc o2) (.cells z8 34)
  rw [World.size_alloc, World.size_alloc] at hz
  obtain ⟨W, hW⟩ : ∃ W, ((w.alloc o).alloc o2).alloc (.cells z8 34) = W := ⟨_, rfl⟩
  rw [hW] at hb hg hl hz
  subst hO hO2
  have HB := Aside0.mk hb
  have HT := Aside0.mk (hT.below hb)
  have HSC := Aside0.mk (h.below hb)
  have HUC := Aside0.mk (hu.below hb)
  have HHP := Aside0.mk hp
  have HHQ := Aside0.mk hq
  have HHO := Aside0.mk ho
  have HHD := Aside0.mk hd
  have HHN := Aside0.mk hn
  have KF := Aside0.mk (formed_T U r W HUC.out hq)
  have KW := Aside0.mk (fun W => when_T r.kind s.ph W)
  have KA := Aside0.mk (fun W' (hb : Below W.heap.size W W') (hf : formed r = true) => ask_T V s U r W' (HT.out.below hb) (HSC.out.below hb) (HUC.out.below hb) hp hq (by omega) (by omega) hf)
  have KO := Aside0.mk (fun W' (hb : Below W.heap.size W W') => own_T V s W' (HSC.out.below hb) hp (by omega) (by omega))
  rw [hst] at hg hW ⊢ KA KO
  rw [hrr] at hl hW ⊢ KF KA
  unfold z8 at hW hz
  have HG := Aside0.mk hg
  have HL := Aside0.mk hl
  have HZ := Aside0.mk hz
  have hg0 := (blk_cell hg) 0
  have hg1 := (blk_cell hg) 1
  have hg2 := (blk_cell hg) 2
  have hg3 := (blk_cell hg) 3
  have hg4 := (blk_cell hg) 4
  have hg5 := (blk_cell hg) 5
  have hg6 := (blk_cell hg) 6
  have hg7 := (blk_cell hg) 7
  have hl0 := (blk_cell hl) 0
  have hl1 := (blk_cell hl) 1
  have hl2 := (blk_cell hl) 2
  have hl3 := (blk_cell hl) 3
  have hl4 := (blk_cell hl) 4
  have hl5 := (blk_cell hl) 5
  have hz0 := (blk_cell hz) 0
  have hz1 := (blk_cell hz) 1
  have hz2 := (blk_cell hz) 2
  have hz3 := (blk_cell hz) 3
  have hz4 := (blk_cell hz) 4
  have hz5 := (blk_cell hz) 5
  have hz6 := (blk_cell hz) 6
  have hz7 := (blk_cell hz) 7
  have hzf0 := free_of hz 0
  have hzf1 := free_of hz 1
  have hzf2 := free_of hz 2
  have hzf3 := free_of hz 3
  have hzf4 := free_of hz 4
  have hzf5 := free_of hz 5
  have hzf6 := free_of hz 6
  have hzf7 := free_of hz 7
  have HST := Aside0.mk hst
  have HU0 := Aside0.mk hu
  have HPL := Aside0.mk hpl
  clear hb hb1 hg hl hz hop0 h hu hT hp hq ho hd hn hst hpl hrr
  rw [hf] at KF
  rw [hw] at KW
  go_enter Tryd.func17, Tryd.ntmps17
  go_wp2_with (fail)
  refine KF.out.mono ?_
  rintro e w1 ⟨rfl, hb⟩
  have HBW := Aside0.mk hb
  have HG1 := Aside0.mk (blk_below HG.out hb)
  have HL1 := Aside0.mk (blk_below HL.out hb)
  have HZ1 := Aside0.mk (blk_below HZ.out hb)
  have ga0 := (blk_cell HG1.out) 0
  have ga1 := (blk_cell HG1.out) 1
  have ga2 := (blk_cell HG1.out) 2
  have ga3 := (blk_cell HG1.out) 3
  have ga4 := (blk_cell HG1.out) 4
  have ga5 := (blk_cell HG1.out) 5
  have ga6 := (blk_cell HG1.out) 6
  have ga7 := (blk_cell HG1.out) 7
  have la0 := (blk_cell HL1.out) 0
  have la1 := (blk_cell HL1.out) 1
  have la2 := (blk_cell HL1.out) 2
  have la3 := (blk_cell HL1.out) 3
  have la4 := (blk_cell HL1.out) 4
  have la5 := (blk_cell HL1.out) 5
  have za0 := (blk_cell HZ1.out) 0
  have za1 := (blk_cell HZ1.out) 1
  have za2 := (blk_cell HZ1.out) 2
  have za3 := (blk_cell HZ1.out) 3
  have za4 := (blk_cell HZ1.out) 4
  have za5 := (blk_cell HZ1.out) 5
  have za6 := (blk_cell HZ1.out) 6
  have za7 := (blk_cell HZ1.out) 7
  have zaf0 := free_of HZ1.out 0
  have zaf1 := free_of HZ1.out 1
  have zaf2 := free_of HZ1.out 2
  have zaf3 := free_of HZ1.out 3
  have zaf4 := free_of HZ1.out 4
  have zaf5 := free_of HZ1.out 5
  have zaf6 := free_of HZ1.out 6
  have zaf7 := free_of HZ1.out 7
  clear hb hW hg0 hg1 hg2 hg3 hg4 hg5 hg6 hg7 hl0 hl1 hl2 hl3 hl4 hl5 hz0 hz1 hz2 hz3 hz4 hz5 hz6 hz7 hzf0 hzf1 hzf2 hzf3 hzf4 hzf5 hzf6 hzf7
  go_wp2_with (fail)
  refine (KW.out w1).mono ?_
  rintro e w2 ⟨rfl, rfl⟩
  go_wp2
  refine bodyPost_ret (v := .tuple #[.agg #[.int .i64 0, .int .i64 0, .slice none 0 0, .slice none 0 0, .slice none 0 0, .slice none 0 0, .slice none 0 0, .slice none 0 0], .int .i64 70]) (by simp [results, Tryd.results17, go_sem, za0, za1, za2, za3, za4, za5, za6, za7]) rfl ?_
  refine ⟨sv0, rfl, StR.zero _ _, ?_⟩
  exact Below_sets (Nat.le_add_right _ 2) (stl sv0 ss0) _ (below_step HB.out HBW.out)
set_option maxHeartbeats 16000000 in
set_option maxRecDepth 20000 in
theorem takeA_T (V : SV) (s : SS) (U : PV) (r : RR) (w : World) (hT : TabW w) (h : StC w V s) (hu : PlC w U r.pl) (hp : okPlan s.pl = true) (hq : okPlan r.pl = true) (ho : s.op.length ≤ 1000000) (hd : s.dn.length ≤ 1000000) (hn : 0 ≤ s.num ∧ s.num ≤ 1000000) (E : Int) (hf : formed r = true) (hw : when r.kind s.ph = true) (ha : ask s r = E) (hE : E ≠ 0) :
    Calls Tryd.prog 17 #[.agg (stv V s), .agg (rrv U r)] w (Took w ss0 E) := by
  have hop0 := h
  obtain ⟨Af, cf, At, ct, As, cs, Ab, cb, Ao, co, Ad, cd, hst, _⟩ := h.opened
  obtain ⟨Bf, df, Bt, dt, Bs, ds, Bb, db, hpl⟩ := hu.opened
  have hrr := rrv_plv (r := r) hpl
  obtain ⟨o, hO⟩ : ∃ o, Obj.cells (stv V s) 34 = o := ⟨_, rfl⟩
  obtain ⟨o2, hO2⟩ : ∃ o, Obj.cells (rrv U r) 39 = o := ⟨_, rfl⟩
  have hb1 := below_alloc (below_alloc (Below.refl w.heap.size w) o) o2
  have hb := below_alloc hb1 (.cells z8 34)
  have hg := blk_alloc (blk_alloc (heap_last w o) o2) (.cells z8 34)
  have hl := heap_last (w.alloc o) o2
  rw [World.size_alloc] at hl
  replace hl := blk_alloc hl (.cells z8 34)
  have hz := heap_last ((w.alloc o).alloc o2) (.cells z8 34)
  rw [World.size_alloc, World.size_alloc] at hz
  obtain ⟨W, hW⟩ : ∃ W, ((w.alloc o).alloc o2).alloc (.cells z8 34) = W := ⟨_, rfl⟩
  rw [hW] at hb hg hl hz
  subst hO hO2
  have HB := Aside0.mk hb
  have HT := Aside0.mk (hT.below hb)
  have HSC := Aside0.mk (h.below hb)
  have HUC := Aside0.mk (hu.below hb)
  have HHP := Aside0.mk hp
  have HHQ := Aside0.mk hq
  have HHO := Aside0.mk ho
  have HHD := Aside0.mk hd
  have HHN := Aside0.mk hn
  have KF := Aside0.mk (formed_T U r W HUC.out hq)
  have KW := Aside0.mk (fun W => when_T r.kind s.ph W)
  have KA := Aside0.mk (fun W' (hb : Below W.heap.size W W') (hf : formed r = true) => ask_T V s U r W' (HT.out.below hb) (HSC.out.below hb) (HUC.out.below hb) hp hq (by omega) (by omega) hf)
  have KO := Aside0.mk (fun W' (hb : Below W.heap.size W W') => own_T V s W' (HSC.out.below hb) hp (by omega) (by omega))
  rw [hst] at hg hW ⊢ KA KO
  rw [hrr] at hl hW ⊢ KF KA
  unfold z8 at hW hz
  have HG := Aside0.mk hg
  have HL := Aside0.mk hl
  have HZ := Aside0.mk hz
  have hg0 := (blk_cell hg) 0
  have hg1 := (blk_cell hg) 1
  have hg2 := (blk_cell hg) 2
  have hg3 := (blk_cell hg) 3
  have hg4 := (blk_cell hg) 4
  have hg5 := (blk_cell hg) 5
  have hg6 := (blk_cell hg) 6
  have hg7 := (blk_cell hg) 7
  have hl0 := (blk_cell hl) 0
  have hl1 := (blk_cell hl) 1
  have hl2 := (blk_cell hl) 2
  have hl3 := (blk_cell hl) 3
  have hl4 := (blk_cell hl) 4
  have hl5 := (blk_cell hl) 5
  have hz0 := (blk_cell hz) 0
  have hz1 := (blk_cell hz) 1
  have hz2 := (blk_cell hz) 2
  have hz3 := (blk_cell hz) 3
  have hz4 := (blk_cell hz) 4
  have hz5 := (blk_cell hz) 5
  have hz6 := (blk_cell hz) 6
  have hz7 := (blk_cell hz) 7
  have hzf0 := free_of hz 0
  have hzf1 := free_of hz 1
  have hzf2 := free_of hz 2
  have hzf3 := free_of hz 3
  have hzf4 := free_of hz 4
  have hzf5 := free_of hz 5
  have hzf6 := free_of hz 6
  have hzf7 := free_of hz 7
  have HST := Aside0.mk hst
  have HU0 := Aside0.mk hu
  have HPL := Aside0.mk hpl
  clear hb hb1 hg hl hz hop0 h hu hT hp hq ho hd hn hst hpl hrr
  rw [hf] at KF
  rw [hw] at KW
  rw [ha] at KA
  have hE1 : (E != 0) = true := by simpa using hE
  go_enter Tryd.func17, Tryd.ntmps17
  go_wp2_with (fail)
  refine KF.out.mono ?_
  rintro e w1 ⟨rfl, hb⟩
  have HBW := Aside0.mk hb
  have HG1 := Aside0.mk (blk_below HG.out hb)
  have HL1 := Aside0.mk (blk_below HL.out hb)
  have HZ1 := Aside0.mk (blk_below HZ.out hb)
  have ga0 := (blk_cell HG1.out) 0
  have ga1 := (blk_cell HG1.out) 1
  have ga2 := (blk_cell HG1.out) 2
  have ga3 := (blk_cell HG1.out) 3
  have ga4 := (blk_cell HG1.out) 4
  have ga5 := (blk_cell HG1.out) 5
  have ga6 := (blk_cell HG1.out) 6
  have ga7 := (blk_cell HG1.out) 7
  have la0 := (blk_cell HL1.out) 0
  have la1 := (blk_cell HL1.out) 1
  have la2 := (blk_cell HL1.out) 2
  have la3 := (blk_cell HL1.out) 3
  have la4 := (blk_cell HL1.out) 4
  have la5 := (blk_cell HL1.out) 5
  have za0 := (blk_cell HZ1.out) 0
  have za1 := (blk_cell HZ1.out) 1
  have za2 := (blk_cell HZ1.out) 2
  have za3 := (blk_cell HZ1.out) 3
  have za4 := (blk_cell HZ1.out) 4
  have za5 := (blk_cell HZ1.out) 5
  have za6 := (blk_cell HZ1.out) 6
  have za7 := (blk_cell HZ1.out) 7
  have zaf0 := free_of HZ1.out 0
  have zaf1 := free_of HZ1.out 1
  have zaf2 := free_of HZ1.out 2
  have zaf3 := free_of HZ1.out 3
  have zaf4 := free_of HZ1.out 4
  have zaf5 := free_of HZ1.out 5
  have zaf6 := free_of HZ1.out 6
  have zaf7 := free_of HZ1.out 7
  clear hb hW hg0 hg1 hg2 hg3 hg4 hg5 hg6 hg7 hl0 hl1 hl2 hl3 hl4 hl5 hz0 hz1 hz2 hz3 hz4 hz5 hz6 hz7 hzf0 hzf1 hzf2 hzf3 hzf4 hzf5 hzf6 hzf7
  have K3 := Aside0.mk (KA.out w1 HBW.out hf)
  clear KA
  go_wp2_with (fail)
  refine (KW.out w1).mono ?_
  rintro e w2 ⟨rfl, rfl⟩
  go_wp2_with (fail)
  refine K3.out.mono ?_
  rintro e w2 ⟨rfl, hb⟩
  have HB2 := Aside0.mk (below_step (below_step HB.out HBW.out) hb)
  have HZ2 := Aside0.mk (blk_below HZ1.out hb)
  have zb0 := (blk_cell HZ2.out) 0
  have zb1 := (blk_cell HZ2.out) 1
  have zb2 := (blk_cell HZ2.out) 2
  have zb3 := (blk_cell HZ2.out) 3
  have zb4 := (blk_cell HZ2.out) 4
  have zb5 := (blk_cell HZ2.out) 5
  have zb6 := (blk_cell HZ2.out) 6
  have zb7 := (blk_cell HZ2.out) 7
  have zbf0 := free_of HZ2.out 0
  have zbf1 := free_of HZ2.out 1
  have zbf2 := free_of HZ2.out 2
  have zbf3 := free_of HZ2.out 3
  have zbf4 := free_of HZ2.out 4
  have zbf5 := free_of HZ2.out 5
  have zbf6 := free_of HZ2.out 6
  have zbf7 := free_of HZ2.out 7
  clear hb K3 hE ha
  go_wp2
  refine bodyPost_ret (v := .tuple #[.agg #[.int .i64 0, .int .i64 0, .slice none 0 0, .slice none 0 0, .slice none 0 0, .slice none 0 0, .slice none 0 0, .slice none 0 0], .int .i64 E]) (by simp [results, Tryd.results17, go_sem, zb0, zb1, zb2, zb3, zb4, zb5, zb6, zb7]) rfl ?_
  refine ⟨sv0, rfl, StR.zero _ _, ?_⟩
  exact Below_sets (Nat.le_add_right _ 2) (stl sv0 ss0) _ HB2.out
end Go.Proofs.YtplhihakeodadaaDoor.Sg
