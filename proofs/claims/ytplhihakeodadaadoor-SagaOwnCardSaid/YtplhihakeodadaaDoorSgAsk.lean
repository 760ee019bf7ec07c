/- saga: ask, walked. (written by gen_ask.py) -/
import Derived.Test.YtplhihakeodadaaDoorSgFun5
import Derived.Test.YtplhihakeodadaaDoorSgFun6
namespace Go.Proofs.YtplhihakeodadaaDoor.Sg
open Go Go.RowKit Go.Proofs.YtplhihakeodadaaDoorW.PrintWords Go.Proofs.YtplhihakeodadaaDoorW.PrintLast Go.Proofs.YtplhihakeodadaaDoorW.PrintMore
set_option linter.unusedVariables false
set_option linter.unusedSimpArgs false
theorem PlC.opened {w : World} {U : PV} {p : Pln} (h : PlC w U p) : ∃ Af cf At ct As cs Ab cb, plv U = #[.slice Af p.1.length cf, .slice At p.2.1.length ct, .slice As p.2.2.1.length cs, .slice Ab p.2.2.2.length cb] := by
  obtain ⟨⟨Af, cf, e1, _⟩, ⟨At, ct, e2, _⟩, ⟨As, cs, e3, _⟩, ⟨Ab, cb, e4, _⟩⟩ := h
  exact ⟨Af, cf, At, ct, As, cs, Ab, cb, by unfold plv; rw [e1, e2, e3, e4]⟩
theorem rrv_plv {U : PV} {r : RR} {Af At As Ab : Option Addr} {cf ct cs cb n1 n2 n3 n4 : Nat} (h : plv U = #[.slice Af n1 cf, .slice At n2 ct, .slice As n3 cs, .slice Ab n4 cb]) : rrv U r = #[.int .i64 r.kind, .int .i64 r.step, .slice Af n1 cf, .slice At n2 ct, .slice As n3 cs, .slice Ab n4 cb] := by
  unfold plv at h
  have h1 : U.f = .slice Af n1 cf := congrArg (fun x => x.getD 0 undef) h
  have h2 : U.t = .slice At n2 ct := congrArg (fun x => x.getD 1 undef) h
  have h3 : U.st = .slice As n3 cs := congrArg (fun x => x.getD 2 undef) h
  have h4 : U.b = .slice Ab n4 cb := congrArg (fun x => x.getD 3 undef) h
  unfold rrv
  rw [h1, h2, h3, h4]
set_option maxHeartbeats 8000000 in
set_option maxRecDepth 20000 in
theorem ask1_T (V : SV) (s : SS) (U : PV) (r : RR) (w : World) (hT : TabW w) (h : StC w V s) (hu : PlC w U r.pl) (hp : okPlan s.pl = true) (hq : okPlan r.pl = true) (ho : s.op.length ≤ 1000000000) (hd : s.dn.length ≤ 1000000000) (hk : r.kind = 1) :
    Calls Tryd.prog 43 #[.agg (stv V s), .agg (rrv U r)] w fun e w' => e = .returned (.int .i64 (ask s r)) ∧ Below w.heap.size w w' := by
  obtain ⟨Af, cf, At, ct, As, cs, Ab, cb, Ao, co, Ad, cd, hst, hs, hbf, hop, hdn, _⟩ := h.opened
  obtain ⟨Bf, df, Bt, dt, Bs, ds, Bb, db, hpl⟩ := hu.opened
  have hrr := rrv_plv (r := r) hpl
  obtain ⟨o, hO⟩ : ∃ o, Obj.cells (stv V s) 34 = o := ⟨_, rfl⟩
  obtain ⟨o2, hO2⟩ : ∃ o, Obj.cells (rrv U r) 39 = o := ⟨_, rfl⟩
  have hb := below_alloc (below_alloc (Below.refl w.heap.size w) o) o2
  have hg := blk_alloc (heap_last w o) o2
  have hl := heap_last (w.alloc o) o2
  rw [World.size_alloc] at hl
  obtain ⟨W, hW⟩ : ∃ W, (w.alloc o).alloc o2 = W := ⟨_, rfl⟩
  rw [hW] at hb hg hl
  have hTW := hT.below hb
  have hSW := h.below hb
  have hUW := hu.below hb
  have hOW := Kd.C_below hop hb
  have hA : ask s r = if begins r.pl then 0 else 45 := by unfold ask; rw [hk]; rfl
  rw [hA]
  have K := Aside0.mk (begins_T U r.pl W hTW hUW hq)
  obtain ⟨B, hB⟩ : ∃ B, begins r.pl = B := ⟨_, rfl⟩
  rw [hB] at K ⊢
  clear hB hA
  try rw [hst] at K
  try rw [hpl] at K
  subst hO hO2
  have HB := Aside0.mk hb
  rw [hst] at hg hW ⊢
  rw [hrr] at hl hW ⊢
  have hg0 := (blk_cell hg) 0
  have hg1 := (blk_cell hg) 1
  have hg2 := (blk_cell hg) 2
  have hg3 := (blk_cell hg) 3
  have hg4 := (blk_cell hg) 4
  have hg5 := (blk_cell hg) 5
  have hg6 := (blk_cell hg) 6
  have hg7 := (blk_cell hg) 7
  have hl0 := (blk_cell hl) 0
  have hl1 := (blk_cell hl) 1
  have hl2 := (blk_cell hl) 2
  have hl3 := (blk_cell hl) 3
  have hl4 := (blk_cell hl) 4
  have hl5 := (blk_cell hl) 5
  have HG := Aside0.mk hg
  have HL := Aside0.mk hl
  clear hb hg hl hs hbf hop hdn ho hd hp hq h hu hT hTW hSW hUW hOW hst hpl hrr
  obtain ⟨num, ph, p, op, dn⟩ := s
  obtain ⟨k, st, q⟩ := r
  dsimp only at hk
  subst hk
  dsimp only at K HB HG HL hW hg0 hg1 hg2 hg3 hg4 hg5 hg6 hg7 hl0 hl1 hl2 hl3 hl4 hl5 ⊢
  cases B with
  | true =>
    go_enter Tryd.func43, Tryd.ntmps43
    go_wp2_with (fail)
    refine K.out.mono ?_
    rintro e w1 ⟨rfl, hb⟩
    have HB1 := Aside0.mk (below_step HB.out hb)
    clear hb K
    go_wp2
    go_ret
    exact ⟨rfl, HB1.out⟩
  | false =>
    go_enter Tryd.func43, Tryd.ntmps43
    go_wp2_with (fail)
    refine K.out.mono ?_
    rintro e w1 ⟨rfl, hb⟩
    have HB1 := Aside0.mk (below_step HB.out hb)
    clear hb K
    go_wp2
    go_ret
    exact ⟨rfl, HB1.out⟩
set_option maxHeartbeats 8000000 in
set_option maxRecDepth 20000 in
theorem ask2_T (V : SV) (s : SS) (U : PV) (r : RR) (w : World) (hT : TabW w) (h : StC w V s) (hu : PlC w U r.pl) (hp : okPlan s.pl = true) (hq : okPlan r.pl = true) (ho : s.op.length ≤ 1000000000) (hd : s.dn.length ≤ 1000000000) (hk : r.kind = 2) :
    Calls Tryd.prog 43 #[.agg (stv V s), .agg (rrv U r)] w fun e w' => e = .returned (.int .i64 (ask s r)) ∧ Below w.heap.size w w' := by
  obtain ⟨Af, cf, At, ct, As, cs, Ab, cb, Ao, co, Ad, cd, hst, hs, hbf, hop, hdn, _⟩ := h.opened
  obtain ⟨Bf, df, Bt, dt, Bs, ds, Bb, db, hpl⟩ := hu.opened
  have hrr := rrv_plv (r := r) hpl
  obtain ⟨o, hO⟩ : ∃ o, Obj.cells (stv V s) 34 = o := ⟨_, rfl⟩
  obtain ⟨o2, hO2⟩ : ∃ o, Obj.cells (rrv U r) 39 = o := ⟨_, rfl⟩
  have hb := below_alloc (below_alloc (Below.refl w.heap.size w) o) o2
  have hg := blk_alloc (heap_last w o) o2
  have hl := heap_last (w.alloc o) o2
  rw [World.size_alloc] at hl
  obtain ⟨W, hW⟩ : ∃ W, (w.alloc o).alloc o2 = W := ⟨_, rfl⟩
  rw [hW] at hb hg hl
  have hTW := hT.below hb
  have hSW := h.below hb
  have hUW := hu.below hb
  have hOW := Kd.C_below hop hb
  have hA : ask s r = if may s r.step then 0 else 71 := by unfold ask; rw [hk]; rfl
  rw [hA]
  have K := Aside0.mk (May_T V s r.step W hSW hp ho hd)
  obtain ⟨B, hB⟩ : ∃ B, may s r.step = B := ⟨_, rfl⟩
  rw [hB] at K ⊢
  clear hB hA
  try rw [hst] at K
  try rw [hpl] at K
  subst hO hO2
  have HB := Aside0.mk hb
  rw [hst] at hg hW ⊢
  rw [hrr] at hl hW ⊢
  have hg0 := (blk_cell hg) 0
  have hg1 := (blk_cell hg) 1
  have hg2 := (blk_cell hg) 2
  have hg3 := (blk_cell hg) 3
  have hg4 := (blk_cell hg) 4
  have hg5 := (blk_cell hg) 5
  have hg6 := (blk_cell hg) 6
  have hg7 := (blk_cell hg) 7
  have hl0 := (blk_cell hl) 0
  have hl1 := (blk_cell hl) 1
  have hl2 := (blk_cell hl) 2
  have hl3 := (blk_cell hl) 3
  have hl4 := (blk_cell hl) 4
  have hl5 := (blk_cell hl) 5
  have HG := Aside0.mk hg
  have HL := Aside0.mk hl
  clear hb hg hl hs hbf hop hdn ho hd hp hq h hu hT hTW hSW hUW hOW hst hpl hrr
  obtain ⟨num, ph, p, op, dn⟩ := s
  obtain ⟨k, st, q⟩ := r
  dsimp only at hk
  subst hk
  dsimp only at K HB HG HL hW hg0 hg1 hg2 hg3 hg4 hg5 hg6 hg7 hl0 hl1 hl2 hl3 hl4 hl5 ⊢
  cases B with
  | true =>
    go_enter Tryd.func43, Tryd.ntmps43
    go_wp2_with (fail)
    refine K.out.mono ?_
    rintro e w1 ⟨rfl, hb⟩
    have HB1 := Aside0.mk (below_step HB.out hb)
    clear hb K
    go_wp2
    go_ret
    exact ⟨rfl, HB1.out⟩
  | false =>
    go_enter Tryd.func43, Tryd.ntmps43
    go_wp2_with (fail)
    refine K.out.mono ?_
    rintro e w1 ⟨rfl, hb⟩
    have HB1 := Aside0.mk (below_step HB.out hb)
    clear hb K
    go_wp2
    go_ret
    exact ⟨rfl, HB1.out⟩
set_option maxHeartbeats 8000000 in
set_option maxRecDepth 20000 in
theorem ask3_T (V : SV) (s : SS) (U : PV) (r : RR) (w : World) (hT : TabW w) (h : StC w V s) (hu : PlC w U r.pl) (hp : okPlan s.pl = true) (hq : okPlan r.pl = true) (ho : s.op.length ≤ 1000000000) (hd : s.dn.length ≤ 1000000000) (hk : r.kind = 3) :
    Calls Tryd.prog 43 #[.agg (stv V s), .agg (rrv U r)] w fun e w' => e = .returned (.int .i64 (ask s r)) ∧ Below w.heap.size w w' := by
  obtain ⟨Af, cf, At, ct, As, cs, Ab, cb, Ao, co, Ad, cd, hst, hs, hbf, hop, hdn, _⟩ := h.opened
  obtain ⟨Bf, df, Bt, dt, Bs, ds, Bb, db, hpl⟩ := hu.opened
  have hrr := rrv_plv (r := r) hpl
  obtain ⟨o, hO⟩ : ∃ o, Obj.cells (stv V s) 34 = o := ⟨_, rfl⟩
  obtain ⟨o2, hO2⟩ : ∃ o, Obj.cells (rrv U r) 39 = o := ⟨_, rfl⟩
  have hb := below_alloc (below_alloc (Below.refl w.heap.size w) o) o2
  have hg := blk_alloc (heap_last w o) o2
  have hl := heap_last (w.alloc o) o2
  rw [World.size_alloc] at hl
  obtain ⟨W, hW⟩ : ∃ W, (w.alloc o).alloc o2 = W := ⟨_, rfl⟩
  rw [hW] at hb hg hl
  have hTW := hT.below hb
  have hSW := h.below hb
  have hUW := hu.below hb
  have hOW := Kd.C_below hop hb
  have hA : ask s r = if s.op.contains r.step then 0 else 71 := by unfold ask; rw [hk]; rfl
  rw [hA]
  have K := Aside0.mk ((Contains_T s.op Ao co r.step W hOW (by omega)).mono (R' := fun (e : Ending) w' => e = .returned (.bool (s.op.contains r.step)) ∧ Below W.heap.size W w') (fun e w' h => ⟨h.1, h.2 ▸ Below.refl _ _⟩))
  obtain ⟨B, hB⟩ : ∃ B, s.op.contains r.step = B := ⟨_, rfl⟩
  rw [hB] at K ⊢
  clear hB hA
  try rw [hst] at K
  try rw [hpl] at K
  subst hO hO2
  have HB := Aside0.mk hb
  rw [hst] at hg hW ⊢
  rw [hrr] at hl hW ⊢
  have hg0 := (blk_cell hg) 0
  have hg1 := (blk_cell hg) 1
  have hg2 := (blk_cell hg) 2
  have hg3 := (blk_cell hg) 3
  have hg4 := (blk_cell hg) 4
  have hg5 := (blk_cell hg) 5
  have hg6 := (blk_cell hg) 6
  have hg7 := (blk_cell hg) 7
  have hl0 := (blk_cell hl) 0
  have hl1 := (blk_cell hl) 1
  have hl2 := (blk_cell hl) 2
  have hl3 := (blk_cell hl) 3
  have hl4 := (blk_cell hl) 4
  have hl5 := (blk_cell hl) 5
  have HG := Aside0.mk hg
  have HL := Aside0.mk hl
  clear hb hg hl hs hbf hop hdn ho hd hp hq h hu hT hTW hSW hUW hOW hst hpl hrr
  obtain ⟨num, ph, p, op, dn⟩ := s
  obtain ⟨k, st, q⟩ := r
  dsimp only at hk
  subst hk
  dsimp only at K HB HG HL hW hg0 hg1 hg2 hg3 hg4 hg5 hg6 hg7 hl0 hl1 hl2 hl3 hl4 hl5 ⊢
  cases B with
  | true =>
    go_enter Tryd.func43, Tryd.ntmps43
    go_wp2_with (fail)
    refine K.out.mono ?_
    rintro e w1 ⟨rfl, hb⟩
    have HB1 := Aside0.mk (below_step HB.out hb)
    clear hb K
    go_wp2
    go_ret
    exact ⟨rfl, HB1.out⟩
  | false =>
    go_enter Tryd.func43, Tryd.ntmps43
    go_wp2_with (fail)
    refine K.out.mono ?_
    rintro e w1 ⟨rfl, hb⟩
    have HB1 := Aside0.mk (below_step HB.out hb)
    clear hb K
    go_wp2
    go_ret
    exact ⟨rfl, HB1.out⟩
set_option maxHeartbeats 8000000 in
set_option maxRecDepth 20000 in
theorem ask4_T (V : SV) (s : SS) (U : PV) (r : RR) (w : World) (hT : TabW w) (h : StC w V s) (hu : PlC w U r.pl) (hp : okPlan s.pl = true) (hq : okPlan r.pl = true) (ho : s.op.length ≤ 1000000000) (hd : s.dn.length ≤ 1000000000) (hk : r.kind = 4) :
    Calls Tryd.prog 43 #[.agg (stv V s), .agg (rrv U r)] w fun e w' => e = .returned (.int .i64 (ask s r)) ∧ Below w.heap.size w w' := by
  obtain ⟨Af, cf, At, ct, As, cs, Ab, cb, Ao, co, Ad, cd, hst, hs, hbf, hop, hdn, _⟩ := h.opened
  obtain ⟨Bf, df, Bt, dt, Bs, ds, Bb, db, hpl⟩ := hu.opened
  have hrr := rrv_plv (r := r) hpl
  obtain ⟨o, hO⟩ : ∃ o, Obj.cells (stv V s) 34 = o := ⟨_, rfl⟩
  obtain ⟨o2, hO2⟩ : ∃ o, Obj.cells (rrv U r) 39 = o := ⟨_, rfl⟩
  have hb := below_alloc (below_alloc (Below.refl w.heap.size w) o) o2
  have hg := blk_alloc (heap_last w o) o2
  have hl := heap_last (w.alloc o) o2
  rw [World.size_alloc] at hl
  obtain ⟨W, hW⟩ : ∃ W, (w.alloc o).alloc o2 = W := ⟨_, rfl⟩
  rw [hW] at hb hg hl
  have hTW := hT.below hb
  have hSW := h.below hb
  have hUW := hu.below hb
  have hOW := Kd.C_below hop hb
  have hA : ask s r = if s.op.contains r.step then 0 else 71 := by unfold ask; rw [hk]; rfl
  rw [hA]
  have K := Aside0.mk ((Contains_T s.op Ao co r.step W hOW (by omega)).mono (R' := fun (e : Ending) w' => e = .returned (.bool (s.op.contains r.step)) ∧ Below W.heap.size W w') (fun e w' h => ⟨h.1, h.2 ▸ Below.refl _ _⟩))
  obtain ⟨B, hB⟩ : ∃ B, s.op.contains r.step = B := ⟨_, rfl⟩
  rw [hB] at K ⊢
  clear hB hA
  try rw [hst] at K
  try rw [hpl] at K
  subst hO hO2
  have HB := Aside0.mk hb
  rw [hst] at hg hW ⊢
  rw [hrr] at hl hW ⊢
  have hg0 := (blk_cell hg) 0
  have hg1 := (blk_cell hg) 1
  have hg2 := (blk_cell hg) 2
  have hg3 := (blk_cell hg) 3
  have hg4 := (blk_cell hg) 4
  have hg5 := (blk_cell hg) 5
  have hg6 := (blk_cell hg) 6
  have hg7 := (blk_cell hg) 7
  have hl0 := (blk_cell hl) 0
  have hl1 := (blk_cell hl) 1
  have hl2 := (blk_cell hl) 2
  have hl3 := (blk_cell hl) 3
  have hl4 := (blk_cell hl) 4
  have hl5 := (blk_cell hl) 5
  have HG := Aside0.mk hg
  have HL := Aside0.mk hl
  clear hb hg hl hs hbf hop hdn ho hd hp hq h hu hT hTW hSW hUW hOW hst hpl hrr
  obtain ⟨num, ph, p, op, dn⟩ := s
  obtain ⟨k, st, q⟩ := r
  dsimp only at hk
  subst hk
  dsimp only at K HB HG HL hW hg0 hg1 hg2 hg3 hg4 hg5 hg6 hg7 hl0 hl1 hl2 hl3 hl4 hl5 ⊢
  cases B with
  | true =>
    go_enter Tryd.func43, Tryd.ntmps43
    go_wp2_with (fail)
    refine K.out.mono ?_
    rintro e w1 ⟨rfl, hb⟩
    have HB1 := Aside0.mk (below_step HB.out hb)
    clear hb K
    go_wp2
    go_ret
    exact ⟨rfl, HB1.out⟩
  | false =>
    go_enter Tryd.func43, Tryd.ntmps43
    go_wp2_with (fail)
    refine K.out.mono ?_
    rintro e w1 ⟨rfl, hb⟩
    have HB1 := Aside0.mk (below_step HB.out hb)
    clear hb K
    go_wp2
    go_ret
    exact ⟨rfl, HB1.out⟩
set_option maxHeartbeats 8000000 in
set_option maxRecDepth 20000 in
theorem ask7_T (V : SV) (s : SS) (U : PV) (r : RR) (w : World) (hT : TabW w) (h : StC w V s) (hu : PlC w U r.pl) (hp : okPlan s.pl = true) (hq : okPlan r.pl = true) (ho : s.op.length ≤ 1000000000) (hd : s.dn.length ≤ 1000000000) (hk : r.kind = 7) :
    Calls Tryd.prog 43 #[.agg (stv V s), .agg (rrv U r)] w fun e w' => e = .returned (.int .i64 (ask s r)) ∧ Below w.heap.size w w' := by
  obtain ⟨Af, cf, At, ct, As, cs, Ab, cb, Ao, co, Ad, cd, hst, hs, hbf, hop, hdn, _⟩ := h.opened
  obtain ⟨Bf, df, Bt, dt, Bs, ds, Bb, db, hpl⟩ := hu.opened
  have hrr := rrv_plv (r := r) hpl
  obtain ⟨o, hO⟩ : ∃ o, Obj.cells (stv V s) 34 = o := ⟨_, rfl⟩
  obtain ⟨o2, hO2⟩ : ∃ o, Obj.cells (rrv U r) 39 = o := ⟨_, rfl⟩
  have hb := below_alloc (below_alloc (Below.refl w.heap.size w) o) o2
  have hg := blk_alloc (heap_last w o) o2
  have hl := heap_last (w.alloc o) o2
  rw [World.size_alloc] at hl
  obtain ⟨W, hW⟩ : ∃ W, (w.alloc o).alloc o2 = W := ⟨_, rfl⟩
  rw [hW] at hb hg hl
  have hTW := hT.below hb
  have hSW := h.below hb
  have hUW := hu.below hb
  have hOW := Kd.C_below hop hb
  have hA : ask s r = if marks s then 0 else 72 := by unfold ask; rw [hk]; rfl
  rw [hA]
  have K := Aside0.mk (Marks_T V s W hSW hp hd)
  obtain ⟨B, hB⟩ : ∃ B, marks s = B := ⟨_, rfl⟩
  rw [hB] at K ⊢
  clear hB hA
  try rw [hst] at K
  try rw [hpl] at K
  subst hO hO2
  have HB := Aside0.mk hb
  rw [hst] at hg hW ⊢
  rw [hrr] at hl hW ⊢
  have hg0 := (blk_cell hg) 0
  have hg1 := (blk_cell hg) 1
  have hg2 := (blk_cell hg) 2
  have hg3 := (blk_cell hg) 3
  have hg4 := (blk_cell hg) 4
  have hg5 := (blk_cell hg) 5
  have hg6 := (blk_cell hg) 6
  have hg7 := (blk_cell hg) 7
  have hl0 := (blk_cell hl) 0
  have hl1 := (blk_cell hl) 1
  have hl2 := (blk_cell hl) 2
  have hl3 := (blk_cell hl) 3
  have hl4 := (blk_cell hl) 4
  have hl5 := (blk_cell hl) 5
  have HG := Aside0.mk hg
  have HL := Aside0.mk hl
  clear hb hg hl hs hbf hop hdn ho hd hp hq h hu hT hTW hSW hUW hOW hst hpl hrr
  obtain ⟨num, ph, p, op, dn⟩ := s
  obtain ⟨k, st, q⟩ := r
  dsimp only at hk
  subst hk
  dsimp only at K HB HG HL hW hg0 hg1 hg2 hg3 hg4 hg5 hg6 hg7 hl0 hl1 hl2 hl3 hl4 hl5 ⊢
  cases B with
  | true =>
    go_enter Tryd.func43, Tryd.ntmps43
    go_wp2_with (fail)
    refine K.out.mono ?_
    rintro e w1 ⟨rfl, hb⟩
    have HB1 := Aside0.mk (below_step HB.out hb)
    clear hb K
    go_wp2
    go_ret
    exact ⟨rfl, HB1.out⟩
  | false =>
    go_enter Tryd.func43, Tryd.ntmps43
    go_wp2_with (fail)
    refine K.out.mono ?_
    rintro e w1 ⟨rfl, hb⟩
    have HB1 := Aside0.mk (below_step HB.out hb)
    clear hb K
    go_wp2
    go_ret
    exact ⟨rfl, HB1.out⟩
set_option maxHeartbeats 8000000 in
set_option maxRecDepth 20000 in
theorem ask8_T (V : SV) (s : SS) (U : PV) (r : RR) (w : World) (hT : TabW w) (h : StC w V s) (hu : PlC w U r.pl) (hp : okPlan s.pl = true) (hq : okPlan r.pl = true) (ho : s.op.length ≤ 1000000000) (hd : s.dn.length ≤ 1000000000) (hk : r.kind = 8) :
    Calls Tryd.prog 43 #[.agg (stv V s), .agg (rrv U r)] w fun e w' => e = .returned (.int .i64 (ask s r)) ∧ Below w.heap.size w w' := by
  obtain ⟨Af, cf, At, ct, As, cs, Ab, cb, Ao, co, Ad, cd, hst, hs, hbf, hop, hdn, _⟩ := h.opened
  obtain ⟨Bf, df, Bt, dt, Bs, ds, Bb, db, hpl⟩ := hu.opened
  have hrr := rrv_plv (r := r) hpl
  obtain ⟨o, hO⟩ : ∃ o, Obj.cells (stv V s) 34 = o := ⟨_, rfl⟩
  obtain ⟨o2, hO2⟩ : ∃ o, Obj.cells (rrv U r) 39 = o := ⟨_, rfl⟩
  have hb := below_alloc (below_alloc (Below.refl w.heap.size w) o) o2
  have hg := blk_alloc (heap_last w o) o2
  have hl := heap_last (w.alloc o) o2
  rw [World.size_alloc] at hl
  obtain ⟨W, hW⟩ : ∃ W, (w.alloc o).alloc o2 = W := ⟨_, rfl⟩
  rw [hW] at hb hg hl
  have hTW := hT.below hb
  have hSW := h.below hb
  have hUW := hu.below hb
  have hOW := Kd.C_below hop hb
  have hA : ask s r = if ends s then 0 else 72 := by unfold ask; rw [hk]; rfl
  rw [hA]
  have K := Aside0.mk (Ends_T V s W hSW hp ho hd)
  obtain ⟨B, hB⟩ : ∃ B, ends s = B := ⟨_, rfl⟩
  rw [hB] at K ⊢
  clear hB hA
  try rw [hst] at K
  try rw [hpl] at K
  subst hO hO2
  have HB := Aside0.mk hb
  rw [hst] at hg hW ⊢
  rw [hrr] at hl hW ⊢
  have hg0 := (blk_cell hg) 0
  have hg1 := (blk_cell hg) 1
  have hg2 := (blk_cell hg) 2
  have hg3 := (blk_cell hg) 3
  have hg4 := (blk_cell hg) 4
  have hg5 := (blk_cell hg) 5
  have hg6 := (blk_cell hg) 6
  have hg7 := (blk_cell hg) 7
  have hl0 := (blk_cell hl) 0
  have hl1 := (blk_cell hl) 1
  have hl2 := (blk_cell hl) 2
  have hl3 := (blk_cell hl) 3
  have hl4 := (blk_cell hl) 4
  have hl5 := (blk_cell hl) 5
  have HG := Aside0.mk hg
  have HL := Aside0.mk hl
  clear hb hg hl hs hbf hop hdn ho hd hp hq h hu hT hTW hSW hUW hOW hst hpl hrr
  obtain ⟨num, ph, p, op, dn⟩ := s
  obtain ⟨k, st, q⟩ := r
  dsimp only at hk
  subst hk
  dsimp only at K HB HG HL hW hg0 hg1 hg2 hg3 hg4 hg5 hg6 hg7 hl0 hl1 hl2 hl3 hl4 hl5 ⊢
  cases B with
  | true =>
    go_enter Tryd.func43, Tryd.ntmps43
    go_wp2_with (fail)
    refine K.out.mono ?_
    rintro e w1 ⟨rfl, hb⟩
    have HB1 := Aside0.mk (below_step HB.out hb)
    clear hb K
    go_wp2
    go_ret
    exact ⟨rfl, HB1.out⟩
  | false =>
    go_enter Tryd.func43, Tryd.ntmps43
    go_wp2_with (fail)
    refine K.out.mono ?_
    rintro e w1 ⟨rfl, hb⟩
    have HB1 := Aside0.mk (below_step HB.out hb)
    clear hb K
    go_wp2
    go_ret
    exact ⟨rfl, HB1.out⟩
set_option maxHeartbeats 8000000 in
set_option maxRecDepth 20000 in
theorem ask6_T (V : SV) (s : SS) (U : PV) (r : RR) (w : World) (hT : TabW w) (h : StC w V s) (hu : PlC w U r.pl) (hp : okPlan s.pl = true) (hq : okPlan r.pl = true) (ho : s.op.length ≤ 1000000000) (hd : s.dn.length ≤ 1000000000) (hk : r.kind = 6) :
    Calls Tryd.prog 43 #[.agg (stv V s), .agg (rrv U r)] w fun e w' => e = .returned (.int .i64 (ask s r)) ∧ Below w.heap.size w w' := by
  obtain ⟨Af, cf, At, ct, As, cs, Ab, cb, Ao, co, Ad, cd, hst, hs, hbf, hop, hdn, _⟩ := h.opened
  obtain ⟨Bf, df, Bt, dt, Bs, ds, Bb, db, hpl⟩ := hu.opened
  have hrr := rrv_plv (r := r) hpl
  obtain ⟨o, hO⟩ : ∃ o, Obj.cells (stv V s) 34 = o := ⟨_, rfl⟩
  obtain ⟨o2, hO2⟩ : ∃ o, Obj.cells (rrv U r) 39 = o := ⟨_, rfl⟩
  have hb := below_alloc (below_alloc (Below.refl w.heap.size w) o) o2
  have hg := blk_alloc (heap_last w o) o2
  have hl := heap_last (w.alloc o) o2
  rw [World.size_alloc] at hl
  obtain ⟨W, hW⟩ : ∃ W, (w.alloc o).alloc o2 = W := ⟨_, rfl⟩
  rw [hW] at hb hg hl
  have hTW := hT.below hb
  have hSW := h.below hb
  have hUW := hu.below hb
  have hOW := Kd.C_below hop hb
  have hA : ask s r = if (top s).2 && (top s).1 == r.step then 0 else 71 := by unfold ask; rw [hk]; rfl
  rw [hA]
  have K := Aside0.mk (Top_T V s W hSW ho hd)
  obtain ⟨tp, hB⟩ : ∃ B, top s = B := ⟨_, rfl⟩
  rw [hB] at K ⊢
  clear hB hA
  obtain ⟨t, there⟩ := tp
  rw [hst] at K
  subst hO hO2
  have HB := Aside0.mk hb
  rw [hst] at hg hW ⊢
  rw [hrr] at hl hW ⊢
  have hg0 := (blk_cell hg) 0
  have hg1 := (blk_cell hg) 1
  have hg2 := (blk_cell hg) 2
  have hg3 := (blk_cell hg) 3
  have hg4 := (blk_cell hg) 4
  have hg5 := (blk_cell hg) 5
  have hg6 := (blk_cell hg) 6
  have hg7 := (blk_cell hg) 7
  have hl0 := (blk_cell hl) 0
  have hl1 := (blk_cell hl) 1
  have hl2 := (blk_cell hl) 2
  have hl3 := (blk_cell hl) 3
  have hl4 := (blk_cell hl) 4
  have hl5 := (blk_cell hl) 5
  have HG := Aside0.mk hg
  have HL := Aside0.mk hl
  clear hb hg hl hs hbf hop hdn ho hd hp hq h hu hT hTW hSW hUW hOW hst hpl hrr
  obtain ⟨num, ph, p, op, dn⟩ := s
  obtain ⟨k, st, q⟩ := r
  dsimp only at hk
  subst hk
  dsimp only at K HB HG HL hW hg0 hg1 hg2 hg3 hg4 hg5 hg6 hg7 hl0 hl1 hl2 hl3 hl4 hl5 ⊢
  cases there with
  | true =>
    by_cases q1 : t = st
    · subst q1
      rw [Bool.true_and, beq_self_eq_true, if_pos rfl]
      go_enter Tryd.func43, Tryd.ntmps43
      go_wp2_with (fail)
      refine K.out.mono ?_
      rintro e w1 ⟨rfl, hb⟩
      have HB1 := Aside0.mk (below_step HB.out hb)
      have hm1 := (blk_cell (blk_below HL.out hb)) 1
      clear hb K
      go_wp2
      go_ret
      exact ⟨rfl, HB1.out⟩
    · have b1 : (t == st) = false := by simpa using q1
      rw [Bool.true_and, b1, if_neg (by simp)]
      clear q1
      go_enter Tryd.func43, Tryd.ntmps43
      go_wp2_with (fail)
      refine K.out.mono ?_
      rintro e w1 ⟨rfl, hb⟩
      have HB1 := Aside0.mk (below_step HB.out hb)
      have hm1 := (blk_cell (blk_below HL.out hb)) 1
      clear hb K
      go_wp2
      go_ret
      exact ⟨rfl, HB1.out⟩
  | false =>
    rw [Bool.false_and, if_neg (by simp)]
    go_enter Tryd.func43, Tryd.ntmps43
    go_wp2_with (fail)
    refine K.out.mono ?_
    rintro e w1 ⟨rfl, hb⟩
    have HB1 := Aside0.mk (below_step HB.out hb)
    clear hb K
    go_wp2
    go_ret
    exact ⟨rfl, HB1.out⟩
set_option maxHeartbeats 8000000 in
set_option maxRecDepth 20000 in
theorem ask0_T (V : SV) (s : SS) (U : PV) (r : RR) (w : World) (hT : TabW w) (h : StC w V s) (hu : PlC w U r.pl) (hp : okPlan s.pl = true) (hq : okPlan r.pl = true) (ho : s.op.length ≤ 1000000000) (hd : s.dn.length ≤ 1000000000) (hk : r.kind = 5) :
    Calls Tryd.prog 43 #[.agg (stv V s), .agg (rrv U r)] w fun e w' => e = .returned (.int .i64 (ask s r)) ∧ Below w.heap.size w w' := by
  obtain ⟨Af, cf, At, ct, As, cs, Ab, cb, Ao, co, Ad, cd, hst, hs, hbf, hop, hdn, _⟩ := h.opened
  obtain ⟨Bf, df, Bt, dt, Bs, ds, Bb, db, hpl⟩ := hu.opened
  have hrr := rrv_plv (r := r) hpl
  obtain ⟨o, hO⟩ : ∃ o, Obj.cells (stv V s) 34 = o := ⟨_, rfl⟩
  obtain ⟨o2, hO2⟩ : ∃ o, Obj.cells (rrv U r) 39 = o := ⟨_, rfl⟩
  have hb := below_alloc (below_alloc (Below.refl w.heap.size w) o) o2
  have hg := blk_alloc (heap_last w o) o2
  have hl := heap_last (w.alloc o) o2
  rw [World.size_alloc] at hl
  obtain ⟨W, hW⟩ : ∃ W, (w.alloc o).alloc o2 = W := ⟨_, rfl⟩
  rw [hW] at hb hg hl
  have hTW := hT.below hb
  have hSW := h.below hb
  have hUW := hu.below hb
  have hOW := Kd.C_below hop hb
  have hA : ask s r = 0 := by unfold ask; rw [hk]; rfl
  rw [hA]
  clear hA
  subst hO hO2
  have HB := Aside0.mk hb
  rw [hst] at hg hW ⊢
  rw [hrr] at hl hW ⊢
  have hg0 := (blk_cell hg) 0
  have hg1 := (blk_cell hg) 1
  have hg2 := (blk_cell hg) 2
  have hg3 := (blk_cell hg) 3
  have hg4 := (blk_cell hg) 4
  have hg5 := (blk_cell hg) 5
  have hg6 := (blk_cell hg) 6
  have hg7 := (blk_cell hg) 7
  have hl0 := (blk_cell hl) 0
  have hl1 := (blk_cell hl) 1
  have hl2 := (blk_cell hl) 2
  have hl3 := (blk_cell hl) 3
  have hl4 := (blk_cell hl) 4
  have hl5 := (blk_cell hl) 5
  have HG := Aside0.mk hg
  have HL := Aside0.mk hl
  clear hb hg hl hs hbf hop hdn ho hd hp hq h hu hT hTW hSW hUW hOW hst hpl hrr
  obtain ⟨num, ph, p, op, dn⟩ := s
  obtain ⟨k, st, q⟩ := r
  dsimp only at hk
  subst hk
  dsimp only at HB HG HL hW hg0 hg1 hg2 hg3 hg4 hg5 hg6 hg7 hl0 hl1 hl2 hl3 hl4 hl5 ⊢
  go_enter Tryd.func43, Tryd.ntmps43
  go_wp2
  go_ret
  exact ⟨rfl, HB.out⟩
theorem ask_T (V : SV) (s : SS) (U : PV) (r : RR) (w : World) (hT : TabW w) (h : StC w V s) (hu : PlC w U r.pl) (hp : okPlan s.pl = true) (hq : okPlan r.pl = true) (ho : s.op.length ≤ 1000000000) (hd : s.dn.length ≤ 1000000000) (hf : formed r = true) :
    Calls Tryd.prog 43 #[.agg (stv V s), .agg (rrv U r)] w fun e w' => e = .returned (.int .i64 (ask s r)) ∧ Below w.heap.size w w' := by
  have hk : 1 ≤ r.kind ∧ r.kind ≤ 8 := by
    unfold formed at hf
    rw [Bool.and_eq_true, Bool.and_eq_true] at hf
    exact of_decide_eq_true hf.1.1
  have h8 : r.kind = 1 ∨ r.kind = 2 ∨ r.kind = 3 ∨ r.kind = 4 ∨ r.kind = 5 ∨ r.kind = 6 ∨ r.kind = 7 ∨ r.kind = 8 := by omega
  rcases h8 with hk | hk | hk | hk | hk | hk | hk | hk
  · exact ask1_T V s U r w hT h hu hp hq ho hd hk
  · exact ask2_T V s U r w hT h hu hp hq ho hd hk
  · exact ask3_T V s U r w hT h hu hp hq ho hd hk
  · exact ask4_T V s U r w hT h hu hp hq ho hd hk
  · exact ask0_T V s U r w hT h hu hp hq ho hd hk
  · exact ask6_T V s U r w hT h hu hp hq ho hd hk
  · exact ask7_T V s U r w hT h hu hp hq ho hd hk
  · exact ask8_T V s U r w hT h hu hp hq ho hd hk
end Go.Proofs.YtplhihakeodadaaDoor.Sg
