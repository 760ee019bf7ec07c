/- saga: the document's example (slipwaylaw17.anchor), walked. (written by gen_anc.py) -/
import Derived.Test.YtplhihakeodadaaDoorSgRep
namespace Go.Proofs.YtplhihakeodadaaDoor.Sg
open Go Go.RowKit Go.Proofs.YtplhihakeodadaaDoorW.PrintWords Go.Proofs.YtplhihakeodadaaDoorW.PrintLast Go.Proofs.YtplhihakeodadaaDoorW.PrintMore
set_option linter.unusedVariables false
set_option linter.unusedSimpArgs false
def pA : Pln := ([], [], [(0, 2), (1, 2)], [(1, 0)])
def lA : List RR := [⟨1, 0, pA⟩, ⟨2, 1, pl0⟩, ⟨4, 1, pl0⟩]
def sA : SS := ⟨1, 2, pA, [1], []⟩
def tA : SS := ⟨1, 2, pA, [], []⟩
def uA : SS := ⟨1, 5, pA, [], []⟩
theorem begins_A : begins pA = true := by decide +kernel
theorem replay_A : replay ss0 lA = (sA, 3, 0) := by
  have h := begins_A
  simp [replay, lA, take, formed, bare, stepped, when, ask, turn, ss0, pl0, h, may, isLast, bars, sA]
  try (simp [pA, may, isLast, bars])
theorem take_tA : take sA ⟨6, 1, pl0⟩ = (tA, 0) := by simp [take, formed, bare, stepped, when, ask, turn, top, without, sA, tA, pl0]
theorem take_uA : take tA ⟨8, 0, pl0⟩ = (uA, 0) := by simp [take, formed, bare, stepped, when, ask, turn, top, without, tA, uA, pl0, ends]
theorem Bd_sA : Bd 1000000 sA := ⟨by decide, by decide, by decide, by decide, by decide⟩
theorem Bd_tA : Bd 1000000 tA := ⟨by decide, by decide, by decide, by decide, by decide⟩
theorem Sl.nil_ {α : Type} (K : Kd α) (w : World) : Sl K w (.slice none 0 0) [] := ⟨Option.none, 0, rfl, Nat.le_refl _, Kd.C_nil K w⟩
theorem PlC.nil_ (w : World) : PlC w pv0 pl0 := ⟨Sl.nil_ _ _, Sl.nil_ _ _, Sl.nil_ _ _, Sl.nil_ _ _⟩
theorem steps_A {w : World} {b t : Nat} (h : w.heap[b]? = some (.cells #[.int .i64 0, .int .i64 2, .int .i64 1, .int .i64 2] t (0, 0))) : Sl kP w (.slice (some ⟨b, 0, none⟩) 2 2) [(0, 2), (1, 2)] := by
  refine ⟨some ⟨b, 0, none⟩, 2, rfl, by decide, rfl, by decide, fun _ => ⟨_, rfl, fun j p hj => ?_⟩⟩
  match j with
  | 0 =>
    cases hj
    exact ⟨[.int .i64 0, .int .i64 2], rfl, ⟨[.int .i64 0], [.int .i64 2], rfl, rfl, rfl⟩, fun i u hi => by
      match i with
      | 0 => cases hi; exact (blk_cell h) 0
      | 1 => cases hi; exact (blk_cell h) 1
      | i + 2 => simp at hi⟩
  | 1 =>
    cases hj
    exact ⟨[.int .i64 1, .int .i64 2], rfl, ⟨[.int .i64 1], [.int .i64 2], rfl, rfl, rfl⟩, fun i u hi => by
      match i with
      | 0 => cases hi; exact (blk_cell h) 2
      | 1 => cases hi; exact (blk_cell h) 3
      | i + 2 => simp at hi⟩
  | j + 2 => simp at hj
theorem edge_A {w : World} {b t : Nat} (h : w.heap[b]? = some (.cells #[.int .i64 1, .int .i64 0] t (0, 0))) : Sl kP w (.slice (some ⟨b, 0, none⟩) 1 1) [(1, 0)] := by
  refine ⟨some ⟨b, 0, none⟩, 1, rfl, by decide, rfl, by decide, fun _ => ⟨_, rfl, fun j p hj => ?_⟩⟩
  match j with
  | 0 =>
    cases hj
    exact ⟨[.int .i64 1, .int .i64 0], rfl, ⟨[.int .i64 1], [.int .i64 0], rfl, rfl, rfl⟩, fun i u hi => by
      match i with
      | 0 => cases hi; exact (blk_cell h) 0
      | 1 => cases hi; exact (blk_cell h) 1
      | i + 2 => simp at hi⟩
  | j + 1 => simp at hj
theorem recs_A {w : World} {b0 b1 b t0 t1 t : Nat} (h0 : w.heap[b0]? = some (.cells #[.int .i64 0, .int .i64 2, .int .i64 1, .int .i64 2] t0 (0, 0))) (h1 : w.heap[b1]? = some (.cells #[.int .i64 1, .int .i64 0] t1 (0, 0)))
    (h : w.heap[b]? = some (.cells #[.int .i64 1, .int .i64 0, .slice none 0 0, .slice none 0 0, .slice (some ⟨b0, 0, none⟩) 2 2, .slice (some ⟨b1, 0, none⟩) 1 1, .int .i64 2, .int .i64 1, .slice none 0 0, .slice none 0 0, .slice none 0 0, .slice none 0 0, .int .i64 4, .int .i64 1, .slice none 0 0, .slice none 0 0, .slice none 0 0, .slice none 0 0] t (0, 0))) : Recs w (some ⟨b, 0, none⟩) lA := by
  intro i hi
  refine ⟨_, rfl, ?_⟩
  match i with
  | 0 => exact ⟨⟨.slice none 0 0, .slice none 0 0, .slice (some ⟨b0, 0, none⟩) 2 2, .slice (some ⟨b1, 0, none⟩) 1 1⟩, ⟨Sl.nil_ _ _, Sl.nil_ _ _, steps_A h0, edge_A h1⟩, (blk_cell h) 0, (blk_cell h) 1, (blk_cell h) 2, (blk_cell h) 3, (blk_cell h) 4, (blk_cell h) 5⟩
  | 1 => exact ⟨pv0, PlC.nil_ _, (blk_cell h) 6, (blk_cell h) 7, (blk_cell h) 8, (blk_cell h) 9, (blk_cell h) 10, (blk_cell h) 11⟩
  | 2 => exact ⟨pv0, PlC.nil_ _, (blk_cell h) 12, (blk_cell h) 13, (blk_cell h) 14, (blk_cell h) 15, (blk_cell h) 16, (blk_cell h) 17⟩
  | i + 3 => simp [lA] at hi; omega
set_option maxHeartbeats 16000000 in
set_option maxRecDepth 20000 in
theorem anchor_T (w : World) (hT : TabW w) : Calls Tryd.prog 15 #[] w fun e w' => e = .returned (.bool true) ∧ Below w.heap.size w w' := by
  have hb1 := below_alloc (below_alloc (below_alloc (Below.refl w.heap.size w) (.cells #[.int .i64 0, .int .i64 2, .int .i64 1, .int .i64 2] 50)) (.cells #[.int .i64 1, .int .i64 0] 74)) (.cells #[.slice none 0 0, .slice none 0 0, .slice (some ⟨w.heap.size, 0, none⟩) 2 2, .slice (some ⟨w.heap.size + 1, 0, none⟩) 1 1] 26)
  have hb := below_alloc hb1 (.cells #[.int .i64 1, .int .i64 0, .slice none 0 0, .slice none 0 0, .slice (some ⟨w.heap.size, 0, none⟩) 2 2, .slice (some ⟨w.heap.size + 1, 0, none⟩) 1 1, .int .i64 2, .int .i64 1, .slice none 0 0, .slice none 0 0, .slice none 0 0, .slice none 0 0, .int .i64 4, .int .i64 1, .slice none 0 0, .slice none 0 0, .slice none 0 0, .slice none 0 0] 39)
  have h0 := blk_alloc (blk_alloc (blk_alloc (heap_last w (.cells #[.int .i64 0, .int .i64 2, .int .i64 1, .int .i64 2] 50)) (.cells #[.int .i64 1, .int .i64 0] 74)) (.cells #[.slice none 0 0, .slice none 0 0, .slice (some ⟨w.heap.size, 0, none⟩) 2 2, .slice (some ⟨w.heap.size + 1, 0, none⟩) 1 1] 26)) (.cells #[.int .i64 1, .int .i64 0, .slice none 0 0, .slice none 0 0, .slice (some ⟨w.heap.size, 0, none⟩) 2 2, .slice (some ⟨w.heap.size + 1, 0, none⟩) 1 1, .int .i64 2, .int .i64 1, .slice none 0 0, .slice none 0 0, .slice none 0 0, .slice none 0 0, .int .i64 4, .int .i64 1, .slice none 0 0, .slice none 0 0, .slice none 0 0, .slice none 0 0] 39)
  have h1 := blk_alloc (blk_alloc (heap_last (w.alloc (.cells #[.int .i64 0, .int .i64 2, .int .i64 1, .int .i64 2] 50)) (.cells #[.int .i64 1, .int .i64 0] 74)) (.cells #[.slice none 0 0, .slice none 0 0, .slice (some ⟨w.heap.size, 0, none⟩) 2 2, .slice (some ⟨w.heap.size + 1, 0, none⟩) 1 1] 26)) (.cells #[.int .i64 1, .int .i64 0, .slice none 0 0, .slice none 0 0, .slice (some ⟨w.heap.size, 0, none⟩) 2 2, .slice (some ⟨w.heap.size + 1, 0, none⟩) 1 1, .int .i64 2, .int .i64 1, .slice none 0 0, .slice none 0 0, .slice none 0 0, .slice none 0 0, .int .i64 4, .int .i64 1, .slice none 0 0, .slice none 0 0, .slice none 0 0, .slice none 0 0] 39)
  have h2 := heap_last ((w.alloc (.cells #[.int .i64 0, .int .i64 2, .int .i64 1, .int .i64 2] 50)).alloc (.cells #[.int .i64 1, .int .i64 0] 74)) (.cells #[.slice none 0 0, .slice none 0 0, .slice (some ⟨w.heap.size, 0, none⟩) 2 2, .slice (some ⟨w.heap.size + 1, 0, none⟩) 1 1] 26)
  have h3 := heap_last (((w.alloc (.cells #[.int .i64 0, .int .i64 2, .int .i64 1, .int .i64 2] 50)).alloc (.cells #[.int .i64 1, .int .i64 0] 74)).alloc (.cells #[.slice none 0 0, .slice none 0 0, .slice (some ⟨w.heap.size, 0, none⟩) 2 2, .slice (some ⟨w.heap.size + 1, 0, none⟩) 1 1] 26)) (.cells #[.int .i64 1, .int .i64 0, .slice none 0 0, .slice none 0 0, .slice (some ⟨w.heap.size, 0, none⟩) 2 2, .slice (some ⟨w.heap.size + 1, 0, none⟩) 1 1, .int .i64 2, .int .i64 1, .slice none 0 0, .slice none 0 0, .slice none 0 0, .slice none 0 0, .int .i64 4, .int .i64 1, .slice none 0 0, .slice none 0 0, .slice none 0 0, .slice none 0 0] 39)
  rw [World.size_alloc] at h1
  rw [World.size_alloc, World.size_alloc] at h2
  rw [World.size_alloc, World.size_alloc, World.size_alloc] at h3
  have K := Aside0.mk (Replay_T lA (some ⟨w.heap.size + 1 + 1 + 1, 0, none⟩) 3 ((((w.alloc (.cells #[.int .i64 0, .int .i64 2, .int .i64 1, .int .i64 2] 50)).alloc (.cells #[.int .i64 1, .int .i64 0] 74)).alloc (.cells #[.slice none 0 0, .slice none 0 0, .slice (some ⟨w.heap.size, 0, none⟩) 2 2, .slice (some ⟨w.heap.size + 1, 0, none⟩) 1 1] 26)).alloc (.cells #[.int .i64 1, .int .i64 0, .slice none 0 0, .slice none 0 0, .slice (some ⟨w.heap.size, 0, none⟩) 2 2, .slice (some ⟨w.heap.size + 1, 0, none⟩) 1 1, .int .i64 2, .int .i64 1, .slice none 0 0, .slice none 0 0, .slice none 0 0, .slice none 0 0, .int .i64 4, .int .i64 1, .slice none 0 0, .slice none 0 0, .slice none 0 0, .slice none 0 0] 39)) (hT.below hb) (recs_A h0 h1 h3) (by decide) (by decide) sA 3 0 replay_A)
  have HB := Aside0.mk hb
  have HT := Aside0.mk hT
  have hc0 := (blk_cell h2) 0
  have hc1 := (blk_cell h2) 1
  have hc2 := (blk_cell h2) 2
  have hc3 := (blk_cell h2) 3
  have hlen : (.slice (some ⟨w.heap.size + 1 + 1 + 1, 0, none⟩) lA.length 3 : Value) = .slice (some ⟨w.heap.size + 1 + 1 + 1, 0, none⟩) 3 3 := rfl
  rw [hlen, show ((3 : Nat) : Int) = 3 from rfl] at K
  clear hb1 hb h0 h1 h2 h3 hlen hT
  go_enter Tryd.func15, Tryd.ntmps15
  go_wp2_with (fail)
  refine K.out.mono ?_
  rintro e w1 ⟨V1, rfl, hr, hb⟩
  have HB1 := Aside0.mk (below_step HB.out hb)
  obtain ⟨p0, pc0, p1, pc1, p2, pc2, p3, pc3, p4, pc4, p5, pc5, rfl⟩ := hr.opened
  have HC1 := Aside0.mk (hr.c.below (below_alloc (Below.refl w1.heap.size w1) (.cells #[.int .i64 sA.num, .int .i64 sA.ph, .slice p0 sA.pl.1.length pc0, .slice p1 sA.pl.2.1.length pc1, .slice p2 sA.pl.2.2.1.length pc2, .slice p3 sA.pl.2.2.2.length pc3, .slice p4 sA.op.length pc4, .slice p5 sA.dn.length pc5] 34)))
  have HX1 := Aside0.mk (heap_last w1 (.cells #[.int .i64 sA.num, .int .i64 sA.ph, .slice p0 sA.pl.1.length pc0, .slice p1 sA.pl.2.1.length pc1, .slice p2 sA.pl.2.2.1.length pc2, .slice p3 sA.pl.2.2.2.length pc3, .slice p4 sA.op.length pc4, .slice p5 sA.dn.length pc5] 34))
  have HY1 := Aside0.mk (below_step HB1.out (below_alloc (Below.refl w1.heap.size w1) (.cells #[.int .i64 sA.num, .int .i64 sA.ph, .slice p0 sA.pl.1.length pc0, .slice p1 sA.pl.2.1.length pc1, .slice p2 sA.pl.2.2.1.length pc2, .slice p3 sA.pl.2.2.2.length pc3, .slice p4 sA.op.length pc4, .slice p5 sA.dn.length pc5] 34)))
  have K2 := Aside0.mk (Top_T ⟨⟨.slice p0 sA.pl.1.length pc0, .slice p1 sA.pl.2.1.length pc1, .slice p2 sA.pl.2.2.1.length pc2, .slice p3 sA.pl.2.2.2.length pc3⟩, .slice p4 sA.op.length pc4, .slice p5 sA.dn.length pc5⟩ sA (w1.alloc (.cells #[.int .i64 sA.num, .int .i64 sA.ph, .slice p0 sA.pl.1.length pc0, .slice p1 sA.pl.2.1.length pc1, .slice p2 sA.pl.2.2.1.length pc2, .slice p3 sA.pl.2.2.2.length pc3, .slice p4 sA.op.length pc4, .slice p5 sA.dn.length pc5] 34)) HC1.out (by decide) (by decide))
  rw [show top sA = (1, true) from rfl] at K2
  have K3 := Aside0.mk (fun W (hb : Below (w1.alloc (.cells #[.int .i64 sA.num, .int .i64 sA.ph, .slice p0 sA.pl.1.length pc0, .slice p1 sA.pl.2.1.length pc1, .slice p2 sA.pl.2.2.1.length pc2, .slice p3 sA.pl.2.2.2.length pc3, .slice p4 sA.op.length pc4, .slice p5 sA.dn.length pc5] 34)).heap.size (w1.alloc (.cells #[.int .i64 sA.num, .int .i64 sA.ph, .slice p0 sA.pl.1.length pc0, .slice p1 sA.pl.2.1.length pc1, .slice p2 sA.pl.2.2.1.length pc2, .slice p3 sA.pl.2.2.2.length pc3, .slice p4 sA.op.length pc4, .slice p5 sA.dn.length pc5] 34)) W) => Take_T ⟨⟨.slice p0 sA.pl.1.length pc0, .slice p1 sA.pl.2.1.length pc1, .slice p2 sA.pl.2.2.1.length pc2, .slice p3 sA.pl.2.2.2.length pc3⟩, .slice p4 sA.op.length pc4, .slice p5 sA.dn.length pc5⟩ sA pv0 ⟨6, 1, pl0⟩ W (HT.out.below (below_step HY1.out hb)) (HC1.out.below hb) (PlC.nil_ _) (by decide) Bd_sA)
  rw [take_tA] at K3
  have K5 := Aside0.mk (fun W (hb : Below (w1.alloc (.cells #[.int .i64 sA.num, .int .i64 sA.ph, .slice p0 sA.pl.1.length pc0, .slice p1 sA.pl.2.1.length pc1, .slice p2 sA.pl.2.2.1.length pc2, .slice p3 sA.pl.2.2.2.length pc3, .slice p4 sA.op.length pc4, .slice p5 sA.dn.length pc5] 34)).heap.size (w1.alloc (.cells #[.int .i64 sA.num, .int .i64 sA.ph, .slice p0 sA.pl.1.length pc0, .slice p1 sA.pl.2.1.length pc1, .slice p2 sA.pl.2.2.1.length pc2, .slice p3 sA.pl.2.2.2.length pc3, .slice p4 sA.op.length pc4, .slice p5 sA.dn.length pc5] 34)) W) => May_T ⟨⟨.slice p0 sA.pl.1.length pc0, .slice p1 sA.pl.2.1.length pc1, .slice p2 sA.pl.2.2.1.length pc2, .slice p3 sA.pl.2.2.2.length pc3⟩, .slice p4 sA.op.length pc4, .slice p5 sA.dn.length pc5⟩ sA 0 W (HC1.out.below hb) (by decide) (by decide) (by decide))
  rw [show may sA 0 = false from by decide +kernel] at K5
  unfold stv at K2 K3 K5
  unfold rrv pv0 at K3
  dsimp only at K2 K3 K5
  have ga0 := (blk_cell HX1.out) 0
  have ga1 := (blk_cell HX1.out) 1
  have ga2 := (blk_cell HX1.out) 2
  have ga3 := (blk_cell HX1.out) 3
  have ga4 := (blk_cell HX1.out) 4
  have ga5 := (blk_cell HX1.out) 5
  have ga6 := (blk_cell HX1.out) 6
  have ga7 := (blk_cell HX1.out) 7
  have hp2 : (sA.ph == 2) = true := rfl
  have hp5 : (uA.ph == 5) = true := rfl
  unfold stv
  dsimp only
  clear K hr hb hc0 hc1 hc2 hc3
  go_wp2_with (fail)
  refine K2.out.mono ?_
  rintro e w2 ⟨rfl, hb2⟩
  have HB2 := Aside0.mk (below_step HY1.out hb2)
  have HX2 := Aside0.mk (blk_below HX1.out hb2)
  have gb0 := (blk_cell HX2.out) 0
  have gb1 := (blk_cell HX2.out) 1
  have gb2 := (blk_cell HX2.out) 2
  have gb3 := (blk_cell HX2.out) 3
  have gb4 := (blk_cell HX2.out) 4
  have gb5 := (blk_cell HX2.out) 5
  have gb6 := (blk_cell HX2.out) 6
  have gb7 := (blk_cell HX2.out) 7
  have K3' := Aside0.mk (K3.out w2 hb2)
  clear K2 K3 ga0 ga1 ga2 ga3 ga4 ga5 ga6 ga7
  dsimp only
  go_wp2_with (fail)
  refine K3'.out.mono ?_
  rintro e w3 ⟨V3, rfl, hr, hb⟩
  have HB3 := Aside0.mk (below_step HB2.out hb)
  have HS3 := Aside0.mk (Below.trans hb2 (hb.mono hb2.size))
  have HX3' := Aside0.mk (blk_below HX2.out hb)
  obtain ⟨q0, qc0, q1, qc1, q2, qc2, q3, qc3, q4, qc4, q5, qc5, rfl⟩ := hr.opened
  have HC3 := Aside0.mk (hr.c.below (below_alloc (Below.refl w3.heap.size w3) (.cells #[.int .i64 tA.num, .int .i64 tA.ph, .slice q0 tA.pl.1.length qc0, .slice q1 tA.pl.2.1.length qc1, .slice q2 tA.pl.2.2.1.length qc2, .slice q3 tA.pl.2.2.2.length qc3, .slice q4 tA.op.length qc4, .slice q5 tA.dn.length qc5] 34)))
  have HX3 := Aside0.mk (heap_last w3 (.cells #[.int .i64 tA.num, .int .i64 tA.ph, .slice q0 tA.pl.1.length qc0, .slice q1 tA.pl.2.1.length qc1, .slice q2 tA.pl.2.2.1.length qc2, .slice q3 tA.pl.2.2.2.length qc3, .slice q4 tA.op.length qc4, .slice q5 tA.dn.length qc5] 34))
  have HY3 := Aside0.mk (below_step HB3.out (below_alloc (Below.refl w3.heap.size w3) (.cells #[.int .i64 tA.num, .int .i64 tA.ph, .slice q0 tA.pl.1.length qc0, .slice q1 tA.pl.2.1.length qc1, .slice q2 tA.pl.2.2.1.length qc2, .slice q3 tA.pl.2.2.2.length qc3, .slice q4 tA.op.length qc4, .slice q5 tA.dn.length qc5] 34)))
  have K4 := Aside0.mk (Take_T ⟨⟨.slice q0 tA.pl.1.length qc0, .slice q1 tA.pl.2.1.length qc1, .slice q2 tA.pl.2.2.1.length qc2, .slice q3 tA.pl.2.2.2.length qc3⟩, .slice q4 tA.op.length qc4, .slice q5 tA.dn.length qc5⟩ tA pv0 ⟨8, 0, pl0⟩ (w3.alloc (.cells #[.int .i64 tA.num, .int .i64 tA.ph, .slice q0 tA.pl.1.length qc0, .slice q1 tA.pl.2.1.length qc1, .slice q2 tA.pl.2.2.1.length qc2, .slice q3 tA.pl.2.2.2.length qc3, .slice q4 tA.op.length qc4, .slice q5 tA.dn.length qc5] 34)) (HT.out.below HY3.out) HC3.out (PlC.nil_ _) (by decide) Bd_tA)
  rw [take_uA] at K4
  unfold stv rrv pv0 at K4
  dsimp only at K4
  have gd0 := (blk_cell HX3.out) 0
  have gd1 := (blk_cell HX3.out) 1
  have gd2 := (blk_cell HX3.out) 2
  have gd3 := (blk_cell HX3.out) 3
  have gd4 := (blk_cell HX3.out) 4
  have gd5 := (blk_cell HX3.out) 5
  have gd6 := (blk_cell HX3.out) 6
  have gd7 := (blk_cell HX3.out) 7
  unfold stv
  dsimp only
  clear K3' hr gb0 gb1 gb2 gb3 gb4 gb5 gb6 gb7
  go_wp2_with (fail)
  refine K4.out.mono ?_
  rintro e w4 ⟨V4, rfl, hr, hb4⟩
  have HB4 := Aside0.mk (below_step HY3.out hb4)
  obtain ⟨r0, rc0, r1, rc1, r2, rc2, r3, rc3, r4, rc4, r5, rc5, rfl⟩ := hr.opened
  have HC4 := Aside0.mk (hr.c.below (below_alloc (Below.refl w4.heap.size w4) (.cells #[.int .i64 uA.num, .int .i64 uA.ph, .slice r0 uA.pl.1.length rc0, .slice r1 uA.pl.2.1.length rc1, .slice r2 uA.pl.2.2.1.length rc2, .slice r3 uA.pl.2.2.2.length rc3, .slice r4 uA.op.length rc4, .slice r5 uA.dn.length rc5] 34)))
  have HX4 := Aside0.mk (heap_last w4 (.cells #[.int .i64 uA.num, .int .i64 uA.ph, .slice r0 uA.pl.1.length rc0, .slice r1 uA.pl.2.1.length rc1, .slice r2 uA.pl.2.2.1.length rc2, .slice r3 uA.pl.2.2.2.length rc3, .slice r4 uA.op.length rc4, .slice r5 uA.dn.length rc5] 34))
  have HY4 := Aside0.mk (below_step HB4.out (below_alloc (Below.refl w4.heap.size w4) (.cells #[.int .i64 uA.num, .int .i64 uA.ph, .slice r0 uA.pl.1.length rc0, .slice r1 uA.pl.2.1.length rc1, .slice r2 uA.pl.2.2.1.length rc2, .slice r3 uA.pl.2.2.2.length rc3, .slice r4 uA.op.length rc4, .slice r5 uA.dn.length rc5] 34)))
  have HX5 := Aside0.mk (blk_below (blk_below (blk_below HX3'.out (below_alloc (Below.refl _ _) (.cells #[.int .i64 tA.num, .int .i64 tA.ph, .slice q0 tA.pl.1.length qc0, .slice q1 tA.pl.2.1.length qc1, .slice q2 tA.pl.2.2.1.length qc2, .slice q3 tA.pl.2.2.2.length qc3, .slice q4 tA.op.length qc4, .slice q5 tA.dn.length qc5] 34))) hb4) (below_alloc (Below.refl _ _) (.cells #[.int .i64 uA.num, .int .i64 uA.ph, .slice r0 uA.pl.1.length rc0, .slice r1 uA.pl.2.1.length rc1, .slice r2 uA.pl.2.2.1.length rc2, .slice r3 uA.pl.2.2.2.length rc3, .slice r4 uA.op.length rc4, .slice r5 uA.dn.length rc5] 34)))
  have HBW := Aside0.mk (Below.trans (Below.trans HS3.out ((below_alloc (Below.refl _ w3) (.cells #[.int .i64 tA.num, .int .i64 tA.ph, .slice q0 tA.pl.1.length qc0, .slice q1 tA.pl.2.1.length qc1, .slice q2 tA.pl.2.2.1.length qc2, .slice q3 tA.pl.2.2.2.length qc3, .slice q4 tA.op.length qc4, .slice q5 tA.dn.length qc5] 34)).mono HS3.out.size)) ((Below.trans hb4 ((below_alloc (Below.refl _ w4) (.cells #[.int .i64 uA.num, .int .i64 uA.ph, .slice r0 uA.pl.1.length rc0, .slice r1 uA.pl.2.1.length rc1, .slice r2 uA.pl.2.2.1.length rc2, .slice r3 uA.pl.2.2.2.length rc3, .slice r4 uA.op.length rc4, .slice r5 uA.dn.length rc5] 34)).mono hb4.size)).mono (Nat.le_trans HS3.out.size (below_alloc (Below.refl _ w3) (.cells #[.int .i64 tA.num, .int .i64 tA.ph, .slice q0 tA.pl.1.length qc0, .slice q1 tA.pl.2.1.length qc1, .slice q2 tA.pl.2.2.1.length qc2, .slice q3 tA.pl.2.2.2.length qc3, .slice q4 tA.op.length qc4, .slice q5 tA.dn.length qc5] 34)).size)))
  have K6 := Aside0.mk (K5.out (w4.alloc (.cells #[.int .i64 uA.num, .int .i64 uA.ph, .slice r0 uA.pl.1.length rc0, .slice r1 uA.pl.2.1.length rc1, .slice r2 uA.pl.2.2.1.length rc2, .slice r3 uA.pl.2.2.2.length rc3, .slice r4 uA.op.length rc4, .slice r5 uA.dn.length rc5] 34)) HBW.out)
  have ge0 := (blk_cell HX5.out) 0
  have ge1 := (blk_cell HX5.out) 1
  have ge2 := (blk_cell HX5.out) 2
  have ge3 := (blk_cell HX5.out) 3
  have ge4 := (blk_cell HX5.out) 4
  have ge5 := (blk_cell HX5.out) 5
  have ge6 := (blk_cell HX5.out) 6
  have ge7 := (blk_cell HX5.out) 7
  have gf0 := (blk_cell HX4.out) 0
  have gf1 := (blk_cell HX4.out) 1
  have gf2 := (blk_cell HX4.out) 2
  have gf3 := (blk_cell HX4.out) 3
  have gf4 := (blk_cell HX4.out) 4
  have gf5 := (blk_cell HX4.out) 5
  have gf6 := (blk_cell HX4.out) 6
  have gf7 := (blk_cell HX4.out) 7
  unfold stv
  dsimp only
  clear K4 K5 hr hb hb2 hb4 gd0 gd1 gd2 gd3 gd4 gd5 gd6 gd7
  go_wp2_with (fail)
  refine K6.out.mono ?_
  rintro e w5 ⟨rfl, hb5⟩
  have HB5 := Aside0.mk (below_step HY4.out hb5)
  clear hb5 K6
  go_wp2
  go_ret
  exact ⟨rfl, HB5.out⟩
end Go.Proofs.YtplhihakeodadaaDoor.Sg
