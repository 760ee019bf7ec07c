/- Catalogues of the document that are the same are alike. -/
import Derived.Test.YthefbeekcjchcaaRefWC
import Derived.Deep.RegionLaw
import Derived.BigQuiet
namespace Go.Proofs.Ythefbeekcjchcaa.P
open Go Go.RowKit Go.Proofs.YthefbeekcjchcaaW.PrintWords Go.Proofs.YthefbeekcjchcaaW.PrintLast Go.Proofs.YthefbeekcjchcaaW.PrintMore
set_option linter.unusedVariables false
set_option linter.unusedSimpArgs false
attribute [local go_sem high] eqA_ver12
theorem eqA_cmp12 (d : Nat) (w : World) (x0 y0 : Int) (x1 y1 : Int) (x2 y2 : Int) (x3 y3 : Int) (x4 y4 : ByteArray) :
    (Op.equalIn (d + 3) 179 (.agg #[.int .i64 x0, .int .i64 x1, .int .i64 x2, .int .i64 x3, .string x4]) (.agg #[.int .i64 y0, .int .i64 y1, .int .i64 y2, .int .i64 y3, .string y4])).run Try.prog w = .ok (x0 == y0 && ((x1 == y1 && (x2 == y2 && (x3 == y3 && (x4.toList == y4.toList)))))) w := by
  refine eqA_of Try.underlying179 (by kernel_rfl) ?_
  refine eqf_cons (by rfl) (by go_simp; rfl) (by go_simp; rfl) (by go_simp) ?_
  exact eqf_last (by rfl) (by go_simp) (by go_simp) (eqA_ver12 (d + 0) w _ _ _ _ _ _ _ _)
attribute [local go_sem high] eqA_cmp12
set_option maxHeartbeats 8000000 in
set_option maxRecDepth 20000 in
theorem ranged_same (x : Rng) (A B : Option Addr) (c d : Nat) (w : World) (h0 : Kd.C kCmpsR w A x.length x) (h1 : Kd.C kCmpsR w B x.length x) (hl : x.length ≤ 1000000000) (hll : ∀ l ∈ x, l.length ≤ 1000000000) :
    Calls Try.prog 64 #[.agg #[.slice A x.length c], .agg #[.slice B x.length d]] w fun e w' => e = .returned (.bool true) ∧ Below w.heap.size w w' := by
  have H0 := Aside0.mk h0
  have H1 := Aside0.mk h1
  have HL := Aside0.mk hl
  have HLL := Aside0.mk hll
  have hb2 := below_alloc (below_alloc (Below.refl w.heap.size w) (Obj.cells #[.slice A x.length c] 133)) (Obj.cells #[.slice B x.length d] 133)
  have HB0 := Aside0.mk hb2
  have hz := heap_last (w.alloc (Obj.cells #[.slice A x.length c] 133)) (Obj.cells #[.slice B x.length d] 133)
  rw [World.size_alloc] at hz
  have HZ := Aside0.mk hz
  clear h0 h1 hl hll hb2 hz
  go_enter Try.func64, Try.ntmps64
  go_wp2
  go_loopg [5, 6, 7, 8, 19, 35] x.length (fun kq v5 v6 v7 v8 v19 v35 w' => ∃ (i : Nat), v19 = .int .i64 (i : Int) ∧ Aside0 (i + kq = x.length) ∧ Aside0 (w'.heap[w.heap.size + 1]? = some (.cells #[.slice B x.length d] 133 (0, 0))) ∧ Aside0 (Below w.heap.size w w'))
  case atStart => exact ⟨0, rfl, ⟨by omega⟩, HZ, HB0⟩
  case round =>
    clear HZ HB0
    obtain ⟨i, rfl, HJ, HZ, HB⟩ := hrel
    have hp0 := (blk_cell HZ.out) 0
    by_cases c1 : i < x.length
    · have e1 : decide (i < x.length) = true := decide_eq_true c1
      have HE5 : Aside0 (wrap64 ((i : Int) + 1) = ((i + 1 : Nat) : Int)) := ⟨by have := HL.out; unfold wrap64; omega⟩
      have HI := Aside0.mk c1
      obtain ⟨ad, Ai, ci, ea, hx, hle, hCl⟩ := at_slice H0.out i c1
      obtain ⟨bd, Bi, di, eb, hy, hle', hDl⟩ := at_slice H1.out i c1
      cases ea
      cases eb
      have hx0 := pw_cell_below HB.out hx
      have HY := Aside0.mk hy
      have hy0 := pw_cell_below HB.out hy
      have hlen : (x.getD i []).length ≤ 1000000000 := by
        rw [List.getD_eq_getElem?_getD, List.getElem?_eq_getElem c1]
        exact HLL.out _ (List.getElem_mem c1)
      generalize x.getD i [] = l at hx0 hy0 hCl hDl hlen HY
      have HCL := Aside0.mk hCl
      have HDL := Aside0.mk hDl
      have HLE := Aside0.mk hlen
      clear hx hy hle hle' hCl hDl hlen
      obtain ⟨go, hgo⟩ : ∃ go : Nat, go = gk := ⟨_, rfl⟩
      subst hgo
      go_wp2
      go_loopg [7, 8, 35] l.length (fun kq v7 v8 v35 w' => ∃ (k : Nat), v35 = .int .i64 (k : Int) ∧ Aside0 (k + kq = l.length) ∧ Aside0 (w'.heap[w.heap.size + 1]? = some (.cells #[.slice (some bd) x.length d] 133 (0, 0))) ∧ Aside0 (Below w.heap.size w w'))
      case atStart => exact ⟨0, rfl, ⟨by omega⟩, HZ, HB⟩
      case round =>
        clear HZ HB hx0 hy0 hp0
        obtain ⟨k, rfl, HJ2, HZ, HB⟩ := hrel
        by_cases c2 : k < l.length
        · have e2 : decide (k < l.length) = true := decide_eq_true c2
          have HE52 : Aside0 (wrap64 ((k : Int) + 1) = ((k + 1 : Nat) : Int)) := ⟨by have := HLE.out; unfold wrap64; omega⟩
          have HI2 := Aside0.mk c2
          obtain ⟨ad2, ea2, y0, y1, y2, y3, y4⟩ := at_cmp HCL.out k c2
          obtain ⟨bd2, eb2, z0, z1, z2, z3, z4⟩ := at_cmp HDL.out k c2
          cases ea2
          cases eb2
          generalize l.getD k (0, noVer) = cm at y0 y1 y2 y3 y4 z0 z1 z2 z3 z4
          obtain ⟨op, a, b, cc, t⟩ := cm
          dsimp only at y0 y1 y2 y3 y4 z0 z1 z2 z3 z4
          have hx0 := pw_cell_below HB.out y0
          have hx1 := pw_cell_below HB.out y1
          have hx2 := pw_cell_below HB.out y2
          have hx3 := pw_cell_below HB.out y3
          have hx4 := pw_cell_below HB.out y4
          have hbx := below_alloc (Below.refl wr.heap.size wr) (Obj.cells #[.int .i64 op, .int .i64 a, .int .i64 b, .int .i64 cc, .string t] 179)
          have HB4 := Aside0.mk (HB.out.trans (hbx.mono HB.out.size))
          have HZ4 := Aside0.mk ((hbx.block _ (blk_lt HZ.out)).trans HZ.out)
          have hz0 := pw_cell_below HB4.out z0
          have hz1 := pw_cell_below HB4.out z1
          have hz2 := pw_cell_below HB4.out z2
          have hz3 := pw_cell_below HB4.out z3
          have hz4 := pw_cell_below HB4.out z4
          have hy0 := pw_cell_below HB4.out HY.out
          have hp0 := (blk_cell HZ4.out) 0
          have hbox := heap_last wr (Obj.cells #[.int .i64 op, .int .i64 a, .int .i64 b, .int .i64 cc, .string t] 179)
          have hq0 := (blk_cell hbox) 0
          have hq1 := (blk_cell hbox) 1
          have hq2 := (blk_cell hbox) 2
          have hq3 := (blk_cell hbox) 3
          have hq4 := (blk_cell hbox) 4
          clear y0 y1 y2 y3 y4 z0 z1 z2 z3 z4 hbx hbox
          go_wp2
          repeat (go_quiet (fail); go_wp2)
          go_roundg (gk - 1)
          case measure => have := HJ2.out; have := HI2.out; omega
          case rel => exact ⟨k + 1, (by first | exact congrArg _ HE52.out | rfl), ⟨by have := HJ2.out; have := HI2.out; omega⟩, HZ4, ⟨pw_below_drewN HB4.out _⟩⟩
        · have e2 : decide (k < l.length) = false := decide_eq_false c2
          go_wp2
          go_roundg (go - 1)
          case measure => have := HJ.out; have := HI.out; omega
          case rel => exact ⟨i + 1, (by first | exact congrArg _ HE5.out | rfl), ⟨by have := HJ.out; have := HI.out; omega⟩, HZ, HB⟩
    · have e1 : decide (i < x.length) = false := decide_eq_false c1
      go_wp2
      go_ret
      exact ⟨rfl, HB.out⟩
theorem all_get {α : Type} {f : α → Bool} {l : List α} (h : l.all f = true) (i : Nat) (hi : i < l.length) (z : α) : f (l.getD i z) = true := by
  rw [List.getD_eq_getElem?_getD, List.getElem?_eq_getElem hi]
  exact List.all_eq_true.1 h _ (List.getElem_mem hi)
theorem okRng_len {x : Rng} (h : okRng x = true) : x.length ≤ 1000000000 ∧ ∀ l ∈ x, l.length ≤ 1000000000 := by
  unfold okRng at h
  rw [Bool.and_eq_true, List.all_eq_true] at h
  have h1 : x.length ≤ 12 := of_decide_eq_true h.1
  refine ⟨by omega, fun l hl => ?_⟩
  have h2 := h.2 l hl
  unfold okCmps at h2
  rw [Bool.and_eq_true] at h2
  have h3 : l.length ≤ 12 := of_decide_eq_true h2.1
  omega
set_option maxHeartbeats 8000000 in
set_option maxRecDepth 20000 in
theorem Alike_same (x : List Svc) (A B : Option Addr) (c d : Nat) (w : World) (h0 : Kd.C kSvcR w A x.length x) (h1 : Kd.C kSvcR w B x.length x) (hok : okCat x = true) :
    Calls Try.prog 25 #[.agg #[.slice A x.length c], .agg #[.slice B x.length d]] w fun e w' => e = .returned (.bool true) ∧ Below w.heap.size w w' := by
  have H0 := Aside0.mk h0
  have H1 := Aside0.mk h1
  unfold okCat at hok
  rw [Bool.and_eq_true] at hok
  have HL : Aside0 (x.length ≤ 16) := ⟨of_decide_eq_true hok.1⟩
  have HOK := Aside0.mk hok.2
  have hb2 := below_alloc (below_alloc (Below.refl w.heap.size w) (Obj.cells #[.slice A x.length c] 64)) (Obj.cells #[.slice B x.length d] 64)
  have HB0 := Aside0.mk hb2
  have hz := heap_last (w.alloc (Obj.cells #[.slice A x.length c] 64)) (Obj.cells #[.slice B x.length d] 64)
  rw [World.size_alloc] at hz
  have HZ := Aside0.mk hz
  clear h0 h1 hok hb2 hz
  go_enter Try.func25, Try.ntmps25
  go_wp2
  go_loopg [5, 6, 7, 8, 9, 10, 11, 12, 23, 50, 84] x.length (fun kq v5 v6 v7 v8 v9 v10 v11 v12 v23 v50 v84 w' => ∃ (i : Nat), v23 = .int .i64 (i : Int) ∧ Aside0 (i + kq = x.length) ∧ Aside0 (w'.heap[w.heap.size + 1]? = some (.cells #[.slice B x.length d] 64 (0, 0))) ∧ Aside0 (Below w.heap.size w w'))
  case atStart => exact ⟨0, rfl, ⟨by omega⟩, HZ, HB0⟩
  case round =>
    clear HZ HB0
    obtain ⟨i, rfl, HJ, HZ, HB⟩ := hrel
    have hp0 := (blk_cell HZ.out) 0
    by_cases c1 : i < x.length
    · have e1 : decide (i < x.length) = true := decide_eq_true c1
      have HE5 : Aside0 (wrap64 ((i : Int) + 1) = ((i + 1 : Nat) : Int)) := ⟨by have := HL.out; unfold wrap64; omega⟩
      have HI := Aside0.mk c1
      obtain ⟨ad, Ai, ci, ea, hx, hx', hle, hCl⟩ := at_svcR H0.out i c1
      obtain ⟨bd, Bi, di, eb, hy, hy', hle', hDl⟩ := at_svcR H1.out i c1
      cases ea
      cases eb
      have hx0 := pw_cell_below HB.out hx
      have hx1 := pw_cell_below HB.out hx'
      have hos := all_get HOK.out i c1 zSvc
      generalize x.getD i zSvc = sv at hx0 hx1 hCl hDl hos hy hy'
      obtain ⟨nm, rels⟩ := sv
      dsimp only at hx0 hx1 hCl hDl hy hy'
      unfold okSvc at hos
      rw [Bool.and_eq_true, Bool.and_eq_true] at hos
      have HRL : Aside0 (rels.length ≤ 16) := ⟨of_decide_eq_true hos.1.2⟩
      have HOR := Aside0.mk hos.2
      have HCL := Aside0.mk hCl
      have HDL := Aside0.mk hDl
      have hbx := below_alloc (Below.refl wr.heap.size wr) (Obj.cells #[.string nm, .slice Ai rels.length ci] 116)
      have hbB := HB.out.trans (hbx.mono HB.out.size)
      have hy0 := pw_cell_below hbB hy
      have hy1 := pw_cell_below hbB hy'
      have hp1 := (blk_cell ((hbx.block _ (blk_lt HZ.out)).trans HZ.out)) 0
      have hbx2 := below_alloc hbx (Obj.cells #[.string nm, .slice Bi rels.length di] 116)
      have HB2 := Aside0.mk (HB.out.trans (hbx2.mono HB.out.size))
      have HZ2 := Aside0.mk ((hbx2.block _ (blk_lt HZ.out)).trans HZ.out)
      have hT := heap_last (wr.alloc (Obj.cells #[.string nm, .slice Ai rels.length ci] 116)) (Obj.cells #[.string nm, .slice Bi rels.length di] 116)
      rw [World.size_alloc] at hT
      obtain ⟨bs, hbs⟩ : ∃ bs, wr.heap.size + 1 = bs := ⟨_, rfl⟩
      have HT := Aside0.mk (hbs ▸ hT)
      obtain ⟨go, hgo⟩ : ∃ go : Nat, go = gk := ⟨_, rfl⟩
      subst hgo
      clear hx hx' hle hle' hCl hDl hos hy hy' hbx hbx2 hbB hT
      go_wp2
      clear hx0 hx1 hy0 hy1 hp0 hp1 e1 hbs
      go_loopg [8, 9, 10, 11, 12, 50, 84] rels.length (fun kq v8 v9 v10 v11 v12 v50 v84 w' => ∃ (j : Nat), v50 = .int .i64 (j : Int) ∧ Aside0 (j + kq = rels.length) ∧ Aside0 (w'.heap[w.heap.size + 1]? = some (.cells #[.slice (some bd) x.length d] 64 (0, 0))) ∧ Aside0 (w'.heap[bs]? = some (.cells #[.string nm, .slice Bi rels.length di] 116 (0, 0))) ∧ Aside0 (Below w.heap.size w w'))
      case atStart => exact ⟨0, rfl, ⟨by omega⟩, HZ2, HT, HB2⟩
      case round =>
        clear HZ HB HZ2 HT HB2
        obtain ⟨j, rfl, HJ2, HZ, HT, HB⟩ := hrel
        have ht1 := (blk_cell HT.out) 1
        by_cases c2 : j < rels.length
        · have e2 : decide (j < rels.length) = true := decide_eq_true c2
          have HE52 : Aside0 (wrap64 ((j : Int) + 1) = ((j + 1 : Nat) : Int)) := ⟨by have := HRL.out; unfold wrap64; omega⟩
          have HI2 := Aside0.mk c2
          obtain ⟨ad2, Aj, cj, ea2, x0, x1, x2, x3, x4, x5, hle, hCr⟩ := at_relR HCL.out j c2
          obtain ⟨bd2, Bj, dj, eb2, y0, y1, y2, y3, y4, y5, hle', hDr⟩ := at_relR HDL.out j c2
          cases ea2
          cases eb2
          have hos := all_get HOR.out j c2 zRel
          generalize rels.getD j zRel = rl at x0 x1 x2 x3 x4 x5 y0 y1 y2 y3 y4 y5 hCr hDr hos
          obtain ⟨⟨a, b, cc, t⟩, lv, nds⟩ := rl
          dsimp only at x0 x1 x2 x3 x4 x5 y0 y1 y2 y3 y4 y5 hCr hDr
          unfold okRel at hos
          rw [Bool.and_eq_true, Bool.and_eq_true] at hos
          have HNL : Aside0 (nds.length ≤ 12) := ⟨of_decide_eq_true hos.1.1⟩
          have HON := Aside0.mk hos.2
          have HCR := Aside0.mk hCr
          have HDR := Aside0.mk hDr
          have hx0 := pw_cell_below HB.out x0
          have hx1 := pw_cell_below HB.out x1
          have hx2 := pw_cell_below HB.out x2
          have hx3 := pw_cell_below HB.out x3
          have hx4 := pw_cell_below HB.out x4
          have hx5 := pw_cell_below HB.out x5
          have hbx := below_alloc (Below.refl wr.heap.size wr) (Obj.cells #[.int .i64 a, .int .i64 b, .int .i64 cc, .string t, .int .i64 lv, .slice Aj nds.length cj] 125)
          have hbB := HB.out.trans (hbx.mono HB.out.size)
          have hy0 := pw_cell_below hbB y0
          have hy1 := pw_cell_below hbB y1
          have hy2 := pw_cell_below hbB y2
          have hy3 := pw_cell_below hbB y3
          have hy4 := pw_cell_below hbB y4
          have hy5 := pw_cell_below hbB y5
          have ht2 := (blk_cell ((hbx.block _ (blk_lt HT.out)).trans HT.out)) 1
          have hbx2 := below_alloc hbx (Obj.cells #[.int .i64 a, .int .i64 b, .int .i64 cc, .string t, .int .i64 lv, .slice Bj nds.length dj] 125)
          have HB2 := Aside0.mk (HB.out.trans (hbx2.mono HB.out.size))
          have HZ2 := Aside0.mk ((hbx2.block _ (blk_lt HZ.out)).trans HZ.out)
          have HT2 := Aside0.mk ((hbx2.block _ (blk_lt HT.out)).trans HT.out)
          have hQ := heap_last (wr.alloc (Obj.cells #[.int .i64 a, .int .i64 b, .int .i64 cc, .string t, .int .i64 lv, .slice Aj nds.length cj] 125)) (Obj.cells #[.int .i64 a, .int .i64 b, .int .i64 cc, .string t, .int .i64 lv, .slice Bj nds.length dj] 125)
          rw [World.size_alloc] at hQ
          obtain ⟨bq, hbq⟩ : ∃ bq, wr.heap.size + 1 = bq := ⟨_, rfl⟩
          have HQ := Aside0.mk (hbq ▸ hQ)
          obtain ⟨go2, hgo⟩ : ∃ go2 : Nat, go2 = gk := ⟨_, rfl⟩
          subst hgo
          clear x0 x1 x2 x3 x4 x5 y0 y1 y2 y3 y4 y5 hle hle' hCr hDr hos hbx hbx2 hbB hQ
          go_wp2
          clear hx0 hx1 hx2 hx3 hx4 hx5 hy0 hy1 hy2 hy3 hy4 hy5 ht1 ht2 e2 hbq
          go_loopg [11, 12, 84] nds.length (fun kq v11 v12 v84 w' => ∃ (k : Nat), v84 = .int .i64 (k : Int) ∧ Aside0 (k + kq = nds.length) ∧ Aside0 (w'.heap[w.heap.size + 1]? = some (.cells #[.slice (some bd) x.length d] 64 (0, 0))) ∧ Aside0 (w'.heap[bs]? = some (.cells #[.string nm, .slice (some bd2) rels.length di] 116 (0, 0))) ∧ Aside0 (w'.heap[bq]? = some (.cells #[.int .i64 a, .int .i64 b, .int .i64 cc, .string t, .int .i64 lv, .slice Bj nds.length dj] 125 (0, 0))) ∧ Aside0 (Below w.heap.size w w'))
          case atStart => exact ⟨0, rfl, ⟨by omega⟩, HZ2, HT2, HQ, HB2⟩
          case round =>
            clear HZ HB HT HZ2 HT2 HQ HB2
            obtain ⟨k, rfl, HJ3, HZ, HT, HQ, HB⟩ := hrel
            by_cases c3 : k < nds.length
            · have e3 : decide (k < nds.length) = true := decide_eq_true c3
              have HE53 : Aside0 (wrap64 ((k : Int) + 1) = ((k + 1 : Nat) : Int)) := ⟨by have := HNL.out; unfold wrap64; omega⟩
              have HI3 := Aside0.mk c3
              obtain ⟨ad3, Ak, ck, ea3, x0, x1, hle, hCn⟩ := at_ndR HCR.out k c3
              obtain ⟨bd3, Bk, dk, eb3, y0, y1, hle', hDn⟩ := at_ndR HDR.out k c3
              cases ea3
              cases eb3
              have hos := all_get HON.out k c3 zNd
              generalize nds.getD k zNd = nd at x0 x1 y0 y1 hCn hDn hos
              obtain ⟨sv, rg⟩ := nd
              dsimp only at x0 x1 y0 y1 hCn hDn
              have hx0 := pw_cell_below HB.out x0
              have hx1 := pw_cell_below HB.out x1
              have hbx := below_alloc (Below.refl wr.heap.size wr) (Obj.cells #[.int .i64 sv, .slice Ak rg.length ck] 137)
              have hbB := below_drew (HB.out.trans (hbx.mono HB.out.size))
              have hy0 := pw_cell_below hbB y0
              have hy1 := pw_cell_below hbB y1
              have hq5 : (wr.alloc (Obj.cells #[.int .i64 sv, .slice Ak rg.length ck] 137)).drew.cell? ⟨bq, 5, none⟩ = some (.slice (some bd3) nds.length dj) := (blk_cell ((hbx.block _ (blk_lt HQ.out)).trans HQ.out)) 5
              have hlen := okRng_len (show okRng rg = true from hos)
              have K := Aside0.mk (ranged_same rg Ak Bk ck dk _ (Kd.C_below hCn hbB) (Kd.C_below hDn hbB) hlen.1 hlen.2)
              have HZ4 : Aside0 ((wr.alloc (Obj.cells #[.int .i64 sv, .slice Ak rg.length ck] 137)).drew.heap[w.heap.size + 1]? = some (.cells #[.slice (some bd) x.length d] 64 (0, 0))) := ⟨(hbx.block _ (blk_lt HZ.out)).trans HZ.out⟩
              have HT4 : Aside0 ((wr.alloc (Obj.cells #[.int .i64 sv, .slice Ak rg.length ck] 137)).drew.heap[bs]? = some (.cells #[.string nm, .slice (some bd2) rels.length di] 116 (0, 0))) := ⟨(hbx.block _ (blk_lt HT.out)).trans HT.out⟩
              have HQ4 : Aside0 ((wr.alloc (Obj.cells #[.int .i64 sv, .slice Ak rg.length ck] 137)).drew.heap[bq]? = some (.cells #[.int .i64 a, .int .i64 b, .int .i64 cc, .string t, .int .i64 lv, .slice (some bd3) nds.length dj] 125 (0, 0))) := ⟨(hbx.block _ (blk_lt HQ.out)).trans HQ.out⟩
              clear x0 x1 y0 y1 hle hle' hCn hDn hos hlen
              go_wp2
              go_region_law (first
                | (go_simp; go_at_call 64; go_must (refine K.out.mono ?_; rintro e w5 ⟨rfl, hb⟩; have HB5 := Aside0.mk (below_step hbB hb); have HZ5 := Aside0.mk ((hb.block _ (blk_lt HZ4.out)).trans HZ4.out); have HT5 := Aside0.mk ((hb.block _ (blk_lt HT4.out)).trans HT4.out); have HQ5 := Aside0.mk ((hb.block _ (blk_lt HQ4.out)).trans HQ4.out))))
              all_goals
                go_wp2
                go_roundg (gk - 1)
                case measure => have := HJ3.out; have := HI3.out; omega
                case rel => exact ⟨k + 1, (by first | exact congrArg _ HE53.out | rfl), ⟨by have := HJ3.out; have := HI3.out; omega⟩, HZ5, HT5, HQ5, HB5⟩
            · have e3 : decide (k < nds.length) = false := decide_eq_false c3
              go_wp2
              go_roundg (go2 - 1)
              case measure => have := HJ2.out; have := HI2.out; omega
              case rel => exact ⟨j + 1, (by first | exact congrArg _ HE52.out | rfl), ⟨by have := HJ2.out; have := HI2.out; omega⟩, HZ, HT, HB⟩
        · have e2 : decide (j < rels.length) = false := decide_eq_false c2
          go_wp2
          go_roundg (go - 1)
          case measure => have := HJ.out; have := HI.out; omega
          case rel => exact ⟨i + 1, (by first | exact congrArg _ HE5.out | rfl), ⟨by have := HJ.out; have := HI.out; omega⟩, HZ, HB⟩
    · have e1 : decide (i < x.length) = false := decide_eq_false c1
      go_wp2
      go_ret
      exact ⟨rfl, HB.out⟩
end Go.Proofs.Ythefbeekcjchcaa.P
