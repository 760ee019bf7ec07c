/- lattice: the document's own functions on graphs: Right, Ready; plain. -/
import Derived.Test.YtplhihakeodadaaDoorLtClo
namespace Go.Proofs.YtplhihakeodadaaDoor.Sg
open Go Go.RowKit Go.Proofs.YtplhihakeodadaaDoorW.PrintWords Go.Proofs.YtplhihakeodadaaDoorW.PrintLast Go.Proofs.YtplhihakeodadaaDoorW.PrintMore
set_option linter.unusedVariables false
set_option linter.unusedSimpArgs false
set_option maxHeartbeats 8000000 in
set_option maxRecDepth 20000 in
theorem RRight_T (N : Int) (E : List Stp) (A : Option Addr) (c : Nat) (w : World) (h : Kd.C kP w A E.length E) (hl : E.length ≤ 1000000000) (hN : -9223372036854775808 ≤ N ∧ N < 9223372036854775808) :
    Calls Tryd.prog 34 #[.agg #[.int .i64 N, .slice A E.length c]] w fun e w' => e = .returned (.bool (rightG N E)) ∧ Below w.heap.size w w' := by
  have HC := Aside0.mk h
  have HL := Aside0.mk hl
  obtain ⟨hN1, hN2⟩ := hN
  have HB0 := Aside0.mk (below_alloc (Below.refl w.heap.size w) (.cells #[.int .i64 N, .slice A E.length c] 55))
  have HG0 := Aside0.mk (heap_last w (.cells #[.int .i64 N, .slice A E.length c] 55))
  have hg0 := (blk_cell HG0.out) 0
  have hg1 := (blk_cell HG0.out) 1
  clear h hl
  by_cases q1 : N < 0
  · have HR : Aside0 (rightG N E = false) := ⟨by unfold rightG; rw [decide_eq_false (by omega)]; rfl⟩
    go_enter Tryd.func34, Tryd.ntmps34
    go_wp2
    go_ret
    exact ⟨by rw [HR.out]; rfl, HB0.out⟩
  by_cases q2 : N > 64
  · have HR : Aside0 (rightG N E = false) := ⟨by unfold rightG; rw [decide_eq_false (by omega)]; rfl⟩
    go_enter Tryd.func34, Tryd.ntmps34
    go_wp2
    go_ret
    exact ⟨by rw [HR.out]; rfl, HB0.out⟩
  by_cases q3 : E.length > 4096
  · have HR : Aside0 (rightG N E = false) := ⟨by unfold rightG; rw [decide_eq_false (by omega)]; rfl⟩
    go_enter Tryd.func34, Tryd.ntmps34
    go_wp2
    go_ret
    exact ⟨by rw [HR.out]; rfl, HB0.out⟩
  have HQ : Aside0 (0 ≤ N ∧ N ≤ 64 ∧ E.length ≤ 4096) := ⟨by omega⟩
  go_enter Tryd.func34, Tryd.ntmps34
  go_wp2
  go_loopg [3, 4, 5] E.length (fun kq v3 v4 v5 w' => ∃ (i : Nat), v3 = .int .i64 (i : Int) ∧ Aside0 (i + kq = E.length) ∧ Aside0 ((E.take i).all (okEdge N) = true) ∧ Aside0 (w'.heap[w.heap.size]? = some (.cells #[.int .i64 N, .slice A E.length c] 55 (0, 0))) ∧ Aside0 (Below w.heap.size w w'))
  case atStart => exact ⟨0, rfl, ⟨by omega⟩, ⟨rfl⟩, HG0, HB0⟩
  case round =>
    clear hg0 hg1
    obtain ⟨i, rfl, HJ, HA, HG, HB⟩ := hrel
    have hg0 := (blk_cell HG.out) 0
    have hg1 := (blk_cell HG.out) 1
    by_cases c1 : i < E.length
    · have e1 : decide (i < E.length) = true := decide_eq_true c1
      have HE5 : Aside0 (wrap64 ((i : Int) + 1) = ((i + 1 : Nat) : Int)) := ⟨by have := HL.out; unfold wrap64; omega⟩
      obtain ⟨ad, ea, hx, hy⟩ := at_stp HC.out i c1
      cases ea
      replace hx := pw_cell_below HB.out hx
      replace hy := pw_cell_below HB.out hy
      obtain ⟨e, he⟩ : ∃ e, E.getD i (0, 0) = e := ⟨_, rfl⟩
      rw [he] at hx hy
      have HEe := Aside0.mk he
      have HI := Aside0.mk c1
      clear he
      obtain ⟨a, b⟩ := e
      dsimp only at hx hy
      by_cases q : okEdge N (a, b) = true
      · have HT := Aside0.mk (all_step (f := okEdge N) HI.out (0, 0) (by rw [HEe.out]; exact q) HA.out)
        unfold okEdge at q
        rw [decide_eq_true_eq] at q
        obtain ⟨⟨p1, p2⟩, ⟨p3, p4⟩⟩ := q
        dsimp only at p1 p2 p3 p4
        have r1 : ¬ a < 0 := by omega
        have r2 : ¬ b < 0 := by omega
        have r3 : ¬ N ≤ a := by omega
        have r4 : ¬ N ≤ b := by omega
        clear p1 p2 p3 p4 q1 q2 q3
        go_wp2
        go_roundg (gk - 1)
        case measure => have := HJ.out; have := HI.out; omega
        case rel => exact ⟨i + 1, (by first | exact congrArg _ HE5.out | rfl), ⟨by have := HJ.out; have := HI.out; omega⟩, HT, HG, HB⟩
      · have HR : Aside0 (rightG N E = false) := ⟨by
          unfold rightG
          rw [all_bad (f := okEdge N) HI.out (0, 0) (by rw [HEe.out]; simpa using q), Bool.and_false]⟩
        unfold okEdge at q
        rw [decide_eq_true_eq] at q
        dsimp only at q
        have q' : a < 0 ∨ b < 0 ∨ N ≤ a ∨ N ≤ b := by omega
        clear q q1 q2 q3
        go_wp2
        all_goals first
          | (go_ret; exact ⟨by rw [HR.out]; rfl, HB.out⟩)
          | (exfalso; omega)
    · have e1 : decide (i < E.length) = false := decide_eq_false c1
      have HR : Aside0 (rightG N E = true) := ⟨by
        have hA := HA.out
        rw [List.take_of_length_le (by omega)] at hA
        unfold rightG
        rw [hA, decide_eq_true HQ.out]
        rfl⟩
      go_wp2
      go_ret
      exact ⟨by rw [HR.out]; rfl, HB.out⟩
/-- A node may come next. -/
def rdyE (E : List Stp) (s n : Nat) : Bool := !s.testBit n && E.all fun e => !(e.2 == (n : Int)) || s.testBit e.1.toNat
set_option maxHeartbeats 8000000 in
set_option maxRecDepth 20000 in
theorem RReady_T (N : Int) (E : List Stp) (A : Option Addr) (c s n : Nat) (w : World) (hs : s < 18446744073709551616) (hn : n < 64) (h : Kd.C kP w A E.length E) (hE : EdgesIn 64 E) (hl : E.length ≤ 1000000000) :
    Calls Tryd.prog 36 #[.agg #[.int .i64 N, .slice A E.length c], .int .u64 (s : Int), .int .i64 (n : Int)] w fun e w' => e = .returned (.bool (rdyE E s n)) ∧ Below w.heap.size w w' := by
  have HC := Aside0.mk h
  have HE := Aside0.mk hE
  have HL := Aside0.mk hl
  have HS := Aside0.mk hs
  have HB0 := Aside0.mk (below_alloc (Below.refl w.heap.size w) (.cells #[.int .i64 N, .slice A E.length c] 55))
  have HG0 := Aside0.mk (heap_last w (.cells #[.int .i64 N, .slice A E.length c] 55))
  have K0 := Aside0.mk (In_T s n (w.alloc (.cells #[.int .i64 N, .slice A E.length c] 55)) HS.out hn)
  obtain ⟨bn, hbn⟩ : ∃ b, s.testBit n = b := ⟨_, rfl⟩
  rw [hbn] at K0
  have HBN := Aside0.mk hbn
  have HN := Aside0.mk hn
  clear h hE hl hs hbn hn
  go_enter Tryd.func36, Tryd.ntmps36
  cases bn with
  | true =>
    go_wp2_with (fail)
    refine K0.out.mono ?_
    rintro e0 w0 ⟨rfl, rfl⟩
    go_wp2
    go_ret
    exact ⟨by unfold rdyE; rw [HBN.out]; rfl, HB0.out⟩
  | false =>
    go_wp2_with (fail)
    refine K0.out.mono ?_
    rintro e0 w0 ⟨rfl, rfl⟩
    go_wp2
    go_loopg [7] E.length (fun kq v7 w' => ∃ (i : Nat), v7 = .int .i64 (i : Int) ∧ Aside0 (i + kq = E.length) ∧ Aside0 ((E.take i).all (fun e => !(e.2 == (n : Int)) || s.testBit e.1.toNat) = true) ∧ Aside0 (w'.heap[w.heap.size]? = some (.cells #[.int .i64 N, .slice A E.length c] 55 (0, 0))) ∧ Aside0 (Below w.heap.size w w'))
    case atStart => exact ⟨0, rfl, ⟨by omega⟩, ⟨rfl⟩, HG0, HB0⟩
    case round =>
      obtain ⟨i, rfl, HJ, HA, HG, HB⟩ := hrel
      have hg1 := (blk_cell HG.out) 1
      by_cases c1 : i < E.length
      · have e1 : decide (i < E.length) = true := decide_eq_true c1
        have HE5 : Aside0 (wrap64 ((i : Int) + 1) = ((i + 1 : Nat) : Int)) := ⟨by have := HL.out; unfold wrap64; omega⟩
        obtain ⟨ad, ea, hx, hy⟩ := at_stp HC.out i c1
        cases ea
        replace hx := pw_cell_below HB.out hx
        replace hy := pw_cell_below HB.out hy
        obtain ⟨e, he⟩ : ∃ e, E.getD i (0, 0) = e := ⟨_, rfl⟩
        have hm : e ∈ E := by rw [← he]; exact getD_mem c1 _
        obtain ⟨⟨p1, p2⟩, ⟨p3, p4⟩⟩ := HE.out e hm
        rw [he] at hx hy
        have HEe := Aside0.mk he
        have HI := Aside0.mk c1
        obtain ⟨x, y⟩ := e
        obtain ⟨x, rfl⟩ := Int.eq_ofNat_of_zero_le p1
        obtain ⟨y, rfl⟩ := Int.eq_ofNat_of_zero_le p3
        have K1 := Aside0.mk (In_T s x wr HS.out (by dsimp only at p2; omega))
        clear he hm p1 p2 p3 p4
        obtain ⟨bx, hbx⟩ : ∃ b, s.testBit x = b := ⟨_, rfl⟩
        rw [hbx] at K1
        have HBX := Aside0.mk hbx
        clear hbx
        by_cases q : y = n
        · have q1 : ((y : Int) == (n : Int)) = true := by rw [q]; simp
          have Q := Aside0.mk q
          clear q
          cases bx with
          | true =>
            have HT := Aside0.mk (all_step (f := fun e => !(e.2 == (n : Int)) || s.testBit e.1.toNat) HI.out (0, 0) (by rw [HEe.out]; simp [HBX.out]) HA.out)
            go_wp2_with (fail)
            refine K1.out.mono ?_
            rintro e0 w0 ⟨rfl, rfl⟩
            go_wp2
            go_roundg (gk - 1)
            case measure => have := HJ.out; have := HI.out; omega
            case rel => exact ⟨i + 1, congrArg _ HE5.out, ⟨by have := HJ.out; have := HI.out; omega⟩, HT, HG, HB⟩
          | false =>
            have HT := Aside0.mk (all_bad (f := fun e => !(e.2 == (n : Int)) || s.testBit e.1.toNat) HI.out (0, 0) (by rw [HEe.out]; simp [HBX.out, Q.out]))
            go_wp2_with (fail)
            refine K1.out.mono ?_
            rintro e0 w0 ⟨rfl, rfl⟩
            go_wp2
            go_ret
            exact ⟨by unfold rdyE; rw [HT.out, Bool.and_false]; rfl, HB.out⟩
        · have q1 : ((y : Int) == (n : Int)) = false := by rw [beq_eq_false_iff_ne]; omega
          have HT := Aside0.mk (all_step (f := fun e => !(e.2 == (n : Int)) || s.testBit e.1.toNat) HI.out (0, 0) (by rw [HEe.out]; show (!((y : Int) == (n : Int)) || _) = true; rw [q1]; rfl) HA.out)
          clear q
          go_wp2
          go_roundg (gk - 1)
          case measure => have := HJ.out; have := HI.out; omega
          case rel => exact ⟨i + 1, congrArg _ HE5.out, ⟨by have := HJ.out; have := HI.out; omega⟩, HT, HG, HB⟩
      · have e1 : decide (i < E.length) = false := decide_eq_false c1
        have HIT : Aside0 (E.take i = E) := ⟨List.take_of_length_le (by omega)⟩
        go_wp2
        go_ret
        exact ⟨by unfold rdyE; rw [HBN.out, ← HIT.out, HA.out]; rfl, HB.out⟩
/-- It is no more than a play goes through with. -/
def okG (N : Int) (E : List Stp) : Bool := decide (E.length ≤ 60) && (decide (N ≤ 10) || !rightG N E)
set_option maxHeartbeats 8000000 in
set_option maxRecDepth 20000 in
theorem plain_T (N : Int) (E : List Stp) (A : Option Addr) (c : Nat) (w : World) (h : Kd.C kP w A E.length E) (hN : -9223372036854775808 ≤ N ∧ N < 9223372036854775808) :
    Calls Tryd.prog 31 #[.agg #[.int .i64 N, .slice A E.length c]] w fun e w' => e = .returned (.tuple #[.agg #[.int .i64 N, .slice A E.length c], .bool (okG N E)]) ∧ Below w.heap.size w w' := by
  have K := Aside0.mk (fun W (hl : E.length ≤ 60) (hb : Below w.heap.size w W) => RRight_T N E A c W (Kd.C_below h hb) (by omega) hN)
  obtain ⟨hN1, hN2⟩ := hN
  clear h
  have hb1 := below_alloc (Below.refl w.heap.size w) (.cells #[.int .i64 N, .slice A E.length c] 62)
  have hb2 := below_alloc hb1 (.cells #[.int .i64 0, .slice none 0 0] 55)
  have HB := Aside0.mk (below_alloc hb2 (.cells #[.int .i64 N, .slice A E.length c] 55))
  have HX0 := Aside0.mk (blk_alloc (blk_alloc (heap_last w (.cells #[.int .i64 N, .slice A E.length c] 62)) (.cells #[.int .i64 0, .slice none 0 0] 55)) (.cells #[.int .i64 N, .slice A E.length c] 55))
  have hx1 := blk_alloc (heap_last (w.alloc (.cells #[.int .i64 N, .slice A E.length c] 62)) (.cells #[.int .i64 0, .slice none 0 0] 55)) (.cells #[.int .i64 N, .slice A E.length c] 55)
  have hx2 := heap_last ((w.alloc (.cells #[.int .i64 N, .slice A E.length c] 62)).alloc (.cells #[.int .i64 0, .slice none 0 0] 55)) (.cells #[.int .i64 N, .slice A E.length c] 55)
  rw [World.size_alloc] at hx1
  rw [World.size_alloc, World.size_alloc] at hx2
  have HX1 := Aside0.mk hx1
  have HX2 := Aside0.mk hx2
  clear hb1 hb2 hx1 hx2
  go_enter Tryd.func31, Tryd.ntmps31
  go_wp2_with (fail)
  obtain ⟨w1, hw1⟩ : ∃ W, ((w.alloc (.cells #[.int .i64 N, .slice A E.length c] 62)).alloc (.cells #[.int .i64 0, .slice none 0 0] 55)).alloc (.cells #[.int .i64 N, .slice A E.length c] 55) = W := ⟨_, rfl⟩
  rw [hw1]
  have hB1 := HB.out
  have hX0 := HX0.out
  have hX1 := HX1.out
  have hX2 := HX2.out
  rw [hw1] at hB1 hX0 hX1 hX2
  clear HB HX0 HX1 HX2 hw1
  have HB := Aside0.mk hB1
  have HX0 := Aside0.mk hX0
  have HX1 := Aside0.mk hX1
  have HX2 := Aside0.mk hX2
  have a0 := (blk_cell hX0) 0
  have a1 := (blk_cell hX0) 1
  have b0 := (blk_cell hX1) 0
  have b1 := (blk_cell hX1) 1
  have bf0 := free_of hX1 0
  have bf1 := free_of hX1 1
  have c0 := (blk_cell hX2) 0
  have c1 := (blk_cell hX2) 1
  clear hB1 hX0 hX1 hX2
  by_cases q1 : E.length ≤ 60
  · by_cases q2 : N ≤ 10
    · have HO : Aside0 (okG N E = true) := ⟨by unfold okG; rw [decide_eq_true q1, decide_eq_true q2]; rfl⟩
      have d1 : decide (((E.length : Nat) : Int) ≤ 60) = true := decide_eq_true (by omega)
      have d2 : decide (N ≤ 10) = true := decide_eq_true q2
      clear q1 q2
      have hY := blk_drew (box_set (box_set HX1.out (o := 0) (.int .i64 N)) (o := 1) (.slice A E.length c))
      have y0 := (blk_cell hY) 0
      have y1 := (blk_cell hY) 1
      have HBY := Aside0.mk (pw_below_drewN ((HB.out.setCell (p := ⟨w.heap.size + 1, 0, none⟩) (by show w.heap.size ≤ w.heap.size + 1; omega) (.int .i64 N)).setCell (p := ⟨w.heap.size + 1, 1, none⟩) (by show w.heap.size ≤ w.heap.size + 1; omega) (.slice A E.length c)) 1)
      clear hY
      go_big_region
      go_wp2
      refine bodyPost_ret (v := .tuple #[.agg #[.int .i64 N, .slice A E.length c], .bool true]) (by simp [results, Tryd.results31, go_sem, y0, y1]) rfl ?_
      exact ⟨by rw [HO.out], HBY.out⟩
    · have HO : Aside0 (okG N E = !rightG N E) := ⟨by unfold okG; rw [decide_eq_true q1, decide_eq_false q2]; rfl⟩
      have d1 : decide (((E.length : Nat) : Int) ≤ 60) = true := decide_eq_true (by omega)
      have d2 : decide (N ≤ 10) = false := decide_eq_false q2
      have Q1 := Aside0.mk q1
      obtain ⟨rg, hrg⟩ : ∃ b, rightG N E = b := ⟨_, rfl⟩
      rw [hrg] at K HO
      clear q1 q2 hrg
      have K' := Aside0.mk (K.out w1.drew Q1.out (pw_below_drewN HB.out 1))
      have HZ0 := Aside0.mk (blk_drew HX0.out)
      have HZ1 := Aside0.mk (blk_drew HX1.out)
      have HZ2 := Aside0.mk (blk_drew HX2.out)
      have HBD := Aside0.mk (pw_below_drewN HB.out 1)
      have z0 : w1.drew.cell? ⟨w.heap.size, 0, none⟩ = some (.int .i64 N) := a0
      have z1 : w1.drew.cell? ⟨w.heap.size, 1, none⟩ = some (.slice A E.length c) := a1
      have z2 : w1.drew.cell? ⟨w.heap.size + 1 + 1, 0, none⟩ = some (.int .i64 N) := c0
      have z3 : w1.drew.cell? ⟨w.heap.size + 1 + 1, 1, none⟩ = some (.slice A E.length c) := c1
      clear a0 a1 b0 b1 bf0 bf1 c0 c1 K HX0 HX1 HX2 HB
      go_region_held3 (fun w' => w'.cell? ⟨w.heap.size, 0, none⟩ = some (.int .i64 N) ∧ w'.cell? ⟨w.heap.size, 1, none⟩ = some (.slice A E.length c) ∧ w'.cell? ⟨w.heap.size + 1 + 1, 0, none⟩ = some (.int .i64 N) ∧ w'.cell? ⟨w.heap.size + 1 + 1, 1, none⟩ = some (.slice A E.length c)) (first | exact ⟨z0, z1, z2, z3⟩ | exact ⟨y0, y1, y2, y3⟩ | go_keep)
        (first
          | (go_at_call 34; refine K'.out.mono ?_; rintro e w2 ⟨rfl, hb⟩; have HB2 := Aside0.mk (below_step HBD.out hb); have HY1 := Aside0.mk (blk_below HZ1.out hb); have y0 := (blk_cell (blk_below HZ0.out hb)) 0; have y1 := (blk_cell (blk_below HZ0.out hb)) 1; have y2 := (blk_cell (blk_below HZ2.out hb)) 0; have y3 := (blk_cell (blk_below HZ2.out hb)) 1; have bf0 := free_of HY1.out 0; have bf1 := free_of HY1.out 1; have b0 := (blk_cell HY1.out) 0; have b1 := (blk_cell HY1.out) 1; clear K' z0 z1 z2 z3 HZ0 HZ1 HZ2 hb))
      have hY := box_set (box_set HY1.out (o := 0) (.int .i64 N)) (o := 1) (.slice A E.length c)
      have q0 := (blk_cell hY) 0
      have q1 := (blk_cell hY) 1
      have HBY := Aside0.mk ((HB2.out.setCell (p := ⟨w.heap.size + 1, 0, none⟩) (by show w.heap.size ≤ w.heap.size + 1; omega) (.int .i64 N)).setCell (p := ⟨w.heap.size + 1, 1, none⟩) (by show w.heap.size ≤ w.heap.size + 1; omega) (.slice A E.length c))
      clear hY
      go_wp2
      refine bodyPost_ret (v := .tuple #[.agg #[.int .i64 N, .slice A E.length c], .bool (!rg)]) (by simp [results, Tryd.results31, go_sem, q0, q1]) rfl ?_
      exact ⟨by rw [HO.out], HBY.out⟩
  · have HO : Aside0 (okG N E = false) := ⟨by unfold okG; rw [decide_eq_false q1]; rfl⟩
    have d1 : decide (((E.length : Nat) : Int) ≤ 60) = false := decide_eq_false (by omega)
    clear q1
    have hY := blk_drew (box_set (box_set HX1.out (o := 0) (.int .i64 N)) (o := 1) (.slice A E.length c))
    have y0 := (blk_cell hY) 0
    have y1 := (blk_cell hY) 1
    have HBY := Aside0.mk (pw_below_drewN ((HB.out.setCell (p := ⟨w.heap.size + 1, 0, none⟩) (by show w.heap.size ≤ w.heap.size + 1; omega) (.int .i64 N)).setCell (p := ⟨w.heap.size + 1, 1, none⟩) (by show w.heap.size ≤ w.heap.size + 1; omega) (.slice A E.length c)) 1)
    clear hY
    go_big_region
    go_wp2
    refine bodyPost_ret (v := .tuple #[.agg #[.int .i64 N, .slice A E.length c], .bool false]) (by simp [results, Tryd.results31, go_sem, y0, y1]) rfl ?_
    exact ⟨by rw [HO.out], HBY.out⟩
theorem okG_len {N : Int} {E : List Stp} (h : okG N E = true) : E.length ≤ 60 := by
  unfold okG at h
  rw [Bool.and_eq_true, decide_eq_true_eq] at h
  exact h.1
theorem okG_ten {n : Nat} {E : List Stp} (h : okG (n : Int) E = true) (hR : rightG (n : Int) E = true) : n ≤ 10 := by
  unfold okG at h
  rw [hR] at h
  simp only [Bool.not_true, Bool.or_false, Bool.and_eq_true, decide_eq_true_eq] at h
  omega
end Go.Proofs.YtplhihakeodadaaDoor.Sg
