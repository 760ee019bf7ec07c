/- Sets of steps as bits; slipwayref03's In and Closed, walked. -/
import Derived.Test.YtplhihakeodadaaDoorProg
import Derived.Test.YtplhihakeodadaaDoorWMore
import Derived.Test.YtplhihakeodadaaDoorWWords
import Derived.Test.YtplhihakeodadaaDoorWLast
import Derived.WalkKit
import Derived.KernelRfl
import Derived.Laws.BitsLemmas
import Derived.Deep.LoopGhost
import Derived.BigQuiet
import Derived.Deep.QuietTactic
namespace Go.Proofs.YtplhihakeodadaaDoor.Sg
open Go Go.RowKit Go.Proofs.YtplhihakeodadaaDoorW.PrintWords Go.Proofs.YtplhihakeodadaaDoorW.PrintLast Go.Proofs.YtplhihakeodadaaDoorW.PrintMore
set_option linter.unusedVariables false
set_option linter.unusedSimpArgs false
abbrev Stp := Int × Int
theorem tb (s i : Nat) : (((s : Int) / 2 ^ i).tmod 2 == 1) = s.testBit i := by
  have e : ((s : Int) / 2 ^ i) = ((s / 2 ^ i : Nat) : Int) := by simp
  rw [e, Int.tmod_eq_emod_of_nonneg (Int.natCast_nonneg _), Nat.testBit_eq_decide_div_mod_eq, Bool.eq_iff_iff, beq_iff_eq, decide_eq_true_eq]
  omega
theorem In_T (s : Nat) (i : Nat) (w : World) (hs : s < 18446744073709551616) (hi : i < 64) : Calls Tryd.prog 27 #[.int .u64 (s : Int), .int .i64 (i : Int)] w fun e w' => e = .returned (.bool (s.testBit i)) ∧ w = w' := by
  have h := tb s i
  go_enter Tryd.func27, Tryd.ntmps27
  go_wp2
  go_ret
  exact ⟨rfl, rfl⟩
theorem at_stp {w : World} {A : Option Addr} {l : List Stp} (h : Kd.C (Kd.pair (Kd.int .i64) (Kd.int .i64)) w A l.length l) (i : Nat) (hi : i < l.length) :
    ∃ ad, A = some ad ∧ w.cell? (ad.add (i * 2)) = some (.int .i64 (l.getD i (0, 0)).1) ∧ w.cell? ⟨(ad.add (i * 2)).block, (ad.add (i * 2)).off + 1, none⟩ = some (.int .i64 (l.getD i (0, 0)).2) := by
  obtain ⟨ad, cs, ea, hcl, hK, hcc⟩ := Kd.C_get h (0, 0) (i : Int) (by omega) (by omega)
  rw [Int.toNat_natCast] at hK hcc
  obtain ⟨z0, z1, rfl, y0, y1⟩ := hK
  cases y0
  cases y1
  refine ⟨ad, ea, hcc 0 _ rfl, ?_⟩
  have := (show w.cell? (ad.add (i * 2 + 1)) = _ from hcc 1 _ rfl)
  rw [show ad.add (i * 2 + 1) = (ad.add (i * 2)).add 1 from (Addr.add_add _ _ _).symm] at this
  exact this
theorem heap_last (w : World) (o : Obj) : (w.alloc o).heap[w.heap.size]? = some o := by show (w.heap.push _)[w.heap.size]? = _; simp
/-- Edges between nodes below m. -/
def EdgesIn (m : Nat) (E : List Stp) : Prop := ∀ e ∈ E, (0 ≤ e.1 ∧ e.1 < m) ∧ (0 ≤ e.2 ∧ e.2 < m)
def closedE (E : List Stp) (s : Nat) : Bool := E.all fun e => !s.testBit e.2.toNat || s.testBit e.1.toNat
theorem all_step {α : Type} {f : α → Bool} {l : List α} {i : Nat} (h : i < l.length) (z : α) (hx : f (l.getD i z) = true) (hl : (l.take i).all f = true) : (l.take (i + 1)).all f = true := by
  rw [List.take_add_one, List.all_append, hl, Bool.true_and]
  rw [List.getD_eq_getElem?_getD, List.getElem?_eq_getElem h] at hx
  rw [List.getElem?_eq_getElem h]
  simpa using hx
theorem all_bad {α : Type} {f : α → Bool} {l : List α} {i : Nat} (h : i < l.length) (z : α) (hx : f (l.getD i z) = false) : l.all f = false := by
  rw [List.getD_eq_getElem?_getD, List.getElem?_eq_getElem h] at hx
  rw [List.all_eq_false]
  exact ⟨l[i], List.getElem_mem h, by simpa using hx⟩
theorem any_step {α : Type} {f : α → Bool} {l : List α} {i : Nat} (h : i < l.length) (z : α) (hx : f (l.getD i z) = false) (hl : (l.take i).any f = false) : (l.take (i + 1)).any f = false := by
  rw [List.take_add_one, List.any_append, hl, Bool.false_or]
  rw [List.getD_eq_getElem?_getD, List.getElem?_eq_getElem h] at hx
  rw [List.getElem?_eq_getElem h]
  simpa using hx
theorem any_hit {α : Type} {f : α → Bool} {l : List α} {i : Nat} (h : i < l.length) (z : α) (hx : f (l.getD i z) = true) : l.any f = true := by
  rw [List.getD_eq_getElem?_getD, List.getElem?_eq_getElem h] at hx
  rw [List.any_eq_true]
  exact ⟨l[i], List.getElem_mem h, by simpa using hx⟩
theorem getD_mem {α : Type} {l : List α} {i : Nat} (h : i < l.length) (z : α) : l.getD i z ∈ l := by
  rw [List.getD_eq_getElem?_getD, List.getElem?_eq_getElem h]
  exact List.getElem_mem h
set_option maxHeartbeats 4000000 in
set_option maxRecDepth 20000 in
theorem Closed_T (N : Int) (E : List Stp) (A : Option Addr) (c s : Nat) (w : World) (hs : s < 18446744073709551616) (h : Kd.C (Kd.pair (Kd.int .i64) (Kd.int .i64)) w A E.length E) (hE : EdgesIn 64 E) (hl : E.length ≤ 1000000000) :
    Calls Tryd.prog 28 #[.agg #[.int .i64 N, .slice A E.length c], .int .u64 (s : Int)] w fun e w' => e = .returned (.bool (closedE E s)) ∧ Below w.heap.size w w' := by
  have HC := Aside0.mk h
  have HE := Aside0.mk hE
  have HL := Aside0.mk hl
  have HS := Aside0.mk hs
  clear h hE hl hs
  go_enter Tryd.func28, Tryd.ntmps28
  go_wp2
  go_loopg [5] E.length (fun kq v5 w' => ∃ (i : Nat), v5 = .int .i64 (i : Int) ∧ Aside0 (i + kq = E.length) ∧ Aside0 ((E.take i).all (fun e => !s.testBit e.2.toNat || s.testBit e.1.toNat) = true) ∧ Aside0 (w'.heap[w.heap.size]? = some (.cells #[.int .i64 N, .slice A E.length c] 55 (0, 0))) ∧ Aside0 (Below w.heap.size w w'))
  case atStart => exact ⟨0, rfl, ⟨by omega⟩, ⟨rfl⟩, ⟨heap_last _ _⟩, ⟨below_alloc (Below.refl _ _) _⟩⟩
  case round =>
    obtain ⟨i, rfl, HJ, HA, HB⟩ := hrel
    obtain ⟨HG, HB⟩ := HB
    have hg0 := (blk_cell HG.out) 0
    have hg1 := (blk_cell HG.out) 1
    by_cases c1 : i < E.length
    · have e1 : decide (i < E.length) = true := decide_eq_true c1
      have HE5 : Aside0 (wrap64 ((i : Int) + 1) = ((i + 1 : Nat) : Int)) := ⟨by have := HL.out; unfold wrap64; omega⟩
      obtain ⟨ad, ea, hx, hy⟩ := at_stp HC.out i c1
      cases ea
      replace hx := pw_cell_below HB.out hx
      replace hy := pw_cell_below HB.out hy
      obtain ⟨e, he⟩ : ∃ e, E.getD i (0, 0) = e := ⟨_, rfl⟩
      have hm : e ∈ E := by rw [← he]; exact getD_mem c1 _
      obtain ⟨⟨p1, p2⟩, ⟨p3, p4⟩⟩ := HE.out e hm
      rw [he] at hx hy
      have HEe := Aside0.mk he
      have HI := Aside0.mk c1
      obtain ⟨x, y⟩ := e
      obtain ⟨x, rfl⟩ := Int.eq_ofNat_of_zero_le p1
      obtain ⟨y, rfl⟩ := Int.eq_ofNat_of_zero_le p3
      have K1 := Aside0.mk (In_T s y wr HS.out (by dsimp only at p4; omega))
      have K2 := Aside0.mk (In_T s x wr HS.out (by dsimp only at p2; omega))
      clear he hm p1 p2 p3 p4
      obtain ⟨by', hby⟩ : ∃ b, s.testBit y = b := ⟨_, rfl⟩
      obtain ⟨bx, hbx⟩ : ∃ b, s.testBit x = b := ⟨_, rfl⟩
      rw [hby] at K1
      rw [hbx] at K2
      have HBX := Aside0.mk hbx
      have HBY := Aside0.mk hby
      clear hbx hby
      cases by' with
      | false =>
        have HT := Aside0.mk (all_step HI.out (0, 0) (by rw [HEe.out]; simp [HBY.out]) HA.out)
        go_wp2_with (first | (go_at_call 27; refine K1.out.mono ?_; rintro e0 w0 ⟨rfl, rfl⟩))
        go_roundg (gk - 1)
        case measure => have := HJ.out; have := HI.out; omega
        case rel => exact ⟨i + 1, congrArg _ HE5.out, ⟨by have := HJ.out; have := HI.out; omega⟩, HT, HG, HB⟩
      | true =>
        cases bx with
        | true =>
          have HT := Aside0.mk (all_step HI.out (0, 0) (by rw [HEe.out]; simp [HBX.out]) HA.out)
          go_wp2_with (fail)
          refine K1.out.mono ?_
          rintro e0 w0 ⟨rfl, rfl⟩
          go_wp2_with (fail)
          refine K2.out.mono ?_
          rintro e0 w0 ⟨rfl, rfl⟩
          go_wp2
          go_roundg (gk - 1)
          case measure => have := HJ.out; have := HI.out; omega
          case rel => exact ⟨i + 1, congrArg _ HE5.out, ⟨by have := HJ.out; have := HI.out; omega⟩, HT, HG, HB⟩
        | false =>
          go_wp2_with (fail)
          refine K1.out.mono ?_
          rintro e0 w0 ⟨rfl, rfl⟩
          go_wp2_with (fail)
          refine K2.out.mono ?_
          rintro e0 w0 ⟨rfl, rfl⟩
          go_wp2
          go_ret
          exact ⟨by rw [show closedE E s = false from all_bad HI.out (0, 0) (by rw [HEe.out]; simp [HBX.out, HBY.out])]; rfl, HB.out⟩
    · have e1 : decide (i < E.length) = false := decide_eq_false c1
      have HI := Aside0.mk c1
      go_wp2
      go_ret
      refine ⟨?_, HB.out⟩
      have := HA.out
      rw [List.take_of_length_le (by have := HI.out; omega)] at this
      rw [show closedE E s = true from this]
      rfl
end Go.Proofs.YtplhihakeodadaaDoor.Sg
