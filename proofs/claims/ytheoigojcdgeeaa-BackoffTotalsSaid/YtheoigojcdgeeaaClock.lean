import Derived.Test.YtheoigojcdgeeaaProg
import Derived.Test.YtheoigojcdgeeaaIMap
import Derived.WalkKit
import Derived.KernelRfl
import Derived.Deep.QuietTactic
import Derived.BigQuiet
import Derived.Carry
import Derived.IntWalk
namespace Go.Proofs.Ytheoigojcdgeeaa.P
open Go Go.RowKit Go.ChangeMaps Go.Proofs.Ytheoigojcdgeeaa.IMap Go.Proofs.YtheoigojcdgeeaaW.PrintWords
set_option linter.unusedVariables false
set_option linter.unusedSimpArgs false

/-- A clock: its cells' block, its alarms' block. -/
def Clk (w : World) (g b : Nat) (now : Int) (l : List (Int × Value)) : Prop := w.heap[g]? = some (.cells #[.int .i64 now, .map (some b)] 49 (0, 0)) ∧ IM .i64 w b l
theorem Clk.ne {w : World} {g b : Nat} {now : Int} {l : List (Int × Value)} (h : Clk w g b now l) : b ≠ g := h.2.ne h.1
theorem Clk.below {w w1 : World} {g b : Nat} {now : Int} {l : List (Int × Value)} (h : Clk w g b now l) (hb : Below w.heap.size w w1) : Clk w1 g b now l :=
  ⟨(hb.block g (blk_lt h.1)).trans h.1, h.2.below hb⟩
theorem zero3 (w : World) : (zeroValue 3).run Try.prog w = .ok (.int .i64 0) w := by kernel_rfl

/-- What is below both blocks is kept. -/
def Kept (w w' : World) (g b : Nat) : Prop := ∀ B w0, Below B w0 w → B ≤ g → B ≤ b → Below B w0 w'
theorem Kept.refl (w : World) (g b : Nat) : Kept w w g b := fun _ _ h _ _ => h
theorem Kept.drewN (w : World) (g b n : Nat) : Kept w (w.drewN n) g b := fun _ _ h _ _ => pw_below_drewN h n
theorem Kept.set (w : World) (g b : Nat) (o : Obj) : Kept w (setBlock w b o) g b := fun _ _ h _ hb => below_set h hb o
theorem Clk.drewN {w : World} {g b : Nat} {now : Int} {l : List (Int × Value)} (h : Clk w g b now l) (n : Nat) : Clk (w.drewN n) g b now l := h

theorem New_calls (w : World) : Calls Try.prog 13 #[] w fun e w' => ∃ g b, e = .returned (.pointer (some ⟨g, 0, none⟩)) ∧ w.heap.size ≤ g ∧ w.heap.size ≤ b ∧ Clk w' g b 0 [] ∧ Below w.heap.size w w' := by
  have hmm := @run_makeMap Try.prog
  go_enter Try.func13, Try.ntmps13
  go_wp2
  go_ret
  refine ⟨w.heap.size + 1, w.heap.size, rfl, by omega, by omega, ⟨?_, ?_⟩, below_alloc (below_alloc (Below.refl _ _) _) _⟩
  · show ((w.heap.push _).push _)[w.heap.size + 1]? = _
    rw [Array.getElem?_eq_getElem (by simp)]
    simp [Array.getElem_push]
  · exact (IM.made w).alloc _
theorem Set_calls (w : World) (g b : Nat) (now : Int) (l : List (Int × Value)) (id at_ : Int) (h : Clk w g b now l) (h1 : 0 ≤ id) (h2 : id ≤ 999999) (h3 : 0 ≤ at_) (h4 : at_ ≤ 1125899906842624) :
    Calls Try.prog 14 #[.pointer (some ⟨g, 0, none⟩), .int .i64 id, .int .i64 at_] w fun e w' => e = .returned (.int .i64 0) ∧ Clk w' g b now (put l id (.int .i64 at_)) ∧ Kept w w' g b := by
  have hc := blk_cell h.1
  have hc1 := hc 1
  have d1 : decide (id < 0) = false := decide_eq_false (by omega)
  have d2 : decide (999999 < id) = false := decide_eq_false (by omega)
  have d3 : decide (at_ < 0) = false := decide_eq_false (by omega)
  have d4 : decide (1125899906842624 < at_) = false := decide_eq_false (by omega)
  have HI := Aside0.mk h.2
  clear hc
  go_enter Try.func14, Try.ntmps14
  go_wp2_with (at_mapUpdate; refine at_put rfl _ _ _ 47 rfl Try.underlying47 Try.underlying3 rfl HI.out id _ rfl rfl ?_; intro ob hob; have HO := Aside0.mk hob; clear hob)
  go_ret
  exact ⟨rfl, ⟨(heap_set_other ob (Ne.symm h.ne) w).trans h.1, HO.out⟩, Kept.set w g b ob⟩
theorem Set_bad (w : World) (g b : Nat) (now : Int) (l : List (Int × Value)) (id at_ : Int) (h : Clk w g b now l) (hb : ¬ (0 ≤ id ∧ id ≤ 999999 ∧ 0 ≤ at_ ∧ at_ ≤ 1125899906842624)) :
    Calls Try.prog 14 #[.pointer (some ⟨g, 0, none⟩), .int .i64 id, .int .i64 at_] w fun e w' => e = .returned (.int .i64 12) ∧ Clk w' g b now l ∧ Kept w w' g b := by
  have HI := Aside0.mk h
  go_enter Try.func14, Try.ntmps14
  go_wp2
  all_goals first
    | (exfalso; revert hb; omega)
    | (go_ret; exact ⟨rfl, h, Kept.refl _ _ _⟩)
theorem Clk.free {w : World} {g b : Nat} {now : Int} {l : List (Int × Value)} (h : Clk w g b now l) (o : Nat) : w.frozen? ⟨g, o, none⟩ = false := by
  simp [World.frozen?, h.1]
theorem Clk.set {w : World} {g b : Nat} {now : Int} {l : List (Int × Value)} (h : Clk w g b now l) (v : Int) : Clk (w.setCell ⟨g, 0, none⟩ (.int .i64 v)) g b v l := by
  refine ⟨?_, h.2.setCell (p := ⟨g, 0, none⟩) h.ne _⟩
  have h0 := h.1
  obtain ⟨hlt, hv⟩ := Array.getElem?_eq_some_iff.1 h0
  simp [World.setCell, Array.getElem?_modify, h0]
theorem Kept.setCell (w : World) (g b : Nat) (v : Value) : Kept w (w.setCell ⟨g, 0, none⟩ v) g b := fun _ _ h hg _ => h.setCell (p := ⟨g, 0, none⟩) hg v
theorem Now_calls (w : World) (g b : Nat) (now : Int) (l : List (Int × Value)) (h : Clk w g b now l) :
    Calls Try.prog 18 #[.pointer (some ⟨g, 0, none⟩)] w fun e w' => e = .returned (.int .i64 now) ∧ w' = w := by
  have hc := blk_cell h.1
  have hc1 := hc 0
  clear hc
  go_enter Try.func18, Try.ntmps18
  go_wp2
  go_ret
  exact ⟨rfl, rfl⟩
theorem Tick_calls (w : World) (g b : Nat) (now : Int) (l : List (Int × Value)) (n : Int) (h : Clk w g b now l) (h1 : 0 ≤ n) (h2 : n ≤ 1099511627776) (h3 : 0 ≤ now) (h4 : now + n ≤ 1125899906842624) :
    Calls Try.prog 17 #[.pointer (some ⟨g, 0, none⟩), .int .i64 n] w fun e w' => e = .returned (.int .i64 0) ∧ Clk w' g b (now + n) l ∧ Kept w w' g b := by
  have hc := blk_cell h.1
  have hc1 := hc 0
  have hz := h.free 0
  have HI := Aside0.mk h
  have d1 : decide (n < 0) = false := decide_eq_false (by omega)
  have d2 : decide (1099511627776 < n) = false := decide_eq_false (by omega)
  have e1 : IntKind.i64.wrap (now + n) = now + n := IntWalk.i64_in _ (by omega)
  have d3 : decide (1125899906842624 < now + n) = false := decide_eq_false (by omega)
  clear hc
  go_enter Try.func17, Try.ntmps17
  go_wp2
  go_ret
  exact ⟨rfl, HI.out.set _, Kept.setCell _ _ _ _⟩
theorem Tick_bad (w : World) (g b : Nat) (now : Int) (l : List (Int × Value)) (n : Int) (h : Clk w g b now l) (hb : ¬ (0 ≤ n ∧ n ≤ 1099511627776)) :
    Calls Try.prog 17 #[.pointer (some ⟨g, 0, none⟩), .int .i64 n] w fun e w' => e = .returned (.int .i64 12) ∧ w' = w := by
  go_enter Try.func17, Try.ntmps17
  go_wp2
  all_goals first
    | (exfalso; revert hb; omega)
    | (go_ret; exact ⟨rfl, rfl⟩)
theorem Tick_big (w : World) (g b : Nat) (now : Int) (l : List (Int × Value)) (n : Int) (h : Clk w g b now l) (h1 : 0 ≤ n) (h2 : n ≤ 1099511627776) (h3 : 0 ≤ now) (h4 : now ≤ 1125899906842624) (h5 : 1125899906842624 < now + n) :
    Calls Try.prog 17 #[.pointer (some ⟨g, 0, none⟩), .int .i64 n] w fun e w' => e = .returned (.int .i64 11) ∧ w' = w := by
  have hc := blk_cell h.1
  have hc1 := hc 0
  have HI := Aside0.mk h
  have d1 : decide (n < 0) = false := decide_eq_false (by omega)
  have d2 : decide (1099511627776 < n) = false := decide_eq_false (by omega)
  have e1 : IntKind.i64.wrap (now + n) = now + n := IntWalk.i64_in _ (by omega)
  have d3 : decide (1125899906842624 < now + n) = true := decide_eq_true (by omega)
  clear hc
  go_enter Try.func17, Try.ntmps17
  go_wp2
  go_ret
  exact ⟨rfl, rfl⟩
theorem Ready_calls (w : World) (g b : Nat) (now : Int) (l : List (Int × Value)) (id : Int) (h : Clk w g b now l) (v : Int) (hv : (get l id).getD (.int .i64 0) = .int .i64 v) :
    Calls Try.prog 21 #[.pointer (some ⟨g, 0, none⟩), .int .i64 id] w fun e w' => e = .returned (.bool (decide (v ≤ now))) ∧ Drawn0 w w' := by
  have hc := blk_cell h.1
  have hc1 := hc 0
  have hc2 := hc 1
  have hl : ∀ n, (Instr.lookup 47 (.map (some b)) (.int .i64 id) false).run Try.prog (w.drewN n) = .ok (.int .i64 v) (w.drewN n) := fun n => by
    rw [(h.2.drewN n).lookup Try.underlying47 Try.underlying3 (zero3 _) id false, ← hv]; rfl
  clear hc
  go_enter Try.func21, Try.ntmps21
  go_wp2_with (fail)
  go_quiet (fail)
  go_wp2
  go_ret
  exact ⟨rfl, ⟨⟨_, rfl⟩⟩⟩
theorem Clear_calls (w : World) (g b : Nat) (now : Int) (l : List (Int × Value)) (id : Int) (h : Clk w g b now l) :
    Calls Try.prog 19 #[.pointer (some ⟨g, 0, none⟩), .int .i64 id] w fun e w' => e = .returned (.bool (get l id).isSome) ∧ Clk w' g b now (del l id) ∧ Kept w w' g b := by
  have hc := blk_cell h.1
  have hc2 := hc 1
  have hl : (Instr.lookup 47 (.map (some b)) (.int .i64 id) true).run Try.prog w = .ok (.tuple #[(get l id).getD (.int .i64 0), .bool (get l id).isSome]) w := by
    rw [h.2.lookup Try.underlying47 Try.underlying3 (zero3 w) id true]; rfl
  have HI := Aside0.mk h.2
  clear hc
  go_enter Try.func19, Try.ntmps19
  go_wp2_with (refine at_del rfl _ _ 47 3 rfl Try.underlying47 Try.underlying3 rfl HI.out id rfl ?_; intro ob hob; have HO := Aside0.mk hob; clear hob)
  go_wp2
  go_ret
  refine ⟨rfl, ⟨(heap_set_other ob (Ne.symm h.ne) w).trans h.1, HO.out⟩, Kept.set w g b ob⟩
end Go.Proofs.Ytheoigojcdgeeaa.P
