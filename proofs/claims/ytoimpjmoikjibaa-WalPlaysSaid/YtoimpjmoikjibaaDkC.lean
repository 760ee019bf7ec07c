/- The dock's calls, walked: what has no loop. -/
import Derived.Test.YtoimpjmoikjibaaDkM
import Derived.Test.YtoimpjmoikjibaaBRow
import Derived.WalkKit
import Derived.KernelRfl
import Derived.Deep.QuietTactic
import Derived.BigQuiet
import Derived.Carry
import Derived.IntWalk
import Derived.Deep.RegionLaw
import Derived.Deep.RegionHeld3
namespace Go.Proofs.Ytoimpjmoikjibaa.Dk
open Go Go.RowKit Go.ChangeMaps Go.Proofs.Ytoimpjmoikjibaa.IMap Go.Proofs.YtoimpjmoikjibaaW.PrintWords Go.Proofs.YtoimpjmoikjibaaW.PrintLast Go.Proofs.YtoimpjmoikjibaaW.PrintMore
set_option linter.unusedVariables false
set_option linter.unusedSimpArgs false
theorem ok_new {c : Int} (h0 : 0 ≤ c) (h1 : c ≤ 16777216) : OK (new c) := ⟨List.Pairwise.nil, (fun p hp => by cases hp), (fun p hp => by cases hp), (by show (0 : Nat) ≤ _; omega), h0, h1, (by show (-1 : Int) ≤ -1; omega), (by show (-1 : Int) < _; omega)⟩
abbrev None_ : Nat → Prop := fun _ => False
set_option maxHeartbeats 4000000 in
set_option maxRecDepth 20000 in
theorem New_T (c : Int) (w : World) (h0 : 0 ≤ c) (h1 : c ≤ 16777216) : Calls Try.prog 15 #[.int .i64 c] w fun e w' => ∃ g, e = .returned (.pointer (some ⟨g, 0, none⟩)) ∧ Dk w' g (Fr None_ w w') (new c) ∧ Below w.heap.size w w' := by
  have hmm := @run_makeMap Try.prog
  have d1 : decide (c < 0) = false := decide_eq_false (by omega)
  have d2 : decide (16777216 < c) = false := decide_eq_false (by omega)
  go_enter Try.func15, Try.ntmps15
  go_wp2
  go_ret
  have hg : (((w.alloc (.map #[] 0)).alloc (.cells #[.map (some w.heap.size), .int .i64 c, .int .i64 (-1), .bool false] 84))).heap[w.heap.size + 1]? = some (.cells #[.map (some w.heap.size), .int .i64 c, .int .i64 (-1), .bool false] 84 (0, 0)) := by
    have := heap_last (w.alloc (.map #[] 0)) (.cells #[.map (some w.heap.size), .int .i64 c, .int .i64 (-1), .bool false] 84)
    rwa [World.size_alloc] at this
  refine ⟨w.heap.size + 1, rfl, ⟨w.heap.size, [], hg, (IM.made w).alloc _, .inr ⟨by omega, by rw [World.size_alloc, World.size_alloc]; omega⟩, .inr ⟨by omega, by rw [World.size_alloc, World.size_alloc]; omega⟩, (fun p hp => by cases hp), (fun p hp => by cases hp), (fun p hp => by cases hp), List.Pairwise.nil, fun k => rfl, ok_new h0 h1⟩, below_alloc (below_alloc (Below.refl _ _) _) _⟩
set_option maxHeartbeats 4000000 in
set_option maxRecDepth 20000 in
theorem New_bad (c : Int) (w : World) (h : ¬ (0 ≤ c ∧ c ≤ 16777216)) : Calls Try.prog 15 #[.int .i64 c] w fun e w' => e = .returned (.pointer none) ∧ w' = w := by
  go_enter Try.func15, Try.ntmps15
  go_wp2
  all_goals first
    | (exfalso; revert h; omega)
    | (go_ret; exact ⟨rfl, rfl⟩)
section
variable (w : World) (g : Nat) (S : Nat → Prop) (s : DS)
set_option maxHeartbeats 4000000 in
set_option maxRecDepth 20000 in
theorem step_I (bm : Nat) (es : List (Int × Ent)) (h : DkI w g S s bm es) :
    Calls Try.prog 44 #[.pointer (some ⟨g, 0, none⟩)] w fun e w' => e = .returned (.bool (!(stepS s).down)) ∧ DkI w' g S (stepS s) bm es ∧ At1 g w w' := by
  have HI := Aside0.mk h
  have hg := h.gc
  have hk := ok_step h.ok
  have hM := stepS_M s
  have hc2 := (blk_cell hg) 2
  have hc3 := (blk_cell hg) 3
  have hz2 := free_of hg 2
  have hz3 := free_of hg 3
  have hl0 := h.ok.left0
  have hl1 := h.ok.left1
  obtain ⟨T, hT⟩ : ∃ t, stepS s = t := ⟨_, rfl⟩
  rw [hT] at hk hM ⊢
  unfold stepS at hT
  obtain ⟨M, cap, left, down⟩ := s
  dsimp only at hc2 hc3 hg hl0 hl1 hM hT
  by_cases c1 : 0 < left
  · have d1 : decide (0 < left) = true := decide_eq_true c1
    have e1 : IntKind.i64.wrap (left - 1) = left - 1 := IntWalk.i64_in _ (by omega)
    rw [if_pos c1] at hT
    subst hT
    have HG := Aside0.mk hg
    have HK := Aside0.mk hk
    clear h hg hk hM
    go_enter Try.func44, Try.ntmps44
    go_wp2
    go_ret
    exact ⟨rfl, HI.out.setG (box_set (o := 2) HG.out _) (fun k hk => Below.heap_setCell w ⟨g, 2, none⟩ _ k hk) rfl HK.out, At1.set _ _ _ _⟩
  · have d1 : decide (0 < left) = false := decide_eq_false c1
    rw [if_neg c1] at hT
    by_cases c2 : left = 0
    · rw [if_pos c2] at hT
      subst c2
      subst hT
      have HG := Aside0.mk hg
      have HK := Aside0.mk hk
      clear h hg hk hM
      go_enter Try.func44, Try.ntmps44
      go_wp2
      go_ret
      exact ⟨rfl, HI.out.setG (box_set (o := 3) HG.out _) (fun k hk => Below.heap_setCell w ⟨g, 3, none⟩ _ k hk) rfl HK.out, At1.set _ _ _ _⟩
    · rw [if_neg c2] at hT
      have d2 : (left == 0) = false := beq_eq_false_iff_ne.2 c2
      subst hT
      clear h hg hk hM
      go_enter Try.func44, Try.ntmps44
      go_wp2
      go_ret
      exact ⟨rfl, HI.out, At1.refl _ _⟩
theorem zeroP (w : World) : (zeroValue 85).run Try.prog w = .ok (.pointer none) w := by kernel_rfl
theorem look_I {bm : Nat} {es : List (Int × Ent)} (h : DkI w g S s bm es) (k : Int) (n : Nat) :
    (Instr.lookup 82 (.map (some bm)) (.int .i64 k) false).run Try.prog (w.drewN n) = .ok (((get es k).map Ent.ptr).getD (.pointer none)) (w.drewN n) := by
  rw [(h.im.drewN n).lookup Try.underlying82 Try.underlying3 (zeroP _) k false, get_vals]
  rfl
theorem look_I0 {bm : Nat} {es : List (Int × Ent)} (h : DkI w g S s bm es) (k : Int) :
    (Instr.lookup 82 (.map (some bm)) (.int .i64 k) false).run Try.prog w = .ok (((get es k).map Ent.ptr).getD (.pointer none)) w := look_I w g S s h k 0
set_option maxHeartbeats 4000000 in
set_option maxRecDepth 20000 in
theorem find_I (bm : Nat) (es : List (Int × Ent)) (k : Int) (h : DkI w g S s bm es) :
    Calls Try.prog 45 #[.pointer (some ⟨g, 0, none⟩), .int .i64 k] w fun e w' => e = .returned (.tuple #[if findE s k = 0 then ((get es k).map Ent.ptr).getD (.pointer none) else .pointer none, .int .i64 (findE s k)]) ∧ w = w' := by
  have hg := h.gc
  have hc0 := (blk_cell hg) 0
  have hc3 := (blk_cell hg) 3
  have hl := look_I0 w g S s h k
  have hm := h.mir k
  have hs : (get s.M k).isSome = (get es k).isSome := by rw [hm]; cases get es k <;> rfl
  obtain ⟨E, hE⟩ : ∃ E, findE s k = E := ⟨_, rfl⟩
  rw [hE]
  unfold findE at hE
  rw [hs] at hE
  obtain ⟨M, cap, left, down⟩ := s
  dsimp only at hc0 hc3 hE
  cases down with
  | true =>
    rw [if_pos rfl] at hE
    subst hE
    clear h hg hm hs
    go_enter Try.func45, Try.ntmps45
    go_wp2
    go_ret2
    exact ⟨rfl, rfl⟩
  | false =>
    rw [if_neg (by simp)] at hE
    cases hq : get es k with
    | none =>
      rw [hq] at hE hl
      rw [if_neg (by simp)] at hE
      subst hE
      clear h hg hm hs hq
      go_enter Try.func45, Try.ntmps45
      go_wp2
      go_ret2
      exact ⟨rfl, rfl⟩
    | some x =>
      rw [hq] at hE hl
      rw [if_pos (show (some x).isSome = true from rfl)] at hE
      subst hE
      simp only [Option.map_some, Option.getD_some, Ent.ptr] at hl ⊢
      clear h hg hm hs hq
      go_enter Try.func45, Try.ntmps45
      go_wp2
      go_ret2
      exact ⟨rfl, rfl⟩
end
theorem findE_cases {w : World} {g : Nat} {S : Nat → Prop} {s : DS} {bm : Nat} {es : List (Int × Ent)} (h : DkI w g S s bm es) (k : Int) : (findE s k = 0 ∧ s.down = false ∧ ∃ e, get es k = some e ∧ get s.M k = some (e.b, e.s)) ∨ findE s k ≠ 0 := by
  unfold findE
  have hm := h.mir k
  cases s.down with
  | true => exact .inr (by simp)
  | false =>
    cases hq : get es k with
    | none => rw [hq] at hm; rw [hm]; exact .inr (by simp)
    | some e => rw [hq] at hm; rw [hm]; exact .inl ⟨by simp, rfl, e, rfl, rfl⟩
end Go.Proofs.Ytoimpjmoikjibaa.Dk
