/- saga: Top, May, walked. -/
import Derived.Test.YtplhihakeodadaaDoorSgFun3
namespace Go.Proofs.YtplhihakeodadaaDoor.Sg
open Go Go.RowKit Go.Proofs.YtplhihakeodadaaDoorW.PrintWords Go.Proofs.YtplhihakeodadaaDoorW.PrintLast Go.Proofs.YtplhihakeodadaaDoorW.PrintMore
set_option linter.unusedVariables false
set_option linter.unusedSimpArgs false
theorem last_getD (l : List Int) (h : l ≠ []) : l.getLastD 0 = l.getD (l.length - 1) 0 := by
  rw [List.getLastD_eq_getLast?, List.getLast?_eq_getElem?, List.getD_eq_getElem?_getD]
set_option maxHeartbeats 8000000 in
set_option maxRecDepth 20000 in
theorem Top_T (V : SV) (s : SS) (w : World) (h : StC w V s) (ho : s.op.length ≤ 1000000000) (hd : s.dn.length ≤ 1000000000) :
    Calls Tryd.prog 21 #[.agg (stv V s)] w fun e w' => e = .returned (.tuple #[.int .i64 (top s).1, .bool (top s).2]) ∧ Below w.heap.size w w' := by
  obtain ⟨Af, cf, At, ct, As, cs, Ab, cb, Ao, co, Ad, cd, hst, _, _, hop, hdn, _⟩ := h.opened
  rw [hst]
  obtain ⟨num, ph, p, op, dn⟩ := s
  dsimp only at ho hd hop hdn ⊢
  clear hst h
  obtain ⟨o, hO⟩ : ∃ o, Obj.cells #[.int .i64 num, .int .i64 ph, .slice Af p.1.length cf, .slice At p.2.1.length ct, .slice As p.2.2.1.length cs, .slice Ab p.2.2.2.length cb, .slice Ao op.length co, .slice Ad dn.length cd] 34 = o := ⟨_, rfl⟩
  have hb := below_alloc (below_alloc (Below.refl w.heap.size w) o) (.cells #[.slice Ao op.length co, .slice Ad dn.length cd] 22)
  have hg := blk_alloc (heap_last w o) (.cells #[.slice Ao op.length co, .slice Ad dn.length cd] 22)
  have hl := heap_last (w.alloc o) (.cells #[.slice Ao op.length co, .slice Ad dn.length cd] 22)
  rw [World.size_alloc] at hl
  obtain ⟨W, hW⟩ : ∃ W, (w.alloc o).alloc (.cells #[.slice Ao op.length co, .slice Ad dn.length cd] 22) = W := ⟨_, rfl⟩
  rw [hW] at hb hg hl
  subst hO
  have HB := Aside0.mk hb
  have HO := Aside0.mk (Kd.C_below hop hb)
  have HD := Aside0.mk (Kd.C_below hdn hb)
  have HLO := Aside0.mk ho
  have HLD := Aside0.mk hd
  have hg1 := (blk_cell hg) 1
  have hl0 := (blk_cell hl) 0
  have hl1 := (blk_cell hl) 1
  clear hb hg hl hop hdn ho hd
  go_enter Tryd.func21, Tryd.ntmps21
  go_wp2
  clear hW
  go_loopg [5, 12] 2 (fun kq v5 v12 w' => ∃ (i : Nat), v12 = .int .i64 (i : Int) ∧ Aside0 (i + kq = 2) ∧ Aside0 (1 ≤ i → ¬ (ph = 2 ∧ op ≠ [])) ∧ Aside0 (2 ≤ i → ¬ (ph = 2 ∧ dn ≠ [])) ∧ w' = W)
  case atStart => exact ⟨0, rfl, ⟨rfl⟩, ⟨fun h => by omega⟩, ⟨fun h => by omega⟩, rfl⟩
  case round =>
    obtain ⟨i, rfl, HJ, H1, H2, rfl⟩ := hrel
    have hi : i = 0 ∨ i = 1 ∨ i = 2 := by have := HJ.out; omega
    rcases hi with rfl | rfl | rfl
    · by_cases q : ph = 2
      · subst q
        by_cases q2 : op = []
        · subst q2
          go_wp2
          go_roundg (gk - 1)
          case measure => have := HJ.out; omega
          case rel => exact ⟨1, rfl, ⟨by have := HJ.out; omega⟩, ⟨fun _ h => h.2 rfl⟩, ⟨fun h => by omega⟩, rfl⟩
        · have hp : 0 < op.length := List.length_pos_iff.2 q2
          have HQ := Aside0.mk q2
          have e1 : wrap64 ((op.length : Int) - 1) = ((op.length - 1 : Nat) : Int) := by have := HLO.out; unfold wrap64; omega
          obtain ⟨ad, ea, hx⟩ := at_int HO.out (op.length - 1) (by omega)
          subst ea
          rw [← last_getD op q2] at hx
          obtain ⟨x, hxx⟩ : ∃ x, op.getLastD 0 = x := ⟨_, rfl⟩
          rw [hxx] at hx
          have HXX := Aside0.mk hxx
          have HLO' := HLO.out
          clear hxx
          have b1 : op.length - 1 < op.length := by omega
          obtain ⟨m, hm⟩ : ∃ m, op.length - 1 = m := ⟨_, rfl⟩
          have e0 : (op.length : Int) - 1 = (m : Int) := by omega
          rw [hm] at e1 hx b1
          clear q2 hm e1
          go_wp2
          go_ret2
          exact ⟨by unfold top; rw [if_pos rfl, if_pos HQ.out]; dsimp only; rw [HXX.out]; rfl, HB.out⟩
      · have b1 : (ph == 2) = false := by simpa using q
        have HQ := Aside0.mk q
        clear q
        go_wp2
        go_roundg (gk - 1)
        case measure => have := HJ.out; omega
        case rel => exact ⟨1, rfl, ⟨by have := HJ.out; omega⟩, ⟨fun _ h => HQ.out h.1⟩, ⟨fun h => by omega⟩, rfl⟩
    · by_cases q : ph = 2
      · subst q
        have q1 : op = [] := by
          cases hop : op with
          | nil => rfl
          | cons a b => exact absurd ⟨rfl, by rw [hop]; simp⟩ (H1.out (Nat.le_refl _))
        subst q1
        by_cases q2 : dn = []
        · subst q2
          go_wp2
          go_roundg (gk - 1)
          case measure => have := HJ.out; omega
          case rel => exact ⟨2, rfl, ⟨by have := HJ.out; omega⟩, ⟨fun _ h => h.2 rfl⟩, ⟨fun _ h => h.2 rfl⟩, rfl⟩
        · have hp : 0 < dn.length := List.length_pos_iff.2 q2
          have HQ := Aside0.mk q2
          obtain ⟨ad, ea, hx⟩ := at_int HD.out (dn.length - 1) (by omega)
          subst ea
          rw [← last_getD dn q2] at hx
          obtain ⟨x, hxx⟩ : ∃ x, dn.getLastD 0 = x := ⟨_, rfl⟩
          rw [hxx] at hx
          have HXX := Aside0.mk hxx
          clear hxx
          have b1 : dn.length - 1 < dn.length := by omega
          obtain ⟨m, hm⟩ : ∃ m, dn.length - 1 = m := ⟨_, rfl⟩
          have e0 : (dn.length : Int) - 1 = (m : Int) := by omega
          rw [hm] at hx b1
          clear q2 hm
          have HLD' := HLD.out
          go_wp2
          go_ret2
          exact ⟨by unfold top; rw [if_pos rfl, if_neg (by simp), if_pos HQ.out]; dsimp only; rw [HXX.out]; rfl, HB.out⟩
      · have b1 : (ph == 2) = false := by simpa using q
        have HQ := Aside0.mk q
        clear q
        go_wp2
        go_roundg (gk - 1)
        case measure => have := HJ.out; omega
        case rel => exact ⟨2, rfl, ⟨by have := HJ.out; omega⟩, ⟨fun _ h => HQ.out h.1⟩, ⟨fun _ h => HQ.out h.1⟩, rfl⟩
    · have ht : Aside0 (top ⟨num, ph, p, op, dn⟩ = (0, false)) := ⟨by
        unfold top
        by_cases q : ph = 2
        · have h1 := H1.out (by omega)
          have h2 := H2.out (by omega)
          rw [if_pos q, if_neg (fun h => h1 ⟨q, h⟩), if_neg (fun h => h2 ⟨q, h⟩)]
        · rw [if_neg q]⟩
      go_wp2
      go_ret2
      exact ⟨by rw [ht.out]; rfl, HB.out⟩
end Go.Proofs.YtplhihakeodadaaDoor.Sg
