/- lattice: slices.Sort at []uint64, walked: its words; cmp.Less; the insertion sort. -/
import Derived.Test.YtplhihakeodadaaDoorLtReady
import Derived.Shelf.SlSortCmp.Kit1
import Derived.Sort.WalkA
import Derived.Sort.AssemblyPlain
import Derived.CellFam
namespace Go.Proofs.YtplhihakeodadaaDoor.Sg
open Go Go.Sort Go.RowKit Go.Proofs Go.Proofs.YtplhihakeodadaaDoorW.PrintWords Go.Proofs.YtplhihakeodadaaDoorW.PrintLast Go.Proofs.YtplhihakeodadaaDoorW.PrintMore
set_option linter.unusedVariables false
set_option linter.unusedSimpArgs false
abbrev eU : Int → Value := Value.int .u64
/-- The row as the sort has it: block b holds d; else nothing but draws and new blocks. -/
abbrev SU (w0 : World) (b : Nat) (d : Array Int) (W : World) : Prop := SW eU w0 b 0 d W
abbrev RU (w0 : World) (b : Nat) (d0 : Array Int) : Prop := Row1 eU w0 b 0 d0
theorem SU.cells {w0 W : World} {b : Nat} {d d0 : Array Int} (h : SU w0 b d W) (R : RU w0 b d0) (hs : d.size = d0.size) {n : Nat} (hn : n = d0.size) (G : Nat → Int) (hG : ∀ t, G t = d[t]!) : ∀ t, t < n → W.cell? ⟨b, t, none⟩ = some (.int .u64 (G t)) := fun t ht => by
  have := SW.c1 h R hs t (by omega)
  rw [Nat.zero_add] at this
  rw [this, hG]
theorem SU.free {w0 W : World} {b : Nat} {d d0 : Array Int} (h : SU w0 b d W) (R : RU w0 b d0) (hs : d.size = d0.size) {n : Nat} (hn : n = d0.size) : ∀ t, t < n → W.frozen? ⟨b, t, none⟩ = false := fun t ht => by
  have := SW.f1 h R hs t (by omega)
  rw [Nat.zero_add] at this
  exact this
theorem SU.exch {w0 W : World} {b : Nat} {d : Array Int} (h : SU w0 b d W) (hb : b < w0.heap.size) (i j : Nat) (hi : i < d.size) (hj : j < d.size) : SU w0 b (swp d i j) ((W.setCell ⟨b, i, none⟩ (.int .u64 d[j]!)).setCell ⟨b, j, none⟩ (.int .u64 d[i]!)) := by
  have := SW.swap h hb i j hi hj
  rwa [Nat.zero_add, Nat.zero_add] at this
set_option maxHeartbeats 1000000 in
theorem isNaN_T (x : Int) (w : World) : Calls Tryd.prog 103 #[.int .u64 x] w fun e w' => e = .returned (.bool false) ∧ w' = w := by
  go_enter Tryd.func103, Tryd.ntmps103
  go_wp2
  go_ret
  exact ⟨by simp, rfl⟩
set_option maxHeartbeats 1000000 in
theorem Less_T (x y : Int) (w : World) : Calls Tryd.prog 91 #[.int .u64 x, .int .u64 y] w fun e w' => e = .returned (.bool (ltInt x y)) ∧ w' = w := by
  go_enter Tryd.func91, Tryd.ntmps91
  go_wp2_with (go_at_call 103; refine (isNaN_T _ _).mono ?_; rintro e w' ⟨rfl, rfl⟩)
  go_ret
  exact ⟨rfl, rfl⟩
set_option maxHeartbeats 16000000 in
set_option maxRecDepth 100000 in
theorem insSort_T (w0 : World) (bk c a b : Nat) (d0 d : Array Int) (w : World) (R : RU w0 bk d0) (hs : d.size = d0.size) (h : SU w0 bk d w) (hab : a ≤ b) (hb : b ≤ d.size) (hl : d.size ≤ 1000000000) :
    Calls Tryd.prog 85 #[.slice (some ⟨bk, 0, none⟩) d.size c, .int .i64 (a : Int), .int .i64 (b : Int)] w fun e w' => e = .returned (.tuple #[]) ∧ SU w0 bk (insertionSort ltInt d a b) w' := by
  have HR := Aside0.mk R
  have HW := Aside0.mk h
  have HS := Aside0.mk hs
  obtain ⟨n, hn⟩ : ∃ n, d.size = n := ⟨_, rfl⟩
  have HN := Aside0.mk hn
  rw [hn] at hb hl ⊢
  clear R h hs hn
  go_enter Tryd.func85, Tryd.ntmps85
  go_wp2
  go_loopg [6, 7] (b - a) (fun kq v6 v7 w' => ∃ (i : Nat) (dk : Array Int), v6 = .int .i64 (i : Int) ∧ a < i ∧ i ≤ b + 1 ∧ b + 1 - i ≤ kq + 1 ∧ Aside0 (dk.size = n) ∧ Aside0 (SU w0 bk dk w') ∧ Aside0 (insOuter ltInt a b i dk = insOuter ltInt a b (a + 1) d))
  case atStart => exact ⟨a + 1, d, by push_cast; go_num, by omega, by omega, by omega, HN, HW, ⟨rfl⟩⟩
  case round =>
    clear HW
    obtain ⟨i, dk, rfl, hai, hib, hkq, HK, HW, HO⟩ := hrel
    by_cases hlt : i < b
    · have e1 : decide ((i : Int) < (b : Int)) = true := decide_eq_true (by omega)
      go_wp2
      go_loopg [7] i (fun kq v7 w' => ∃ (j : Nat) (dj : Array Int), v7 = .int .i64 (j : Int) ∧ a ≤ j ∧ j ≤ i ∧ j ≤ kq ∧ Aside0 (dj.size = n) ∧ Aside0 (SU w0 bk dj w') ∧ Aside0 (insInner ltInt a j dj = insInner ltInt a i dk))
      case atStart => exact ⟨i, dk, rfl, by omega, Nat.le_refl _, Nat.le_refl _, HK, HW, ⟨rfl⟩⟩
      case round =>
        rename_i J0 K0 hJ0 hK0
        clear HW
        obtain ⟨j, dj, rfl, haj, hji, hkj, HSJ, HW, HI⟩ := hrel
        obtain ⟨G, hG⟩ : ∃ G : Nat → Int, ∀ t, G t = dj[t]! := ⟨fun t => dj[t]!, fun _ => rfl⟩
        have HG := Aside0.mk hG
        have hs : dj.size = d0.size := by rw [HSJ.out, ← HN.out]; exact HS.out
        have hcw := SU.cells HW.out HR.out hs (n := n) (by rw [← hs]; exact HSJ.out.symm) G hG
        have hfw := SU.free HW.out HR.out hs (n := n) (by rw [← hs]; exact HSJ.out.symm)
        have OUT : Aside0 ((j ≤ a ∨ ltInt dj[j]! dj[j - 1]! = false) → insOuter ltInt a b (i + 1) dj = insOuter ltInt a b (a + 1) d) := ⟨fun hq => by
          rw [← HO.out, insOuter_go _ _ _ _ _ hlt, ← HI.out, insInner_stop _ _ _ _ hq]⟩
        clear hG hs
        by_cases hja : a < j
        · obtain ⟨jp, rfl⟩ : ∃ q, j = q + 1 := ⟨j - 1, by omega⟩
          have e2 : decide ((jp : Int) + 1 > (a : Int)) = true := decide_eq_true (by omega)
          have e3 : (a : Int) < (jp : Int) + 1 := by omega
          have e4 : decide (a < jp + 1) = true := decide_eq_true hja
          have b1 : jp + 1 < n := by omega
          have b2 : jp < n := by omega
          have v1 := hcw (jp + 1) b1
          have v2 := hcw jp b2
          go_wp2
          go_quiet (first | (go_at_call 91; refine Calls.quiet_of_same (Less_T _ _ _)))
          go_wp2
          · have hl : ltInt (G (jp + 1)) (G jp) = true := by assumption
            have HW2 := Aside0.mk (SW.drewN HW.out nq)
            have HLT : Aside0 (ltInt dj[jp + 1]! dj[jp]! = true) := ⟨by rw [← HG.out, ← HG.out]; exact hl⟩
            obtain ⟨w2, hw2⟩ : ∃ W, wr.drewN nq = W := ⟨_, rfl⟩
            rw [hw2] at HW2 ⊢
            clear v1 v2 hcw hfw hl hw2 OUT
            have hs : dj.size = d0.size := by rw [HSJ.out, ← HN.out]; exact HS.out
            have hcw := SU.cells HW2.out HR.out hs (n := n) (by rw [← hs]; exact HSJ.out.symm) G HG.out
            have hfw := SU.free HW2.out HR.out hs (n := n) (by rw [← hs]; exact HSJ.out.symm)
            have v1 := hcw (jp + 1) b1
            have v2 := hcw jp b2
            have f1 := hfw (jp + 1) b1
            have f2 := hfw jp b2
            have HX := Aside0.mk (SU.exch HW2.out HR.out.hblk (jp + 1) jp (by rw [HSJ.out]; exact b1) (by rw [HSJ.out]; exact b2))
            clear hs hcw hfw
            go_big_region
            rw [HG.out, HG.out]
            obtain ⟨w3, hw3⟩ : ∃ W, ((w2.setCell { block := bk, off := jp + 1 } (Value.int IntKind.u64 dj[jp]!)).setCell { block := bk, off := jp } (Value.int IntKind.u64 dj[jp + 1]!)).drew = W := ⟨_, rfl⟩
            have HX3 : Aside0 (SU w0 bk (swp dj (jp + 1) jp) w3) := ⟨hw3 ▸ SW.drew HX.out⟩
            rw [hw3]
            clear hw3 HX v1 v2 f1 f2 HW2
            go_wp2
            go_roundg jp
            case measure => omega
            case rel => exact ⟨jp, swp dj (jp + 1) jp, rfl, by omega, by omega, Nat.le_refl _, ⟨by rw [size_swp]; exact HSJ.out⟩, HX3, ⟨by rw [← HI.out, insInner_go ltInt a (jp + 1) dj hja HLT.out]; rfl⟩⟩
          · have hl : ltInt (G (jp + 1)) (G jp) = false := by assumption
            have HO2 := Aside0.mk (OUT.out (Or.inr (by rw [← HG.out, ← HG.out]; exact hl)))
            have HW2 := Aside0.mk (SW.drewN HW.out nq)
            clear v1 v2 hcw hfw hl OUT
            go_roundg (b - (i + 1))
            case measure => omega
            case rel => exact ⟨i + 1, dj, by push_cast; rfl, by omega, by omega, by omega, HSJ, HW2, HO2⟩
        · have e2 : decide ((j : Int) > (a : Int)) = false := decide_eq_false (by omega)
          have e3 : ¬ (a : Int) < (j : Int) := by omega
          have e4 : decide (a < j) = false := decide_eq_false hja
          have HO2 := Aside0.mk (OUT.out (Or.inl (by omega)))
          clear OUT
          go_wp2
          go_quiet (fail)
          have HW2 := Aside0.mk (SW.drewN HW.out nq)
          go_wp2
          go_roundg (b - (i + 1))
          case measure => omega
          case rel => exact ⟨i + 1, dj, by push_cast; rfl, by omega, by omega, by omega, HSJ, HW2, HO2⟩
    · have e1 : decide ((i : Int) < (b : Int)) = false := decide_eq_false (by omega)
      go_wp2
      go_end0
      exact ⟨rfl, by unfold insertionSort; rw [← HO.out, insOuter_stop _ _ _ _ _ hlt]; exact HW.out⟩
end Go.Proofs.YtplhihakeodadaaDoor.Sg
