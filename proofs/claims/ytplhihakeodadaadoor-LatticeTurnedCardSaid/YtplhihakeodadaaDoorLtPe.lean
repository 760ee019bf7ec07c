/- lattice: slices.Sort at []uint64, walked: partitionEqual. (written by gen_pe.py) -/
import Derived.Test.YtplhihakeodadaaDoorLtSm
import Derived.Sort.WalkC
import Derived.Deep.CutBlock
import Derived.Sort.WalkC4
import Derived.Sort.WalkA6
namespace Go.Proofs.YtplhihakeodadaaDoor.Sg
open Go Go.Sort Go.RowKit Go.Proofs Go.Proofs.YtplhihakeodadaaDoorW.PrintWords Go.Proofs.YtplhihakeodadaaDoorW.PrintLast Go.Proofs.YtplhihakeodadaaDoorW.PrintMore
set_option linter.unusedVariables false
set_option linter.unusedSimpArgs false
set_option maxHeartbeats 16000000 in
set_option maxRecDepth 100000 in
theorem partEq_T (w0 : World) (bk c a b p : Nat) (d0 d : Array Int) (w : World) (R : RU w0 bk d0) (hs : d.size = d0.size) (h : SU w0 bk d w) (hap : a ≤ p) (hpb : p < b) (hb : b ≤ d.size) (hl : d.size ≤ 1000000000) :
    Calls Tryd.prog 92 #[.slice (some ⟨bk, 0, none⟩) d.size c, .int .i64 (a : Int), .int .i64 (b : Int), .int .i64 (p : Int)] w fun e w' => e = .returned (.int .i64 ((partitionEqual ltInt d a b p).1 : Int)) ∧ SU w0 bk (partitionEqual ltInt d a b p).2 w' := by
  have HR := Aside0.mk R
  have HW := Aside0.mk h
  have HS := Aside0.mk hs
  obtain ⟨n, hn⟩ : ∃ n, d.size = n := ⟨_, rfl⟩
  have HN := Aside0.mk hn
  rw [hn] at hb hl ⊢
  obtain ⟨f, hf⟩ : ∃ f, partitionEqual ltInt d a b p = f := ⟨_, rfl⟩
  rw [hf]
  have HF : Aside0 (f = partEqLoop ltInt a (a + 1) (b - 1) (swp d a p)) := ⟨hf.symm⟩
  clear R h hs hn hf
  go_enter Tryd.func92, Tryd.ntmps92
  by_cases hp : a = p
  · subst hp
    have HK := HN
    obtain ⟨G, hG⟩ : ∃ G : Nat → Int, ∀ t, G t = d[t]! := ⟨fun t => d[t]!, fun _ => rfl⟩
    have HG := Aside0.mk hG
    clear hG
    have hs0 : d.size = d0.size := by rw [HK.out, ← HN.out]; exact HS.out
    have hcw := SU.cells HW.out HR.out hs0 (n := n) (by rw [← hs0]; exact HK.out.symm) G HG.out
    have hfw := SU.free HW.out HR.out hs0 (n := n) (by rw [← hs0]; exact HK.out.symm)
    have v0 := hcw (a) (by omega)
    have f0 := hfw (a) (by omega)
    clear hs0 hcw hfw
    have HX := Aside0.mk (SU.exch HW.out HR.out.hblk a a (by rw [HK.out]; omega) (by rw [HK.out]; omega))
    go_wp2_with (fail)
    go_big_region
    rw [HG.out a]
    obtain ⟨w1, hw6⟩ : ∃ W, ((w.setCell ⟨bk, a, none⟩ (.int .u64 d[a]!)).setCell ⟨bk, a, none⟩ (.int .u64 d[a]!)).drew = W := ⟨_, rfl⟩
    have HX1 : Aside0 (SU w0 bk (swp d a a) w1) := ⟨hw6 ▸ SW.drew HX.out⟩
    rw [hw6]
    clear hw6 HX v0 f0
    clear HK HG HW
    go_wp2_with (fail)
    go_loopg [9, 10] b (fun kq v9 v10 w' => ∃ (i j : Nat) (dk : Array Int), v9 = .int .i64 (i : Int) ∧ v10 = .int .i64 (j : Int) ∧ a < i ∧ i ≤ j + 1 ∧ j < b ∧ j + 1 ≤ kq + i ∧ Aside0 (dk.size = n) ∧ Aside0 (SU w0 bk dk w') ∧ Aside0 (partEqLoop ltInt a i j dk = partEqLoop ltInt a (a + 1) (b - 1) (swp d a a)))
    case atStart => exact ⟨a + 1, b - 1, _, by first | rfl | (congr 1; go_num), by first | rfl | (congr 1; omega), by omega, by omega, by omega, by omega, ⟨by rw [size_swp]; exact HN.out⟩, HX1, ⟨rfl⟩⟩
    case round =>
      clear HX1
      obtain ⟨i, j, dk, rfl, rfl, hai, hij1, hjb, hjk, HK, HW, HE⟩ := hrel
      obtain ⟨ko, hko⟩ : ∃ k, k = gk := ⟨_, rfl⟩
      have HKO := Aside0.mk hko
      clear hko
      obtain ⟨G, hG⟩ : ∃ G : Nat → Int, ∀ t, G t = dk[t]! := ⟨fun t => dk[t]!, fun _ => rfl⟩
      have HG := Aside0.mk hG
      clear hG
      go_upto_block 2 with fail
      go_cut [9] (fun v10 wx => ∃ i2 : Nat, v10 = .int .i64 (i2 : Int) ∧ i ≤ i2 ∧ i2 ≤ j + 1 ∧ Aside0 (i2 = scanUp (fun x => !ltInt dk[a]! x) dk j i) ∧ Aside0 (SU w0 bk dk wx))
      case first =>
        go_wp2_with (fail)
        go_loopg [9] (j + 1) (fun kq v10 w' => ∃ (x : Nat), v10 = .int .i64 (x : Int) ∧ i ≤ x ∧ x ≤ j + 1 ∧ j + 1 ≤ kq + x ∧ Aside0 (SU w0 bk dk w') ∧ Aside0 (scanUp (fun x => !ltInt dk[a]! x) dk j x = scanUp (fun x => !ltInt dk[a]! x) dk j i))
        case atStart => exact ⟨i, rfl, Nat.le_refl _, hij1, by omega, HW, ⟨rfl⟩⟩
        case round =>
          clear HW
          obtain ⟨x, rfl, hx, hxj, hxk, HW2, HSU⟩ := hrel
          by_cases hle : x ≤ j
          · have c1 : decide ((x : Int) ≤ (j : Int)) = true := decide_eq_true (by omega)
            have c2 : (x : Int) ≤ (j : Int) := by omega
            have hs0 : dk.size = d0.size := by rw [HK.out, ← HN.out]; exact HS.out
            have hcw := SU.cells HW2.out HR.out hs0 (n := n) (by rw [← hs0]; exact HK.out.symm) G HG.out
            have hfw := SU.free HW2.out HR.out hs0 (n := n) (by rw [← hs0]; exact HK.out.symm)
            have v0 := hcw (a) (by omega)
            have v1 := hcw (x) (by omega)
            clear hs0 hcw hfw
            go_wp2_with (fail)
            go_big_quiet (first | (go_at_call 91; refine Calls.quiet_of_same (Less_T _ _ _)))
            go_wp2_with (fail)
            · have hL : (!ltInt (G a) (G x)) = true := by first | assumption | (simp only [Bool.not_eq_true', Bool.not_eq_false'] at *; simp [*])
              have HL : Aside0 ((fun x => !ltInt dk[a]! x) dk[x]! = true) := ⟨by show (!ltInt dk[a]! dk[x]!) = true; rw [← HG.out, ← HG.out, hL]⟩
              have HW3 := Aside0.mk (SW.drewN HW2.out nq)
              obtain ⟨w3, hww⟩ : ∃ W, wr.drewN nq = W := ⟨_, rfl⟩
              rw [hww] at HW3 ⊢
              clear hww v0 v1
              go_roundg (gk - 1)
              case measure => omega
              case rel => exact ⟨x + 1, by first | rfl | (congr 1; go_num), by omega, by omega, by omega, HW3, ⟨by rw [← HSU.out, scanUp_go (fun x => !ltInt dk[a]! x) dk j x hle HL.out]⟩⟩
            · have hL : (!ltInt (G a) (G x)) = false := by first | assumption | (simp only [Bool.not_eq_true', Bool.not_eq_false'] at *; simp [*])
              have HL : Aside0 ((fun x => !ltInt dk[a]! x) dk[x]! = false) := ⟨by show (!ltInt dk[a]! dk[x]!) = false; rw [← HG.out, ← HG.out, hL]⟩
              have HW3 := Aside0.mk (SW.drewN HW2.out nq)
              obtain ⟨w3, hww⟩ : ∃ W, wr.drewN nq = W := ⟨_, rfl⟩
              rw [hww] at HW3 ⊢
              clear hww v0 v1
              go_meet
              case rel => exact ⟨x, rfl, hx, hxj, ⟨by rw [← HSU.out, scanUp_end (fun x => !ltInt dk[a]! x) dk j x (Or.inr HL.out)]⟩, HW3⟩
          · have c1 : decide ((x : Int) ≤ (j : Int)) = false := decide_eq_false (by omega)
            have c2 : ¬ (x : Int) ≤ (j : Int) := by omega
            go_wp2_with (fail)
            go_big_quiet (fail)
            go_wp2_with (fail)
            have HW3 := Aside0.mk (SW.drewN HW2.out nq)
            obtain ⟨w3, hww⟩ : ∃ W, wr.drewN nq = W := ⟨_, rfl⟩
            rw [hww] at HW3 ⊢
            clear hww
            go_meet
            case rel => exact ⟨x, rfl, hx, hxj, ⟨by rw [← HSU.out, scanUp_end (fun x => !ltInt dk[a]! x) dk j x (Or.inl hle)]⟩, HW3⟩
      case rest =>
      clear HW
      obtain ⟨i2, rfl, hi2, hi2j, HI2, HW3⟩ := hcut
      obtain ⟨w3, hw3⟩ : ∃ W, wc = W := ⟨_, rfl⟩
      rw [hw3] at HW3 ⊢
      clear hw3
      go_upto_block 4 with fail
      go_cut [10] (fun v11 wx => ∃ j2 : Nat, v11 = .int .i64 (j2 : Int) ∧ j2 ≤ j ∧ i2 ≤ j2 + 1 ∧ Aside0 (j2 = scanDown (fun x => ltInt dk[a]! x) dk i2 j) ∧ Aside0 (SU w0 bk dk wx))
      case first =>
        go_wp2_with (fail)
        go_loopg [10] (j + 1) (fun kq v11 w' => ∃ (y : Nat), v11 = .int .i64 (y : Int) ∧ y ≤ j ∧ y + 1 ≤ kq ∧ i2 ≤ y + 1 ∧ Aside0 (SU w0 bk dk w') ∧ Aside0 (scanDown (fun x => ltInt dk[a]! x) dk i2 y = scanDown (fun x => ltInt dk[a]! x) dk i2 j))
        case atStart => exact ⟨j, rfl, Nat.le_refl _, Nat.le_refl _, by omega, HW3, ⟨rfl⟩⟩
        case round =>
          clear HW3
          obtain ⟨y, rfl, hy, hyk, hiy, HW4, HSD⟩ := hrel
          by_cases hle : i2 ≤ y
          · have c1 : decide ((i2 : Int) ≤ (y : Int)) = true := decide_eq_true (by omega)
            have c2 : (i2 : Int) ≤ (y : Int) := by omega
            have hs0 : dk.size = d0.size := by rw [HK.out, ← HN.out]; exact HS.out
            have hcw := SU.cells HW4.out HR.out hs0 (n := n) (by rw [← hs0]; exact HK.out.symm) G HG.out
            have hfw := SU.free HW4.out HR.out hs0 (n := n) (by rw [← hs0]; exact HK.out.symm)
            have v0 := hcw (a) (by omega)
            have v1 := hcw (y) (by omega)
            clear hs0 hcw hfw
            go_wp2_with (fail)
            go_big_quiet (first | (go_at_call 91; refine Calls.quiet_of_same (Less_T _ _ _)))
            go_wp2_with (fail)
            · have hL : ltInt (G a) (G y) = true := by first | assumption | (simp only [Bool.not_eq_true', Bool.not_eq_false'] at *; simp [*])
              have HL : Aside0 ((fun x => ltInt dk[a]! x) dk[y]! = true) := ⟨by show ltInt dk[a]! dk[y]! = true; rw [← HG.out, ← HG.out, hL]⟩
              have HW5 := Aside0.mk (SW.drewN HW4.out nq)
              obtain ⟨w5, hww⟩ : ∃ W, wr.drewN nq = W := ⟨_, rfl⟩
              rw [hww] at HW5 ⊢
              clear hww v0 v1
              obtain ⟨yp, rfl⟩ : ∃ q, y = q + 1 := ⟨y - 1, by omega⟩
              go_roundg (gk - 1)
              case measure => omega
              case rel => exact ⟨yp, by first | rfl | (congr 1; go_num), by omega, by omega, by omega, HW5, ⟨by rw [← HSD.out, scanDown_go (fun x => ltInt dk[a]! x) dk i2 _ hle (by omega) HL.out]; rfl⟩⟩
            · have hL : ltInt (G a) (G y) = false := by first | assumption | (simp only [Bool.not_eq_true', Bool.not_eq_false'] at *; simp [*])
              have HL : Aside0 ((fun x => ltInt dk[a]! x) dk[y]! = false) := ⟨by show ltInt dk[a]! dk[y]! = false; rw [← HG.out, ← HG.out, hL]⟩
              have HW5 := Aside0.mk (SW.drewN HW4.out nq)
              obtain ⟨w5, hww⟩ : ∃ W, wr.drewN nq = W := ⟨_, rfl⟩
              rw [hww] at HW5 ⊢
              clear hww v0 v1
              go_meet
              case rel => exact ⟨y, rfl, hy, hiy, ⟨by rw [← HSD.out, scanDown_end (fun x => ltInt dk[a]! x) dk i2 y (Or.inr HL.out)]⟩, HW5⟩
          · have c1 : decide ((i2 : Int) ≤ (y : Int)) = false := decide_eq_false (by omega)
            have c2 : ¬ (i2 : Int) ≤ (y : Int) := by omega
            go_wp2_with (fail)
            go_big_quiet (fail)
            go_wp2_with (fail)
            have HW5 := Aside0.mk (SW.drewN HW4.out nq)
            obtain ⟨w5, hww⟩ : ∃ W, wr.drewN nq = W := ⟨_, rfl⟩
            rw [hww] at HW5 ⊢
            clear hww
            go_meet
            case rel => exact ⟨y, rfl, hy, hiy, ⟨by rw [← HSD.out, scanDown_end (fun x => ltInt dk[a]! x) dk i2 y (Or.inl hle)]⟩, HW5⟩
      case rest =>
      clear HW3
      obtain ⟨j2, rfl, hj2, hij2, HJ2, HW5⟩ := hcut
      obtain ⟨w5, hw5⟩ : ∃ W, wc = W := ⟨_, rfl⟩
      rw [hw5] at HW5 ⊢
      clear hw5
      by_cases hij : j2 < i2
      · have g1 : decide ((i2 : Int) > (j2 : Int)) = true := decide_eq_true (by omega)
        have g2 : (j2 : Int) < (i2 : Int) := by omega
        have HB := Aside0.mk (partEq_break ltInt a i j dk HI2.out HJ2.out hij)
        go_wp2
        go_ret
        refine ⟨?_, ?_⟩
        · rw [HF.out, ← HE.out, HB.out]; try rfl
        · rw [HF.out, ← HE.out, HB.out]; exact HW5.out
      · have g1 : decide ((i2 : Int) > (j2 : Int)) = false := decide_eq_false (by omega)
        have g2 : ¬ (j2 : Int) < (i2 : Int) := by omega
        have HB := Aside0.mk (partEq_go ltInt a i j dk HI2.out HJ2.out (by omega))
        have hlt := scans_lt ltInt a i j dk (by omega) HI2.out HJ2.out (by omega)
        have hs0 : dk.size = d0.size := by rw [HK.out, ← HN.out]; exact HS.out
        have hcw := SU.cells HW5.out HR.out hs0 (n := n) (by rw [← hs0]; exact HK.out.symm) G HG.out
        have hfw := SU.free HW5.out HR.out hs0 (n := n) (by rw [← hs0]; exact HK.out.symm)
        have v0 := hcw (i2) (by omega)
        have f0 := hfw (i2) (by omega)
        have v1 := hcw (j2) (by omega)
        have f1 := hfw (j2) (by omega)
        clear hs0 hcw hfw
        have HX := Aside0.mk (SU.exch HW5.out HR.out.hblk i2 j2 (by rw [HK.out]; omega) (by rw [HK.out]; omega))
        go_wp2_with (fail)
        go_big_region
        rw [HG.out i2, HG.out j2]
        obtain ⟨w6, hw6⟩ : ∃ W, ((w5.setCell ⟨bk, i2, none⟩ (.int .u64 dk[j2]!)).setCell ⟨bk, j2, none⟩ (.int .u64 dk[i2]!)).drew = W := ⟨_, rfl⟩
        have HX6 : Aside0 (SU w0 bk (swp dk i2 j2) w6) := ⟨hw6 ▸ SW.drew HX.out⟩
        rw [hw6]
        clear hw6 HX v0 v1 f0 f1
        obtain ⟨jp, rfl⟩ : ∃ q, j2 = q + 1 := ⟨j2 - 1, by omega⟩
        go_wp2
        go_roundg (ko - 1)
        case measure => have := HKO.out; omega
        case rel => exact ⟨i2 + 1, jp, _, by first | rfl | (congr 1; go_num), by first | rfl | (congr 1; go_num), by omega, by omega, by omega, by have := HKO.out; omega, ⟨by rw [size_swp]; exact HK.out⟩, HX6, ⟨by rw [← HE.out, HB.out]; rfl⟩⟩
  · have hne : a < p := by omega
    have HK := HN
    obtain ⟨G, hG⟩ : ∃ G : Nat → Int, ∀ t, G t = d[t]! := ⟨fun t => d[t]!, fun _ => rfl⟩
    have HG := Aside0.mk hG
    clear hG
    have hs0 : d.size = d0.size := by rw [HK.out, ← HN.out]; exact HS.out
    have hcw := SU.cells HW.out HR.out hs0 (n := n) (by rw [← hs0]; exact HK.out.symm) G HG.out
    have hfw := SU.free HW.out HR.out hs0 (n := n) (by rw [← hs0]; exact HK.out.symm)
    have v0 := hcw (a) (by omega)
    have f0 := hfw (a) (by omega)
    have v1 := hcw (p) (by omega)
    have f1 := hfw (p) (by omega)
    clear hs0 hcw hfw
    have HX := Aside0.mk (SU.exch HW.out HR.out.hblk a p (by rw [HK.out]; omega) (by rw [HK.out]; omega))
    go_wp2_with (fail)
    go_big_region
    rw [HG.out a, HG.out p]
    obtain ⟨w1, hw6⟩ : ∃ W, ((w.setCell ⟨bk, a, none⟩ (.int .u64 d[p]!)).setCell ⟨bk, p, none⟩ (.int .u64 d[a]!)).drew = W := ⟨_, rfl⟩
    have HX1 : Aside0 (SU w0 bk (swp d a p) w1) := ⟨hw6 ▸ SW.drew HX.out⟩
    rw [hw6]
    clear hw6 HX v0 v1 f0 f1
    clear HK HG HW
    go_wp2_with (fail)
    go_loopg [9, 10] b (fun kq v9 v10 w' => ∃ (i j : Nat) (dk : Array Int), v9 = .int .i64 (i : Int) ∧ v10 = .int .i64 (j : Int) ∧ a < i ∧ i ≤ j + 1 ∧ j < b ∧ j + 1 ≤ kq + i ∧ Aside0 (dk.size = n) ∧ Aside0 (SU w0 bk dk w') ∧ Aside0 (partEqLoop ltInt a i j dk = partEqLoop ltInt a (a + 1) (b - 1) (swp d a p)))
    case atStart => exact ⟨a + 1, b - 1, _, by first | rfl | (congr 1; go_num), by first | rfl | (congr 1; omega), by omega, by omega, by omega, by omega, ⟨by rw [size_swp]; exact HN.out⟩, HX1, ⟨rfl⟩⟩
    case round =>
      clear HX1
      obtain ⟨i, j, dk, rfl, rfl, hai, hij1, hjb, hjk, HK, HW, HE⟩ := hrel
      obtain ⟨ko, hko⟩ : ∃ k, k = gk := ⟨_, rfl⟩
      have HKO := Aside0.mk hko
      clear hko
      obtain ⟨G, hG⟩ : ∃ G : Nat → Int, ∀ t, G t = dk[t]! := ⟨fun t => dk[t]!, fun _ => rfl⟩
      have HG := Aside0.mk hG
      clear hG
      go_upto_block 2 with fail
      go_cut [9] (fun v10 wx => ∃ i2 : Nat, v10 = .int .i64 (i2 : Int) ∧ i ≤ i2 ∧ i2 ≤ j + 1 ∧ Aside0 (i2 = scanUp (fun x => !ltInt dk[a]! x) dk j i) ∧ Aside0 (SU w0 bk dk wx))
      case first =>
        go_wp2_with (fail)
        go_loopg [9] (j + 1) (fun kq v10 w' => ∃ (x : Nat), v10 = .int .i64 (x : Int) ∧ i ≤ x ∧ x ≤ j + 1 ∧ j + 1 ≤ kq + x ∧ Aside0 (SU w0 bk dk w') ∧ Aside0 (scanUp (fun x => !ltInt dk[a]! x) dk j x = scanUp (fun x => !ltInt dk[a]! x) dk j i))
        case atStart => exact ⟨i, rfl, Nat.le_refl _, hij1, by omega, HW, ⟨rfl⟩⟩
        case round =>
          clear HW
          obtain ⟨x, rfl, hx, hxj, hxk, HW2, HSU⟩ := hrel
          by_cases hle : x ≤ j
          · have c1 : decide ((x : Int) ≤ (j : Int)) = true := decide_eq_true (by omega)
            have c2 : (x : Int) ≤ (j : Int) := by omega
            have hs0 : dk.size = d0.size := by rw [HK.out, ← HN.out]; exact HS.out
            have hcw := SU.cells HW2.out HR.out hs0 (n := n) (by rw [← hs0]; exact HK.out.symm) G HG.out
            have hfw := SU.free HW2.out HR.out hs0 (n := n) (by rw [← hs0]; exact HK.out.symm)
            have v0 := hcw (a) (by omega)
            have v1 := hcw (x) (by omega)
            clear hs0 hcw hfw
            go_wp2_with (fail)
            go_big_quiet (first | (go_at_call 91; refine Calls.quiet_of_same (Less_T _ _ _)))
            go_wp2_with (fail)
            · have hL : (!ltInt (G a) (G x)) = true := by first | assumption | (simp only [Bool.not_eq_true', Bool.not_eq_false'] at *; simp [*])
              have HL : Aside0 ((fun x => !ltInt dk[a]! x) dk[x]! = true) := ⟨by show (!ltInt dk[a]! dk[x]!) = true; rw [← HG.out, ← HG.out, hL]⟩
              have HW3 := Aside0.mk (SW.drewN HW2.out nq)
              obtain ⟨w3, hww⟩ : ∃ W, wr.drewN nq = W := ⟨_, rfl⟩
              rw [hww] at HW3 ⊢
              clear hww v0 v1
              go_roundg (gk - 1)
              case measure => omega
              case rel => exact ⟨x + 1, by first | rfl | (congr 1; go_num), by omega, by omega, by omega, HW3, ⟨by rw [← HSU.out, scanUp_go (fun x => !ltInt dk[a]! x) dk j x hle HL.out]⟩⟩
            · have hL : (!ltInt (G a) (G x)) = false := by first | assumption | (simp only [Bool.not_eq_true', Bool.not_eq_false'] at *; simp [*])
              have HL : Aside0 ((fun x => !ltInt dk[a]! x) dk[x]! = false) := ⟨by show (!ltInt dk[a]! dk[x]!) = false; rw [← HG.out, ← HG.out, hL]⟩
              have HW3 := Aside0.mk (SW.drewN HW2.out nq)
              obtain ⟨w3, hww⟩ : ∃ W, wr.drewN nq = W := ⟨_, rfl⟩
              rw [hww] at HW3 ⊢
              clear hww v0 v1
              go_meet
              case rel => exact ⟨x, rfl, hx, hxj, ⟨by rw [← HSU.out, scanUp_end (fun x => !ltInt dk[a]! x) dk j x (Or.inr HL.out)]⟩, HW3⟩
          · have c1 : decide ((x : Int) ≤ (j : Int)) = false := decide_eq_false (by omega)
            have c2 : ¬ (x : Int) ≤ (j : Int) := by omega
            go_wp2_with (fail)
            go_big_quiet (fail)
            go_wp2_with (fail)
            have HW3 := Aside0.mk (SW.drewN HW2.out nq)
            obtain ⟨w3, hww⟩ : ∃ W, wr.drewN nq = W := ⟨_, rfl⟩
            rw [hww] at HW3 ⊢
            clear hww
            go_meet
            case rel => exact ⟨x, rfl, hx, hxj, ⟨by rw [← HSU.out, scanUp_end (fun x => !ltInt dk[a]! x) dk j x (Or.inl hle)]⟩, HW3⟩
      case rest =>
      clear HW
      obtain ⟨i2, rfl, hi2, hi2j, HI2, HW3⟩ := hcut
      obtain ⟨w3, hw3⟩ : ∃ W, wc = W := ⟨_, rfl⟩
      rw [hw3] at HW3 ⊢
      clear hw3
      go_upto_block 4 with fail
      go_cut [10] (fun v11 wx => ∃ j2 : Nat, v11 = .int .i64 (j2 : Int) ∧ j2 ≤ j ∧ i2 ≤ j2 + 1 ∧ Aside0 (j2 = scanDown (fun x => ltInt dk[a]! x) dk i2 j) ∧ Aside0 (SU w0 bk dk wx))
      case first =>
        go_wp2_with (fail)
        go_loopg [10] (j + 1) (fun kq v11 w' => ∃ (y : Nat), v11 = .int .i64 (y : Int) ∧ y ≤ j ∧ y + 1 ≤ kq ∧ i2 ≤ y + 1 ∧ Aside0 (SU w0 bk dk w') ∧ Aside0 (scanDown (fun x => ltInt dk[a]! x) dk i2 y = scanDown (fun x => ltInt dk[a]! x) dk i2 j))
        case atStart => exact ⟨j, rfl, Nat.le_refl _, Nat.le_refl _, by omega, HW3, ⟨rfl⟩⟩
        case round =>
          clear HW3
          obtain ⟨y, rfl, hy, hyk, hiy, HW4, HSD⟩ := hrel
          by_cases hle : i2 ≤ y
          · have c1 : decide ((i2 : Int) ≤ (y : Int)) = true := decide_eq_true (by omega)
            have c2 : (i2 : Int) ≤ (y : Int) := by omega
            have hs0 : dk.size = d0.size := by rw [HK.out, ← HN.out]; exact HS.out
            have hcw := SU.cells HW4.out HR.out hs0 (n := n) (by rw [← hs0]; exact HK.out.symm) G HG.out
            have hfw := SU.free HW4.out HR.out hs0 (n := n) (by rw [← hs0]; exact HK.out.symm)
            have v0 := hcw (a) (by omega)
            have v1 := hcw (y) (by omega)
            clear hs0 hcw hfw
            go_wp2_with (fail)
            go_big_quiet (first | (go_at_call 91; refine Calls.quiet_of_same (Less_T _ _ _)))
            go_wp2_with (fail)
            · have hL : ltInt (G a) (G y) = true := by first | assumption | (simp only [Bool.not_eq_true', Bool.not_eq_false'] at *; simp [*])
              have HL : Aside0 ((fun x => ltInt dk[a]! x) dk[y]! = true) := ⟨by show ltInt dk[a]! dk[y]! = true; rw [← HG.out, ← HG.out, hL]⟩
              have HW5 := Aside0.mk (SW.drewN HW4.out nq)
              obtain ⟨w5, hww⟩ : ∃ W, wr.drewN nq = W := ⟨_, rfl⟩
              rw [hww] at HW5 ⊢
              clear hww v0 v1
              obtain ⟨yp, rfl⟩ : ∃ q, y = q + 1 := ⟨y - 1, by omega⟩
              go_roundg (gk - 1)
              case measure => omega
              case rel => exact ⟨yp, by first | rfl | (congr 1; go_num), by omega, by omega, by omega, HW5, ⟨by rw [← HSD.out, scanDown_go (fun x => ltInt dk[a]! x) dk i2 _ hle (by omega) HL.out]; rfl⟩⟩
            · have hL : ltInt (G a) (G y) = false := by first | assumption | (simp only [Bool.not_eq_true', Bool.not_eq_false'] at *; simp [*])
              have HL : Aside0 ((fun x => ltInt dk[a]! x) dk[y]! = false) := ⟨by show ltInt dk[a]! dk[y]! = false; rw [← HG.out, ← HG.out, hL]⟩
              have HW5 := Aside0.mk (SW.drewN HW4.out nq)
              obtain ⟨w5, hww⟩ : ∃ W, wr.drewN nq = W := ⟨_, rfl⟩
              rw [hww] at HW5 ⊢
              clear hww v0 v1
              go_meet
              case rel => exact ⟨y, rfl, hy, hiy, ⟨by rw [← HSD.out, scanDown_end (fun x => ltInt dk[a]! x) dk i2 y (Or.inr HL.out)]⟩, HW5⟩
          · have c1 : decide ((i2 : Int) ≤ (y : Int)) = false := decide_eq_false (by omega)
            have c2 : ¬ (i2 : Int) ≤ (y : Int) := by omega
            go_wp2_with (fail)
            go_big_quiet (fail)
            go_wp2_with (fail)
            have HW5 := Aside0.mk (SW.drewN HW4.out nq)
            obtain ⟨w5, hww⟩ : ∃ W, wr.drewN nq = W := ⟨_, rfl⟩
            rw [hww] at HW5 ⊢
            clear hww
            go_meet
            case rel => exact ⟨y, rfl, hy, hiy, ⟨by rw [← HSD.out, scanDown_end (fun x => ltInt dk[a]! x) dk i2 y (Or.inl hle)]⟩, HW5⟩
      case rest =>
      clear HW3
      obtain ⟨j2, rfl, hj2, hij2, HJ2, HW5⟩ := hcut
      obtain ⟨w5, hw5⟩ : ∃ W, wc = W := ⟨_, rfl⟩
      rw [hw5] at HW5 ⊢
      clear hw5
      by_cases hij : j2 < i2
      · have g1 : decide ((i2 : Int) > (j2 : Int)) = true := decide_eq_true (by omega)
        have g2 : (j2 : Int) < (i2 : Int) := by omega
        have HB := Aside0.mk (partEq_break ltInt a i j dk HI2.out HJ2.out hij)
        go_wp2
        go_ret
        refine ⟨?_, ?_⟩
        · rw [HF.out, ← HE.out, HB.out]; try rfl
        · rw [HF.out, ← HE.out, HB.out]; exact HW5.out
      · have g1 : decide ((i2 : Int) > (j2 : Int)) = false := decide_eq_false (by omega)
        have g2 : ¬ (j2 : Int) < (i2 : Int) := by omega
        have HB := Aside0.mk (partEq_go ltInt a i j dk HI2.out HJ2.out (by omega))
        have hlt := scans_lt ltInt a i j dk (by omega) HI2.out HJ2.out (by omega)
        have hs0 : dk.size = d0.size := by rw [HK.out, ← HN.out]; exact HS.out
        have hcw := SU.cells HW5.out HR.out hs0 (n := n) (by rw [← hs0]; exact HK.out.symm) G HG.out
        have hfw := SU.free HW5.out HR.out hs0 (n := n) (by rw [← hs0]; exact HK.out.symm)
        have v0 := hcw (i2) (by omega)
        have f0 := hfw (i2) (by omega)
        have v1 := hcw (j2) (by omega)
        have f1 := hfw (j2) (by omega)
        clear hs0 hcw hfw
        have HX := Aside0.mk (SU.exch HW5.out HR.out.hblk i2 j2 (by rw [HK.out]; omega) (by rw [HK.out]; omega))
        go_wp2_with (fail)
        go_big_region
        rw [HG.out i2, HG.out j2]
        obtain ⟨w6, hw6⟩ : ∃ W, ((w5.setCell ⟨bk, i2, none⟩ (.int .u64 dk[j2]!)).setCell ⟨bk, j2, none⟩ (.int .u64 dk[i2]!)).drew = W := ⟨_, rfl⟩
        have HX6 : Aside0 (SU w0 bk (swp dk i2 j2) w6) := ⟨hw6 ▸ SW.drew HX.out⟩
        rw [hw6]
        clear hw6 HX v0 v1 f0 f1
        obtain ⟨jp, rfl⟩ : ∃ q, j2 = q + 1 := ⟨j2 - 1, by omega⟩
        go_wp2
        go_roundg (ko - 1)
        case measure => have := HKO.out; omega
        case rel => exact ⟨i2 + 1, jp, _, by first | rfl | (congr 1; go_num), by first | rfl | (congr 1; go_num), by omega, by omega, by omega, by have := HKO.out; omega, ⟨by rw [size_swp]; exact HK.out⟩, HX6, ⟨by rw [← HE.out, HB.out]; rfl⟩⟩
end Go.Proofs.YtplhihakeodadaaDoor.Sg
namespace Go.Proofs.YtplhihakeodadaaDoor.Sg
open Go Go.Sort Go.RowKit Go.Proofs Go.Proofs.YtplhihakeodadaaDoorW.PrintWords Go.Proofs.YtplhihakeodadaaDoorW.PrintLast Go.Proofs.YtplhihakeodadaaDoorW.PrintMore
set_option linter.unusedVariables false
set_option linter.unusedSimpArgs false
set_option maxHeartbeats 16000000 in
set_option maxRecDepth 100000 in
theorem part_T (w0 : World) (bk c a b p : Nat) (d0 d : Array Int) (w : World) (R : RU w0 bk d0) (hs : d.size = d0.size) (h : SU w0 bk d w) (hap : a ≤ p) (hpb : p < b) (hb : b ≤ d.size) (hl : d.size ≤ 1000000000) :
    Calls Tryd.prog 93 #[.slice (some ⟨bk, 0, none⟩) d.size c, .int .i64 (a : Int), .int .i64 (b : Int), .int .i64 (p : Int)] w fun e w' => e = .returned (.tuple #[.int .i64 ((Sort.partition ltInt d a b p).1 : Int), .bool (Sort.partition ltInt d a b p).2.1]) ∧ SU w0 bk (Sort.partition ltInt d a b p).2.2 w' := by
  have HR := Aside0.mk R
  have HW := Aside0.mk h
  have HS := Aside0.mk hs
  obtain ⟨n, hn⟩ : ∃ n, d.size = n := ⟨_, rfl⟩
  have HN := Aside0.mk hn
  rw [hn] at hb hl ⊢
  obtain ⟨f, hf⟩ : ∃ f, Sort.partition ltInt d a b p = f := ⟨_, rfl⟩
  rw [hf]
  have HF := Aside0.mk hf
  clear R h hs hn hf
  go_enter Tryd.func93, Tryd.ntmps93
  by_cases hp : a = p
  · subst hp
    have HK := HN
    obtain ⟨G, hG⟩ : ∃ G : Nat → Int, ∀ t, G t = d[t]! := ⟨fun t => d[t]!, fun _ => rfl⟩
    have HG := Aside0.mk hG
    clear hG
    have hs0 : d.size = d0.size := by rw [HK.out, ← HN.out]; exact HS.out
    have hcw := SU.cells HW.out HR.out hs0 (n := n) (by rw [← hs0]; exact HK.out.symm) G HG.out
    have hfw := SU.free HW.out HR.out hs0 (n := n) (by rw [← hs0]; exact HK.out.symm)
    have v0 := hcw (a) (by omega)
    have f0 := hfw (a) (by omega)
    clear hs0 hcw hfw
    have HX := Aside0.mk (SU.exch HW.out HR.out.hblk a a (by rw [HK.out]; omega) (by rw [HK.out]; omega))
    go_wp2_with (fail)
    go_big_region
    rw [HG.out a]
    obtain ⟨w1, hw6⟩ : ∃ W, ((w.setCell ⟨bk, a, none⟩ (.int .u64 d[a]!)).setCell ⟨bk, a, none⟩ (.int .u64 d[a]!)).drew = W := ⟨_, rfl⟩
    have HX1 : Aside0 (SU w0 bk (swp d a a) w1) := ⟨hw6 ▸ SW.drew HX.out⟩
    rw [hw6]
    clear hw6 HX v0 f0
    obtain ⟨dk, hdk⟩ : ∃ D, D = swp d a a := ⟨_, rfl⟩
    obtain ⟨i, hi⟩ : ∃ i, i = a + 1 := ⟨_, rfl⟩
    obtain ⟨j, hj⟩ : ∃ j, j = b - 1 := ⟨_, rfl⟩
    have HDK := Aside0.mk hdk
    have HI := Aside0.mk hi
    have HJ := Aside0.mk hj
    rw [← hdk] at HX1
    clear HK HW HG
    have HK : Aside0 (dk.size = n) := ⟨by rw [hdk, size_swp]; exact HN.out⟩
    have HW := HX1
    clear HX1
    obtain ⟨G, hG⟩ : ∃ G : Nat → Int, ∀ t, G t = dk[t]! := ⟨fun t => dk[t]!, fun _ => rfl⟩
    have HG := Aside0.mk hG
    have hai : a < i := by omega
    have hij1 : i ≤ j + 1 := by omega
    have hjb : j < b := by omega
    have ei : (a : Int) + 1 = (i : Int) := by omega
    have ej : (b : Int) - 1 = (j : Int) := by omega
    clear hG hdk hi hj
    go_upto_block 0 with fail
    try rw [ei]
    try rw [ej]
    clear ei ej
    go_upto_block 0 with fail
    go_cut [10] (fun v10 wx => ∃ i2 : Nat, v10 = .int .i64 (i2 : Int) ∧ i ≤ i2 ∧ i2 ≤ j + 1 ∧ Aside0 (i2 = scanUp (fun x => ltInt x dk[a]!) dk j i) ∧ Aside0 (SU w0 bk dk wx))
    case first =>
      go_wp2_with (fail)
      go_loopg [10] (j + 1) (fun kq v10 w' => ∃ (x : Nat), v10 = .int .i64 (x : Int) ∧ i ≤ x ∧ x ≤ j + 1 ∧ j + 1 ≤ kq + x ∧ Aside0 (SU w0 bk dk w') ∧ Aside0 (scanUp (fun x => ltInt x dk[a]!) dk j x = scanUp (fun x => ltInt x dk[a]!) dk j i))
      case atStart => exact ⟨i, rfl, Nat.le_refl _, hij1, by omega, HW, ⟨rfl⟩⟩
      case round =>
        clear HW
        obtain ⟨x, rfl, hx, hxj, hxk, HW2, HSU⟩ := hrel
        by_cases hle : x ≤ j
        · have c1 : decide ((x : Int) ≤ (j : Int)) = true := decide_eq_true (by omega)
          have c2 : (x : Int) ≤ (j : Int) := by omega
          have hs0 : dk.size = d0.size := by rw [HK.out, ← HN.out]; exact HS.out
          have hcw := SU.cells HW2.out HR.out hs0 (n := n) (by rw [← hs0]; exact HK.out.symm) G HG.out
          have hfw := SU.free HW2.out HR.out hs0 (n := n) (by rw [← hs0]; exact HK.out.symm)
          have v0 := hcw (a) (by omega)
          have v1 := hcw (x) (by omega)
          clear hs0 hcw hfw
          go_wp2_with (fail)
          go_big_quiet (first | (go_at_call 91; refine Calls.quiet_of_same (Less_T _ _ _)))
          go_wp2_with (fail)
          · have hL : ltInt (G x) (G a) = true := by first | assumption | (simp only [Bool.not_eq_true', Bool.not_eq_false'] at *; simp [*])
            have HL : Aside0 ((fun x => ltInt x dk[a]!) dk[x]! = true) := ⟨by show ltInt dk[x]! dk[a]! = true; rw [← HG.out, ← HG.out, hL]⟩
            have HW3 := Aside0.mk (SW.drewN HW2.out nq)
            obtain ⟨w3, hww⟩ : ∃ W, wr.drewN nq = W := ⟨_, rfl⟩
            rw [hww] at HW3 ⊢
            clear hww v0 v1
            go_roundg (gk - 1)
            case measure => omega
            case rel => exact ⟨x + 1, by first | rfl | (congr 1; go_num), by omega, by omega, by omega, HW3, ⟨by rw [← HSU.out, scanUp_go (fun x => ltInt x dk[a]!) dk j x hle HL.out]⟩⟩
          · have hL : ltInt (G x) (G a) = false := by first | assumption | (simp only [Bool.not_eq_true', Bool.not_eq_false'] at *; simp [*])
            have HL : Aside0 ((fun x => ltInt x dk[a]!) dk[x]! = false) := ⟨by show ltInt dk[x]! dk[a]! = false; rw [← HG.out, ← HG.out, hL]⟩
            have HW3 := Aside0.mk (SW.drewN HW2.out nq)
            obtain ⟨w3, hww⟩ : ∃ W, wr.drewN nq = W := ⟨_, rfl⟩
            rw [hww] at HW3 ⊢
            clear hww v0 v1
            go_meet
            case rel => exact ⟨x, rfl, hx, hxj, ⟨by rw [← HSU.out, scanUp_end (fun x => ltInt x dk[a]!) dk j x (Or.inr HL.out)]⟩, HW3⟩
        · have c1 : decide ((x : Int) ≤ (j : Int)) = false := decide_eq_false (by omega)
          have c2 : ¬ (x : Int) ≤ (j : Int) := by omega
          go_wp2_with (fail)
          go_big_quiet (fail)
          go_wp2_with (fail)
          have HW3 := Aside0.mk (SW.drewN HW2.out nq)
          obtain ⟨w3, hww⟩ : ∃ W, wr.drewN nq = W := ⟨_, rfl⟩
          rw [hww] at HW3 ⊢
          clear hww
          go_meet
          case rel => exact ⟨x, rfl, hx, hxj, ⟨by rw [← HSU.out, scanUp_end (fun x => ltInt x dk[a]!) dk j x (Or.inl hle)]⟩, HW3⟩
    case rest =>
    clear HW
    obtain ⟨i2, rfl, hi2, hi2j, HI2, HW3⟩ := hcut
    obtain ⟨w3, hw3⟩ : ∃ W, wc = W := ⟨_, rfl⟩
    rw [hw3] at HW3 ⊢
    clear hw3
    go_upto_block 2 with fail
    go_cut [11] (fun v11 wx => ∃ j2 : Nat, v11 = .int .i64 (j2 : Int) ∧ j2 ≤ j ∧ i2 ≤ j2 + 1 ∧ Aside0 (j2 = scanDown (fun x => !ltInt x dk[a]!) dk i2 j) ∧ Aside0 (SU w0 bk dk wx))
    case first =>
      go_wp2_with (fail)
      go_loopg [11] (j + 1) (fun kq v11 w' => ∃ (y : Nat), v11 = .int .i64 (y : Int) ∧ y ≤ j ∧ y + 1 ≤ kq ∧ i2 ≤ y + 1 ∧ Aside0 (SU w0 bk dk w') ∧ Aside0 (scanDown (fun x => !ltInt x dk[a]!) dk i2 y = scanDown (fun x => !ltInt x dk[a]!) dk i2 j))
      case atStart => exact ⟨j, rfl, Nat.le_refl _, Nat.le_refl _, by omega, HW3, ⟨rfl⟩⟩
      case round =>
        clear HW3
        obtain ⟨y, rfl, hy, hyk, hiy, HW4, HSD⟩ := hrel
        by_cases hle : i2 ≤ y
        · have c1 : decide ((i2 : Int) ≤ (y : Int)) = true := decide_eq_true (by omega)
          have c2 : (i2 : Int) ≤ (y : Int) := by omega
          have hs0 : dk.size = d0.size := by rw [HK.out, ← HN.out]; exact HS.out
          have hcw := SU.cells HW4.out HR.out hs0 (n := n) (by rw [← hs0]; exact HK.out.symm) G HG.out
          have hfw := SU.free HW4.out HR.out hs0 (n := n) (by rw [← hs0]; exact HK.out.symm)
          have v0 := hcw (a) (by omega)
          have v1 := hcw (y) (by omega)
          clear hs0 hcw hfw
          go_wp2_with (fail)
          go_big_quiet (first | (go_at_call 91; refine Calls.quiet_of_same (Less_T _ _ _)))
          go_wp2_with (fail)
          · have hL : (!ltInt (G y) (G a)) = true := by first | assumption | (simp only [Bool.not_eq_true', Bool.not_eq_false'] at *; simp [*])
            have HL : Aside0 ((fun x => !ltInt x dk[a]!) dk[y]! = true) := ⟨by show (!ltInt dk[y]! dk[a]!) = true; rw [← HG.out, ← HG.out, hL]⟩
            have HW5 := Aside0.mk (SW.drewN HW4.out nq)
            obtain ⟨w5, hww⟩ : ∃ W, wr.drewN nq = W := ⟨_, rfl⟩
            rw [hww] at HW5 ⊢
            clear hww v0 v1
            obtain ⟨yp, rfl⟩ : ∃ q, y = q + 1 := ⟨y - 1, by omega⟩
            go_roundg (gk - 1)
            case measure => omega
            case rel => exact ⟨yp, by first | rfl | (congr 1; go_num), by omega, by omega, by omega, HW5, ⟨by rw [← HSD.out, scanDown_go (fun x => !ltInt x dk[a]!) dk i2 _ hle (by omega) HL.out]; rfl⟩⟩
          · have hL : (!ltInt (G y) (G a)) = false := by first | assumption | (simp only [Bool.not_eq_true', Bool.not_eq_false'] at *; simp [*])
            have HL : Aside0 ((fun x => !ltInt x dk[a]!) dk[y]! = false) := ⟨by show (!ltInt dk[y]! dk[a]!) = false; rw [← HG.out, ← HG.out, hL]⟩
            have HW5 := Aside0.mk (SW.drewN HW4.out nq)
            obtain ⟨w5, hww⟩ : ∃ W, wr.drewN nq = W := ⟨_, rfl⟩
            rw [hww] at HW5 ⊢
            clear hww v0 v1
            go_meet
            case rel => exact ⟨y, rfl, hy, hiy, ⟨by rw [← HSD.out, scanDown_end (fun x => !ltInt x dk[a]!) dk i2 y (Or.inr HL.out)]⟩, HW5⟩
        · have c1 : decide ((i2 : Int) ≤ (y : Int)) = false := decide_eq_false (by omega)
          have c2 : ¬ (i2 : Int) ≤ (y : Int) := by omega
          go_wp2_with (fail)
          go_big_quiet (fail)
          go_wp2_with (fail)
          have HW5 := Aside0.mk (SW.drewN HW4.out nq)
          obtain ⟨w5, hww⟩ : ∃ W, wr.drewN nq = W := ⟨_, rfl⟩
          rw [hww] at HW5 ⊢
          clear hww
          go_meet
          case rel => exact ⟨y, rfl, hy, hiy, ⟨by rw [← HSD.out, scanDown_end (fun x => !ltInt x dk[a]!) dk i2 y (Or.inl hle)]⟩, HW5⟩
    case rest =>
    clear HW3
    obtain ⟨j2, rfl, hj2, hij2, HJ2, HW5⟩ := hcut
    obtain ⟨w5, hw5⟩ : ∃ W, wc = W := ⟨_, rfl⟩
    rw [hw5] at HW5 ⊢
    clear hw5
    by_cases hij : j2 < i2
    · have g1 : decide ((i2 : Int) > (j2 : Int)) = true := decide_eq_true (by omega)
      have g2 : (j2 : Int) < (i2 : Int) := by omega
      have HB := Aside0.mk (HF.out.symm.trans (part_first_break ltInt d a b a HI.out HJ.out HDK.out HI2.out HJ2.out hij))
      by_cases hja : j2 = a
      · subst hja
        have hs0 : dk.size = d0.size := by rw [HK.out, ← HN.out]; exact HS.out
        have hcw := SU.cells HW5.out HR.out hs0 (n := n) (by rw [← hs0]; exact HK.out.symm) G HG.out
        have hfw := SU.free HW5.out HR.out hs0 (n := n) (by rw [← hs0]; exact HK.out.symm)
        have v0 := hcw (j2) (by omega)
        have f0 := hfw (j2) (by omega)
        clear hs0 hcw hfw
        have HX := Aside0.mk (SU.exch HW5.out HR.out.hblk j2 j2 (by rw [HK.out]; omega) (by rw [HK.out]; omega))
        go_wp2_with (fail)
        go_big_region
        rw [HG.out j2]
        obtain ⟨w6, hw6⟩ : ∃ W, ((w5.setCell ⟨bk, j2, none⟩ (.int .u64 dk[j2]!)).setCell ⟨bk, j2, none⟩ (.int .u64 dk[j2]!)).drew = W := ⟨_, rfl⟩
        have HX6 : Aside0 (SU w0 bk (swp dk j2 j2) w6) := ⟨hw6 ▸ SW.drew HX.out⟩
        rw [hw6]
        clear hw6 HX v0 f0
        go_wp2
        go_ret2
        refine ⟨?_, ?_⟩
        · rw [HB.out]; try rfl
        · rw [HB.out]; exact HX6.out
      · have hja2 : a < j2 := by omega
        have hs0 : dk.size = d0.size := by rw [HK.out, ← HN.out]; exact HS.out
        have hcw := SU.cells HW5.out HR.out hs0 (n := n) (by rw [← hs0]; exact HK.out.symm) G HG.out
        have hfw := SU.free HW5.out HR.out hs0 (n := n) (by rw [← hs0]; exact HK.out.symm)
        have v0 := hcw (j2) (by omega)
        have f0 := hfw (j2) (by omega)
        have v1 := hcw (a) (by omega)
        have f1 := hfw (a) (by omega)
        clear hs0 hcw hfw
        have HX := Aside0.mk (SU.exch HW5.out HR.out.hblk j2 a (by rw [HK.out]; omega) (by rw [HK.out]; omega))
        go_wp2_with (fail)
        go_big_region
        rw [HG.out j2, HG.out a]
        obtain ⟨w6, hw6⟩ : ∃ W, ((w5.setCell ⟨bk, j2, none⟩ (.int .u64 dk[a]!)).setCell ⟨bk, a, none⟩ (.int .u64 dk[j2]!)).drew = W := ⟨_, rfl⟩
        have HX6 : Aside0 (SU w0 bk (swp dk j2 a) w6) := ⟨hw6 ▸ SW.drew HX.out⟩
        rw [hw6]
        clear hw6 HX v0 v1 f0 f1
        go_wp2
        go_ret2
        refine ⟨?_, ?_⟩
        · rw [HB.out]; try rfl
        · rw [HB.out]; exact HX6.out
    · have g1 : decide ((i2 : Int) > (j2 : Int)) = false := decide_eq_false (by omega)
      have g2 : ¬ (j2 : Int) < (i2 : Int) := by omega
      have hlt := part_scans_lt ltInt a i j dk (by omega) HI2.out HJ2.out (by omega)
      have HP0 := Aside0.mk (HF.out.symm.trans (part_first_go ltInt d a b a HI.out HJ.out HDK.out HI2.out HJ2.out (by omega)))
      have hs0 : dk.size = d0.size := by rw [HK.out, ← HN.out]; exact HS.out
      have hcw := SU.cells HW5.out HR.out hs0 (n := n) (by rw [← hs0]; exact HK.out.symm) G HG.out
      have hfw := SU.free HW5.out HR.out hs0 (n := n) (by rw [← hs0]; exact HK.out.symm)
      have v0 := hcw (i2) (by omega)
      have f0 := hfw (i2) (by omega)
      have v1 := hcw (j2) (by omega)
      have f1 := hfw (j2) (by omega)
      clear hs0 hcw hfw
      have HX := Aside0.mk (SU.exch HW5.out HR.out.hblk i2 j2 (by rw [HK.out]; omega) (by rw [HK.out]; omega))
      go_wp2_with (fail)
      go_big_region
      rw [HG.out i2, HG.out j2]
      obtain ⟨w6, hw6⟩ : ∃ W, ((w5.setCell ⟨bk, i2, none⟩ (.int .u64 dk[j2]!)).setCell ⟨bk, j2, none⟩ (.int .u64 dk[i2]!)).drew = W := ⟨_, rfl⟩
      have HX6 : Aside0 (SU w0 bk (swp dk i2 j2) w6) := ⟨hw6 ▸ SW.drew HX.out⟩
      rw [hw6]
      clear hw6 HX v0 v1 f0 f1
      obtain ⟨jp, rfl⟩ : ∃ q, j2 = q + 1 := ⟨j2 - 1, by omega⟩
      have HK6 : Aside0 ((swp dk i2 (jp + 1)).size = n) := ⟨by rw [size_swp]; exact HK.out⟩
      have HP1 : Aside0 (f = ((partLoop ltInt a (i2 + 1) jp (swp dk i2 (jp + 1))).1, false, swp (partLoop ltInt a (i2 + 1) jp (swp dk i2 (jp + 1))).2 (partLoop ltInt a (i2 + 1) jp (swp dk i2 (jp + 1))).1 a)) := HP0
      clear HP0
      obtain ⟨D6, hD6⟩ : ∃ D, swp dk i2 (jp + 1) = D := ⟨_, rfl⟩
      rw [hD6] at HX6 HK6 HP1
      clear hD6
      obtain ⟨RR, hRR⟩ : ∃ r, partLoop ltInt a (i2 + 1) jp D6 = r := ⟨_, rfl⟩
      have HP : Aside0 (f = (RR.1, false, swp RR.2 RR.1 a)) := by rw [hRR] at HP1; exact HP1
      have HRR := Aside0.mk hRR
      clear hRR HP1 HI2 HJ2 HK HDK HG HW5 HF
      go_wp2_with (fail)
      go_loopg [10, 11] b (fun kq v10 v11 w' => ∃ (i j : Nat) (dk : Array Int), v10 = .int .i64 (i : Int) ∧ v11 = .int .i64 (j : Int) ∧ a < i ∧ i ≤ j + 1 ∧ j < b ∧ j + 1 ≤ kq + i ∧ Aside0 (dk.size = n) ∧ Aside0 (SU w0 bk dk w') ∧ Aside0 (partLoop ltInt a i j dk = RR))
      case atStart => exact ⟨i2 + 1, jp, D6, by first | rfl | (congr 1; go_num), by first | rfl | (congr 1; go_num), by omega, by omega, by omega, by omega, HK6, HX6, HRR⟩
      case round =>
        clear HRR HK6
        clear HX6
        obtain ⟨i, j, dk, rfl, rfl, hai, hij1, hjb, hjk, HK, HW, HE⟩ := hrel
        obtain ⟨ko, hko⟩ : ∃ k, k = gk := ⟨_, rfl⟩
        have HKO := Aside0.mk hko
        clear hko
        obtain ⟨G, hG⟩ : ∃ G : Nat → Int, ∀ t, G t = dk[t]! := ⟨fun t => dk[t]!, fun _ => rfl⟩
        have HG := Aside0.mk hG
        clear hG
        go_upto_block 6 with fail
        go_cut [10] (fun v10 wx => ∃ i2 : Nat, v10 = .int .i64 (i2 : Int) ∧ i ≤ i2 ∧ i2 ≤ j + 1 ∧ Aside0 (i2 = scanUp (fun x => ltInt x dk[a]!) dk j i) ∧ Aside0 (SU w0 bk dk wx))
        case first =>
          go_wp2_with (fail)
          go_loopg [10] (j + 1) (fun kq v10 w' => ∃ (x : Nat), v10 = .int .i64 (x : Int) ∧ i ≤ x ∧ x ≤ j + 1 ∧ j + 1 ≤ kq + x ∧ Aside0 (SU w0 bk dk w') ∧ Aside0 (scanUp (fun x => ltInt x dk[a]!) dk j x = scanUp (fun x => ltInt x dk[a]!) dk j i))
          case atStart => exact ⟨i, rfl, Nat.le_refl _, hij1, by omega, HW, ⟨rfl⟩⟩
          case round =>
            clear HW
            obtain ⟨x, rfl, hx, hxj, hxk, HW2, HSU⟩ := hrel
            by_cases hle : x ≤ j
            · have c1 : decide ((x : Int) ≤ (j : Int)) = true := decide_eq_true (by omega)
              have c2 : (x : Int) ≤ (j : Int) := by omega
              have hs0 : dk.size = d0.size := by rw [HK.out, ← HN.out]; exact HS.out
              have hcw := SU.cells HW2.out HR.out hs0 (n := n) (by rw [← hs0]; exact HK.out.symm) G HG.out
              have hfw := SU.free HW2.out HR.out hs0 (n := n) (by rw [← hs0]; exact HK.out.symm)
              have v0 := hcw (a) (by omega)
              have v1 := hcw (x) (by omega)
              clear hs0 hcw hfw
              go_wp2_with (fail)
              go_big_quiet (first | (go_at_call 91; refine Calls.quiet_of_same (Less_T _ _ _)))
              go_wp2_with (fail)
              · have hL : ltInt (G x) (G a) = true := by first | assumption | (simp only [Bool.not_eq_true', Bool.not_eq_false'] at *; simp [*])
                have HL : Aside0 ((fun x => ltInt x dk[a]!) dk[x]! = true) := ⟨by show ltInt dk[x]! dk[a]! = true; rw [← HG.out, ← HG.out, hL]⟩
                have HW3 := Aside0.mk (SW.drewN HW2.out nq)
                obtain ⟨w3, hww⟩ : ∃ W, wr.drewN nq = W := ⟨_, rfl⟩
                rw [hww] at HW3 ⊢
                clear hww v0 v1
                go_roundg (gk - 1)
                case measure => omega
                case rel => exact ⟨x + 1, by first | rfl | (congr 1; go_num), by omega, by omega, by omega, HW3, ⟨by rw [← HSU.out, scanUp_go (fun x => ltInt x dk[a]!) dk j x hle HL.out]⟩⟩
              · have hL : ltInt (G x) (G a) = false := by first | assumption | (simp only [Bool.not_eq_true', Bool.not_eq_false'] at *; simp [*])
                have HL : Aside0 ((fun x => ltInt x dk[a]!) dk[x]! = false) := ⟨by show ltInt dk[x]! dk[a]! = false; rw [← HG.out, ← HG.out, hL]⟩
                have HW3 := Aside0.mk (SW.drewN HW2.out nq)
                obtain ⟨w3, hww⟩ : ∃ W, wr.drewN nq = W := ⟨_, rfl⟩
                rw [hww] at HW3 ⊢
                clear hww v0 v1
                go_meet
                case rel => exact ⟨x, rfl, hx, hxj, ⟨by rw [← HSU.out, scanUp_end (fun x => ltInt x dk[a]!) dk j x (Or.inr HL.out)]⟩, HW3⟩
            · have c1 : decide ((x : Int) ≤ (j : Int)) = false := decide_eq_false (by omega)
              have c2 : ¬ (x : Int) ≤ (j : Int) := by omega
              go_wp2_with (fail)
              go_big_quiet (fail)
              go_wp2_with (fail)
              have HW3 := Aside0.mk (SW.drewN HW2.out nq)
              obtain ⟨w3, hww⟩ : ∃ W, wr.drewN nq = W := ⟨_, rfl⟩
              rw [hww] at HW3 ⊢
              clear hww
              go_meet
              case rel => exact ⟨x, rfl, hx, hxj, ⟨by rw [← HSU.out, scanUp_end (fun x => ltInt x dk[a]!) dk j x (Or.inl hle)]⟩, HW3⟩
        case rest =>
        clear HW
        obtain ⟨i2, rfl, hi2, hi2j, HI2, HW3⟩ := hcut
        obtain ⟨w3, hw3⟩ : ∃ W, wc = W := ⟨_, rfl⟩
        rw [hw3] at HW3 ⊢
        clear hw3
        go_upto_block 8 with fail
        go_cut [11] (fun v11 wx => ∃ j2 : Nat, v11 = .int .i64 (j2 : Int) ∧ j2 ≤ j ∧ i2 ≤ j2 + 1 ∧ Aside0 (j2 = scanDown (fun x => !ltInt x dk[a]!) dk i2 j) ∧ Aside0 (SU w0 bk dk wx))
        case first =>
          go_wp2_with (fail)
          go_loopg [11] (j + 1) (fun kq v11 w' => ∃ (y : Nat), v11 = .int .i64 (y : Int) ∧ y ≤ j ∧ y + 1 ≤ kq ∧ i2 ≤ y + 1 ∧ Aside0 (SU w0 bk dk w') ∧ Aside0 (scanDown (fun x => !ltInt x dk[a]!) dk i2 y = scanDown (fun x => !ltInt x dk[a]!) dk i2 j))
          case atStart => exact ⟨j, rfl, Nat.le_refl _, Nat.le_refl _, by omega, HW3, ⟨rfl⟩⟩
          case round =>
            clear HW3
            obtain ⟨y, rfl, hy, hyk, hiy, HW4, HSD⟩ := hrel
            by_cases hle : i2 ≤ y
            · have c1 : decide ((i2 : Int) ≤ (y : Int)) = true := decide_eq_true (by omega)
              have c2 : (i2 : Int) ≤ (y : Int) := by omega
              have hs0 : dk.size = d0.size := by rw [HK.out, ← HN.out]; exact HS.out
              have hcw := SU.cells HW4.out HR.out hs0 (n := n) (by rw [← hs0]; exact HK.out.symm) G HG.out
              have hfw := SU.free HW4.out HR.out hs0 (n := n) (by rw [← hs0]; exact HK.out.symm)
              have v0 := hcw (a) (by omega)
              have v1 := hcw (y) (by omega)
              clear hs0 hcw hfw
              go_wp2_with (fail)
              go_big_quiet (first | (go_at_call 91; refine Calls.quiet_of_same (Less_T _ _ _)))
              go_wp2_with (fail)
              · have hL : (!ltInt (G y) (G a)) = true := by first | assumption | (simp only [Bool.not_eq_true', Bool.not_eq_false'] at *; simp [*])
                have HL : Aside0 ((fun x => !ltInt x dk[a]!) dk[y]! = true) := ⟨by show (!ltInt dk[y]! dk[a]!) = true; rw [← HG.out, ← HG.out, hL]⟩
                have HW5 := Aside0.mk (SW.drewN HW4.out nq)
                obtain ⟨w5, hww⟩ : ∃ W, wr.drewN nq = W := ⟨_, rfl⟩
                rw [hww] at HW5 ⊢
                clear hww v0 v1
                obtain ⟨yp, rfl⟩ : ∃ q, y = q + 1 := ⟨y - 1, by omega⟩
                go_roundg (gk - 1)
                case measure => omega
                case rel => exact ⟨yp, by first | rfl | (congr 1; go_num), by omega, by omega, by omega, HW5, ⟨by rw [← HSD.out, scanDown_go (fun x => !ltInt x dk[a]!) dk i2 _ hle (by omega) HL.out]; rfl⟩⟩
              · have hL : (!ltInt (G y) (G a)) = false := by first | assumption | (simp only [Bool.not_eq_true', Bool.not_eq_false'] at *; simp [*])
                have HL : Aside0 ((fun x => !ltInt x dk[a]!) dk[y]! = false) := ⟨by show (!ltInt dk[y]! dk[a]!) = false; rw [← HG.out, ← HG.out, hL]⟩
                have HW5 := Aside0.mk (SW.drewN HW4.out nq)
                obtain ⟨w5, hww⟩ : ∃ W, wr.drewN nq = W := ⟨_, rfl⟩
                rw [hww] at HW5 ⊢
                clear hww v0 v1
                go_meet
                case rel => exact ⟨y, rfl, hy, hiy, ⟨by rw [← HSD.out, scanDown_end (fun x => !ltInt x dk[a]!) dk i2 y (Or.inr HL.out)]⟩, HW5⟩
            · have c1 : decide ((i2 : Int) ≤ (y : Int)) = false := decide_eq_false (by omega)
              have c2 : ¬ (i2 : Int) ≤ (y : Int) := by omega
              go_wp2_with (fail)
              go_big_quiet (fail)
              go_wp2_with (fail)
              have HW5 := Aside0.mk (SW.drewN HW4.out nq)
              obtain ⟨w5, hww⟩ : ∃ W, wr.drewN nq = W := ⟨_, rfl⟩
              rw [hww] at HW5 ⊢
              clear hww
              go_meet
              case rel => exact ⟨y, rfl, hy, hiy, ⟨by rw [← HSD.out, scanDown_end (fun x => !ltInt x dk[a]!) dk i2 y (Or.inl hle)]⟩, HW5⟩
        case rest =>
        clear HW3
        obtain ⟨j2, rfl, hj2, hij2, HJ2, HW5⟩ := hcut
        obtain ⟨w5, hw5⟩ : ∃ W, wc = W := ⟨_, rfl⟩
        rw [hw5] at HW5 ⊢
        clear hw5
        by_cases hij : j2 < i2
        · have g1 : decide ((i2 : Int) > (j2 : Int)) = true := decide_eq_true (by omega)
          have g2 : (j2 : Int) < (i2 : Int) := by omega
          have HB : Aside0 (f = (j2, false, swp dk j2 a)) := ⟨by rw [HP.out, ← HE.out, part_break ltInt a i j dk HI2.out HJ2.out hij]⟩
          by_cases hja : j2 = a
          · subst hja
            have hs0 : dk.size = d0.size := by rw [HK.out, ← HN.out]; exact HS.out
            have hcw := SU.cells HW5.out HR.out hs0 (n := n) (by rw [← hs0]; exact HK.out.symm) G HG.out
            have hfw := SU.free HW5.out HR.out hs0 (n := n) (by rw [← hs0]; exact HK.out.symm)
            have v0 := hcw (j2) (by omega)
            have f0 := hfw (j2) (by omega)
            clear hs0 hcw hfw
            have HX := Aside0.mk (SU.exch HW5.out HR.out.hblk j2 j2 (by rw [HK.out]; omega) (by rw [HK.out]; omega))
            go_wp2_with (fail)
            go_big_region
            rw [HG.out j2]
            obtain ⟨w6, hw6⟩ : ∃ W, ((w5.setCell ⟨bk, j2, none⟩ (.int .u64 dk[j2]!)).setCell ⟨bk, j2, none⟩ (.int .u64 dk[j2]!)).drew = W := ⟨_, rfl⟩
            have HX6 : Aside0 (SU w0 bk (swp dk j2 j2) w6) := ⟨hw6 ▸ SW.drew HX.out⟩
            rw [hw6]
            clear hw6 HX v0 f0
            go_wp2
            go_ret2
            refine ⟨?_, ?_⟩
            · rw [HB.out]; try rfl
            · rw [HB.out]; exact HX6.out
          · have hja2 : a < j2 := by omega
            have hs0 : dk.size = d0.size := by rw [HK.out, ← HN.out]; exact HS.out
            have hcw := SU.cells HW5.out HR.out hs0 (n := n) (by rw [← hs0]; exact HK.out.symm) G HG.out
            have hfw := SU.free HW5.out HR.out hs0 (n := n) (by rw [← hs0]; exact HK.out.symm)
            have v0 := hcw (j2) (by omega)
            have f0 := hfw (j2) (by omega)
            have v1 := hcw (a) (by omega)
            have f1 := hfw (a) (by omega)
            clear hs0 hcw hfw
            have HX := Aside0.mk (SU.exch HW5.out HR.out.hblk j2 a (by rw [HK.out]; omega) (by rw [HK.out]; omega))
            go_wp2_with (fail)
            go_big_region
            rw [HG.out j2, HG.out a]
            obtain ⟨w6, hw6⟩ : ∃ W, ((w5.setCell ⟨bk, j2, none⟩ (.int .u64 dk[a]!)).setCell ⟨bk, a, none⟩ (.int .u64 dk[j2]!)).drew = W := ⟨_, rfl⟩
            have HX6 : Aside0 (SU w0 bk (swp dk j2 a) w6) := ⟨hw6 ▸ SW.drew HX.out⟩
            rw [hw6]
            clear hw6 HX v0 v1 f0 f1
            go_wp2
            go_ret2
            refine ⟨?_, ?_⟩
            · rw [HB.out]; try rfl
            · rw [HB.out]; exact HX6.out
        · have g1 : decide ((i2 : Int) > (j2 : Int)) = false := decide_eq_false (by omega)
          have g2 : ¬ (j2 : Int) < (i2 : Int) := by omega
          have HQ := Aside0.mk (part_go ltInt a i j dk HI2.out HJ2.out (by omega))
          have hlt := part_scans_lt ltInt a i j dk (by omega) HI2.out HJ2.out (by omega)
          have hs0 : dk.size = d0.size := by rw [HK.out, ← HN.out]; exact HS.out
          have hcw := SU.cells HW5.out HR.out hs0 (n := n) (by rw [← hs0]; exact HK.out.symm) G HG.out
          have hfw := SU.free HW5.out HR.out hs0 (n := n) (by rw [← hs0]; exact HK.out.symm)
          have v0 := hcw (i2) (by omega)
          have f0 := hfw (i2) (by omega)
          have v1 := hcw (j2) (by omega)
          have f1 := hfw (j2) (by omega)
          clear hs0 hcw hfw
          have HX := Aside0.mk (SU.exch HW5.out HR.out.hblk i2 j2 (by rw [HK.out]; omega) (by rw [HK.out]; omega))
          go_wp2_with (fail)
          go_big_region
          rw [HG.out i2, HG.out j2]
          obtain ⟨w6, hw6⟩ : ∃ W, ((w5.setCell ⟨bk, i2, none⟩ (.int .u64 dk[j2]!)).setCell ⟨bk, j2, none⟩ (.int .u64 dk[i2]!)).drew = W := ⟨_, rfl⟩
          have HX6 : Aside0 (SU w0 bk (swp dk i2 j2) w6) := ⟨hw6 ▸ SW.drew HX.out⟩
          rw [hw6]
          clear hw6 HX v0 v1 f0 f1
          obtain ⟨jp, rfl⟩ : ∃ q, j2 = q + 1 := ⟨j2 - 1, by omega⟩
          go_wp2
          go_roundg (ko - 1)
          case measure => have := HKO.out; omega
          case rel => exact ⟨i2 + 1, jp, _, by first | rfl | (congr 1; go_num), by first | rfl | (congr 1; go_num), by omega, by omega, by omega, by have := HKO.out; omega, ⟨by rw [size_swp]; exact HK.out⟩, HX6, ⟨by rw [← HE.out, HQ.out]; rfl⟩⟩
  · have hne : a < p := by omega
    have HK := HN
    obtain ⟨G, hG⟩ : ∃ G : Nat → Int, ∀ t, G t = d[t]! := ⟨fun t => d[t]!, fun _ => rfl⟩
    have HG := Aside0.mk hG
    clear hG
    have hs0 : d.size = d0.size := by rw [HK.out, ← HN.out]; exact HS.out
    have hcw := SU.cells HW.out HR.out hs0 (n := n) (by rw [← hs0]; exact HK.out.symm) G HG.out
    have hfw := SU.free HW.out HR.out hs0 (n := n) (by rw [← hs0]; exact HK.out.symm)
    have v0 := hcw (a) (by omega)
    have f0 := hfw (a) (by omega)
    have v1 := hcw (p) (by omega)
    have f1 := hfw (p) (by omega)
    clear hs0 hcw hfw
    have HX := Aside0.mk (SU.exch HW.out HR.out.hblk a p (by rw [HK.out]; omega) (by rw [HK.out]; omega))
    go_wp2_with (fail)
    go_big_region
    rw [HG.out a, HG.out p]
    obtain ⟨w1, hw6⟩ : ∃ W, ((w.setCell ⟨bk, a, none⟩ (.int .u64 d[p]!)).setCell ⟨bk, p, none⟩ (.int .u64 d[a]!)).drew = W := ⟨_, rfl⟩
    have HX1 : Aside0 (SU w0 bk (swp d a p) w1) := ⟨hw6 ▸ SW.drew HX.out⟩
    rw [hw6]
    clear hw6 HX v0 v1 f0 f1
    obtain ⟨dk, hdk⟩ : ∃ D, D = swp d a p := ⟨_, rfl⟩
    obtain ⟨i, hi⟩ : ∃ i, i = a + 1 := ⟨_, rfl⟩
    obtain ⟨j, hj⟩ : ∃ j, j = b - 1 := ⟨_, rfl⟩
    have HDK := Aside0.mk hdk
    have HI := Aside0.mk hi
    have HJ := Aside0.mk hj
    rw [← hdk] at HX1
    clear HK HW HG
    have HK : Aside0 (dk.size = n) := ⟨by rw [hdk, size_swp]; exact HN.out⟩
    have HW := HX1
    clear HX1
    obtain ⟨G, hG⟩ : ∃ G : Nat → Int, ∀ t, G t = dk[t]! := ⟨fun t => dk[t]!, fun _ => rfl⟩
    have HG := Aside0.mk hG
    have hai : a < i := by omega
    have hij1 : i ≤ j + 1 := by omega
    have hjb : j < b := by omega
    have ei : (a : Int) + 1 = (i : Int) := by omega
    have ej : (b : Int) - 1 = (j : Int) := by omega
    clear hG hdk hi hj
    go_upto_block 0 with fail
    try rw [ei]
    try rw [ej]
    clear ei ej
    go_upto_block 0 with fail
    go_cut [10] (fun v10 wx => ∃ i2 : Nat, v10 = .int .i64 (i2 : Int) ∧ i ≤ i2 ∧ i2 ≤ j + 1 ∧ Aside0 (i2 = scanUp (fun x => ltInt x dk[a]!) dk j i) ∧ Aside0 (SU w0 bk dk wx))
    case first =>
      go_wp2_with (fail)
      go_loopg [10] (j + 1) (fun kq v10 w' => ∃ (x : Nat), v10 = .int .i64 (x : Int) ∧ i ≤ x ∧ x ≤ j + 1 ∧ j + 1 ≤ kq + x ∧ Aside0 (SU w0 bk dk w') ∧ Aside0 (scanUp (fun x => ltInt x dk[a]!) dk j x = scanUp (fun x => ltInt x dk[a]!) dk j i))
      case atStart => exact ⟨i, rfl, Nat.le_refl _, hij1, by omega, HW, ⟨rfl⟩⟩
      case round =>
        clear HW
        obtain ⟨x, rfl, hx, hxj, hxk, HW2, HSU⟩ := hrel
        by_cases hle : x ≤ j
        · have c1 : decide ((x : Int) ≤ (j : Int)) = true := decide_eq_true (by omega)
          have c2 : (x : Int) ≤ (j : Int) := by omega
          have hs0 : dk.size = d0.size := by rw [HK.out, ← HN.out]; exact HS.out
          have hcw := SU.cells HW2.out HR.out hs0 (n := n) (by rw [← hs0]; exact HK.out.symm) G HG.out
          have hfw := SU.free HW2.out HR.out hs0 (n := n) (by rw [← hs0]; exact HK.out.symm)
          have v0 := hcw (a) (by omega)
          have v1 := hcw (x) (by omega)
          clear hs0 hcw hfw
          go_wp2_with (fail)
          go_big_quiet (first | (go_at_call 91; refine Calls.quiet_of_same (Less_T _ _ _)))
          go_wp2_with (fail)
          · have hL : ltInt (G x) (G a) = true := by first | assumption | (simp only [Bool.not_eq_true', Bool.not_eq_false'] at *; simp [*])
            have HL : Aside0 ((fun x => ltInt x dk[a]!) dk[x]! = true) := ⟨by show ltInt dk[x]! dk[a]! = true; rw [← HG.out, ← HG.out, hL]⟩
            have HW3 := Aside0.mk (SW.drewN HW2.out nq)
            obtain ⟨w3, hww⟩ : ∃ W, wr.drewN nq = W := ⟨_, rfl⟩
            rw [hww] at HW3 ⊢
            clear hww v0 v1
            go_roundg (gk - 1)
            case measure => omega
            case rel => exact ⟨x + 1, by first | rfl | (congr 1; go_num), by omega, by omega, by omega, HW3, ⟨by rw [← HSU.out, scanUp_go (fun x => ltInt x dk[a]!) dk j x hle HL.out]⟩⟩
          · have hL : ltInt (G x) (G a) = false := by first | assumption | (simp only [Bool.not_eq_true', Bool.not_eq_false'] at *; simp [*])
            have HL : Aside0 ((fun x => ltInt x dk[a]!) dk[x]! = false) := ⟨by show ltInt dk[x]! dk[a]! = false; rw [← HG.out, ← HG.out, hL]⟩
            have HW3 := Aside0.mk (SW.drewN HW2.out nq)
            obtain ⟨w3, hww⟩ : ∃ W, wr.drewN nq = W := ⟨_, rfl⟩
            rw [hww] at HW3 ⊢
            clear hww v0 v1
            go_meet
            case rel => exact ⟨x, rfl, hx, hxj, ⟨by rw [← HSU.out, scanUp_end (fun x => ltInt x dk[a]!) dk j x (Or.inr HL.out)]⟩, HW3⟩
        · have c1 : decide ((x : Int) ≤ (j : Int)) = false := decide_eq_false (by omega)
          have c2 : ¬ (x : Int) ≤ (j : Int) := by omega
          go_wp2_with (fail)
          go_big_quiet (fail)
          go_wp2_with (fail)
          have HW3 := Aside0.mk (SW.drewN HW2.out nq)
          obtain ⟨w3, hww⟩ : ∃ W, wr.drewN nq = W := ⟨_, rfl⟩
          rw [hww] at HW3 ⊢
          clear hww
          go_meet
          case rel => exact ⟨x, rfl, hx, hxj, ⟨by rw [← HSU.out, scanUp_end (fun x => ltInt x dk[a]!) dk j x (Or.inl hle)]⟩, HW3⟩
    case rest =>
    clear HW
    obtain ⟨i2, rfl, hi2, hi2j, HI2, HW3⟩ := hcut
    obtain ⟨w3, hw3⟩ : ∃ W, wc = W := ⟨_, rfl⟩
    rw [hw3] at HW3 ⊢
    clear hw3
    go_upto_block 2 with fail
    go_cut [11] (fun v11 wx => ∃ j2 : Nat, v11 = .int .i64 (j2 : Int) ∧ j2 ≤ j ∧ i2 ≤ j2 + 1 ∧ Aside0 (j2 = scanDown (fun x => !ltInt x dk[a]!) dk i2 j) ∧ Aside0 (SU w0 bk dk wx))
    case first =>
      go_wp2_with (fail)
      go_loopg [11] (j + 1) (fun kq v11 w' => ∃ (y : Nat), v11 = .int .i64 (y : Int) ∧ y ≤ j ∧ y + 1 ≤ kq ∧ i2 ≤ y + 1 ∧ Aside0 (SU w0 bk dk w') ∧ Aside0 (scanDown (fun x => !ltInt x dk[a]!) dk i2 y = scanDown (fun x => !ltInt x dk[a]!) dk i2 j))
      case atStart => exact ⟨j, rfl, Nat.le_refl _, Nat.le_refl _, by omega, HW3, ⟨rfl⟩⟩
      case round =>
        clear HW3
        obtain ⟨y, rfl, hy, hyk, hiy, HW4, HSD⟩ := hrel
        by_cases hle : i2 ≤ y
        · have c1 : decide ((i2 : Int) ≤ (y : Int)) = true := decide_eq_true (by omega)
          have c2 : (i2 : Int) ≤ (y : Int) := by omega
          have hs0 : dk.size = d0.size := by rw [HK.out, ← HN.out]; exact HS.out
          have hcw := SU.cells HW4.out HR.out hs0 (n := n) (by rw [← hs0]; exact HK.out.symm) G HG.out
          have hfw := SU.free HW4.out HR.out hs0 (n := n) (by rw [← hs0]; exact HK.out.symm)
          have v0 := hcw (a) (by omega)
          have v1 := hcw (y) (by omega)
          clear hs0 hcw hfw
          go_wp2_with (fail)
          go_big_quiet (first | (go_at_call 91; refine Calls.quiet_of_same (Less_T _ _ _)))
          go_wp2_with (fail)
          · have hL : (!ltInt (G y) (G a)) = true := by first | assumption | (simp only [Bool.not_eq_true', Bool.not_eq_false'] at *; simp [*])
            have HL : Aside0 ((fun x => !ltInt x dk[a]!) dk[y]! = true) := ⟨by show (!ltInt dk[y]! dk[a]!) = true; rw [← HG.out, ← HG.out, hL]⟩
            have HW5 := Aside0.mk (SW.drewN HW4.out nq)
            obtain ⟨w5, hww⟩ : ∃ W, wr.drewN nq = W := ⟨_, rfl⟩
            rw [hww] at HW5 ⊢
            clear hww v0 v1
            obtain ⟨yp, rfl⟩ : ∃ q, y = q + 1 := ⟨y - 1, by omega⟩
            go_roundg (gk - 1)
            case measure => omega
            case rel => exact ⟨yp, by first | rfl | (congr 1; go_num), by omega, by omega, by omega, HW5, ⟨by rw [← HSD.out, scanDown_go (fun x => !ltInt x dk[a]!) dk i2 _ hle (by omega) HL.out]; rfl⟩⟩
          · have hL : (!ltInt (G y) (G a)) = false := by first | assumption | (simp only [Bool.not_eq_true', Bool.not_eq_false'] at *; simp [*])
            have HL : Aside0 ((fun x => !ltInt x dk[a]!) dk[y]! = false) := ⟨by show (!ltInt dk[y]! dk[a]!) = false; rw [← HG.out, ← HG.out, hL]⟩
            have HW5 := Aside0.mk (SW.drewN HW4.out nq)
            obtain ⟨w5, hww⟩ : ∃ W, wr.drewN nq = W := ⟨_, rfl⟩
            rw [hww] at HW5 ⊢
            clear hww v0 v1
            go_meet
            case rel => exact ⟨y, rfl, hy, hiy, ⟨by rw [← HSD.out, scanDown_end (fun x => !ltInt x dk[a]!) dk i2 y (Or.inr HL.out)]⟩, HW5⟩
        · have c1 : decide ((i2 : Int) ≤ (y : Int)) = false := decide_eq_false (by omega)
          have c2 : ¬ (i2 : Int) ≤ (y : Int) := by omega
          go_wp2_with (fail)
          go_big_quiet (fail)
          go_wp2_with (fail)
          have HW5 := Aside0.mk (SW.drewN HW4.out nq)
          obtain ⟨w5, hww⟩ : ∃ W, wr.drewN nq = W := ⟨_, rfl⟩
          rw [hww] at HW5 ⊢
          clear hww
          go_meet
          case rel => exact ⟨y, rfl, hy, hiy, ⟨by rw [← HSD.out, scanDown_end (fun x => !ltInt x dk[a]!) dk i2 y (Or.inl hle)]⟩, HW5⟩
    case rest =>
    clear HW3
    obtain ⟨j2, rfl, hj2, hij2, HJ2, HW5⟩ := hcut
    obtain ⟨w5, hw5⟩ : ∃ W, wc = W := ⟨_, rfl⟩
    rw [hw5] at HW5 ⊢
    clear hw5
    by_cases hij : j2 < i2
    · have g1 : decide ((i2 : Int) > (j2 : Int)) = true := decide_eq_true (by omega)
      have g2 : (j2 : Int) < (i2 : Int) := by omega
      have HB := Aside0.mk (HF.out.symm.trans (part_first_break ltInt d a b p HI.out HJ.out HDK.out HI2.out HJ2.out hij))
      by_cases hja : j2 = a
      · subst hja
        have hs0 : dk.size = d0.size := by rw [HK.out, ← HN.out]; exact HS.out
        have hcw := SU.cells HW5.out HR.out hs0 (n := n) (by rw [← hs0]; exact HK.out.symm) G HG.out
        have hfw := SU.free HW5.out HR.out hs0 (n := n) (by rw [← hs0]; exact HK.out.symm)
        have v0 := hcw (j2) (by omega)
        have f0 := hfw (j2) (by omega)
        clear hs0 hcw hfw
        have HX := Aside0.mk (SU.exch HW5.out HR.out.hblk j2 j2 (by rw [HK.out]; omega) (by rw [HK.out]; omega))
        go_wp2_with (fail)
        go_big_region
        rw [HG.out j2]
        obtain ⟨w6, hw6⟩ : ∃ W, ((w5.setCell ⟨bk, j2, none⟩ (.int .u64 dk[j2]!)).setCell ⟨bk, j2, none⟩ (.int .u64 dk[j2]!)).drew = W := ⟨_, rfl⟩
        have HX6 : Aside0 (SU w0 bk (swp dk j2 j2) w6) := ⟨hw6 ▸ SW.drew HX.out⟩
        rw [hw6]
        clear hw6 HX v0 f0
        go_wp2
        go_ret2
        refine ⟨?_, ?_⟩
        · rw [HB.out]; try rfl
        · rw [HB.out]; exact HX6.out
      · have hja2 : a < j2 := by omega
        have hs0 : dk.size = d0.size := by rw [HK.out, ← HN.out]; exact HS.out
        have hcw := SU.cells HW5.out HR.out hs0 (n := n) (by rw [← hs0]; exact HK.out.symm) G HG.out
        have hfw := SU.free HW5.out HR.out hs0 (n := n) (by rw [← hs0]; exact HK.out.symm)
        have v0 := hcw (j2) (by omega)
        have f0 := hfw (j2) (by omega)
        have v1 := hcw (a) (by omega)
        have f1 := hfw (a) (by omega)
        clear hs0 hcw hfw
        have HX := Aside0.mk (SU.exch HW5.out HR.out.hblk j2 a (by rw [HK.out]; omega) (by rw [HK.out]; omega))
        go_wp2_with (fail)
        go_big_region
        rw [HG.out j2, HG.out a]
        obtain ⟨w6, hw6⟩ : ∃ W, ((w5.setCell ⟨bk, j2, none⟩ (.int .u64 dk[a]!)).setCell ⟨bk, a, none⟩ (.int .u64 dk[j2]!)).drew = W := ⟨_, rfl⟩
        have HX6 : Aside0 (SU w0 bk (swp dk j2 a) w6) := ⟨hw6 ▸ SW.drew HX.out⟩
        rw [hw6]
        clear hw6 HX v0 v1 f0 f1
        go_wp2
        go_ret2
        refine ⟨?_, ?_⟩
        · rw [HB.out]; try rfl
        · rw [HB.out]; exact HX6.out
    · have g1 : decide ((i2 : Int) > (j2 : Int)) = false := decide_eq_false (by omega)
      have g2 : ¬ (j2 : Int) < (i2 : Int) := by omega
      have hlt := part_scans_lt ltInt a i j dk (by omega) HI2.out HJ2.out (by omega)
      have HP0 := Aside0.mk (HF.out.symm.trans (part_first_go ltInt d a b p HI.out HJ.out HDK.out HI2.out HJ2.out (by omega)))
      have hs0 : dk.size = d0.size := by rw [HK.out, ← HN.out]; exact HS.out
      have hcw := SU.cells HW5.out HR.out hs0 (n := n) (by rw [← hs0]; exact HK.out.symm) G HG.out
      have hfw := SU.free HW5.out HR.out hs0 (n := n) (by rw [← hs0]; exact HK.out.symm)
      have v0 := hcw (i2) (by omega)
      have f0 := hfw (i2) (by omega)
      have v1 := hcw (j2) (by omega)
      have f1 := hfw (j2) (by omega)
      clear hs0 hcw hfw
      have HX := Aside0.mk (SU.exch HW5.out HR.out.hblk i2 j2 (by rw [HK.out]; omega) (by rw [HK.out]; omega))
      go_wp2_with (fail)
      go_big_region
      rw [HG.out i2, HG.out j2]
      obtain ⟨w6, hw6⟩ : ∃ W, ((w5.setCell ⟨bk, i2, none⟩ (.int .u64 dk[j2]!)).setCell ⟨bk, j2, none⟩ (.int .u64 dk[i2]!)).drew = W := ⟨_, rfl⟩
      have HX6 : Aside0 (SU w0 bk (swp dk i2 j2) w6) := ⟨hw6 ▸ SW.drew HX.out⟩
      rw [hw6]
      clear hw6 HX v0 v1 f0 f1
      obtain ⟨jp, rfl⟩ : ∃ q, j2 = q + 1 := ⟨j2 - 1, by omega⟩
      have HK6 : Aside0 ((swp dk i2 (jp + 1)).size = n) := ⟨by rw [size_swp]; exact HK.out⟩
      have HP1 : Aside0 (f = ((partLoop ltInt a (i2 + 1) jp (swp dk i2 (jp + 1))).1, false, swp (partLoop ltInt a (i2 + 1) jp (swp dk i2 (jp + 1))).2 (partLoop ltInt a (i2 + 1) jp (swp dk i2 (jp + 1))).1 a)) := HP0
      clear HP0
      obtain ⟨D6, hD6⟩ : ∃ D, swp dk i2 (jp + 1) = D := ⟨_, rfl⟩
      rw [hD6] at HX6 HK6 HP1
      clear hD6
      obtain ⟨RR, hRR⟩ : ∃ r, partLoop ltInt a (i2 + 1) jp D6 = r := ⟨_, rfl⟩
      have HP : Aside0 (f = (RR.1, false, swp RR.2 RR.1 a)) := by rw [hRR] at HP1; exact HP1
      have HRR := Aside0.mk hRR
      clear hRR HP1 HI2 HJ2 HK HDK HG HW5 HF
      go_wp2_with (fail)
      go_loopg [10, 11] b (fun kq v10 v11 w' => ∃ (i j : Nat) (dk : Array Int), v10 = .int .i64 (i : Int) ∧ v11 = .int .i64 (j : Int) ∧ a < i ∧ i ≤ j + 1 ∧ j < b ∧ j + 1 ≤ kq + i ∧ Aside0 (dk.size = n) ∧ Aside0 (SU w0 bk dk w') ∧ Aside0 (partLoop ltInt a i j dk = RR))
      case atStart => exact ⟨i2 + 1, jp, D6, by first | rfl | (congr 1; go_num), by first | rfl | (congr 1; go_num), by omega, by omega, by omega, by omega, HK6, HX6, HRR⟩
      case round =>
        clear HRR HK6
        clear HX6
        obtain ⟨i, j, dk, rfl, rfl, hai, hij1, hjb, hjk, HK, HW, HE⟩ := hrel
        obtain ⟨ko, hko⟩ : ∃ k, k = gk := ⟨_, rfl⟩
        have HKO := Aside0.mk hko
        clear hko
        obtain ⟨G, hG⟩ : ∃ G : Nat → Int, ∀ t, G t = dk[t]! := ⟨fun t => dk[t]!, fun _ => rfl⟩
        have HG := Aside0.mk hG
        clear hG
        go_upto_block 6 with fail
        go_cut [10] (fun v10 wx => ∃ i2 : Nat, v10 = .int .i64 (i2 : Int) ∧ i ≤ i2 ∧ i2 ≤ j + 1 ∧ Aside0 (i2 = scanUp (fun x => ltInt x dk[a]!) dk j i) ∧ Aside0 (SU w0 bk dk wx))
        case first =>
          go_wp2_with (fail)
          go_loopg [10] (j + 1) (fun kq v10 w' => ∃ (x : Nat), v10 = .int .i64 (x : Int) ∧ i ≤ x ∧ x ≤ j + 1 ∧ j + 1 ≤ kq + x ∧ Aside0 (SU w0 bk dk w') ∧ Aside0 (scanUp (fun x => ltInt x dk[a]!) dk j x = scanUp (fun x => ltInt x dk[a]!) dk j i))
          case atStart => exact ⟨i, rfl, Nat.le_refl _, hij1, by omega, HW, ⟨rfl⟩⟩
          case round =>
            clear HW
            obtain ⟨x, rfl, hx, hxj, hxk, HW2, HSU⟩ := hrel
            by_cases hle : x ≤ j
            · have c1 : decide ((x : Int) ≤ (j : Int)) = true := decide_eq_true (by omega)
              have c2 : (x : Int) ≤ (j : Int) := by omega
              have hs0 : dk.size = d0.size := by rw [HK.out, ← HN.out]; exact HS.out
              have hcw := SU.cells HW2.out HR.out hs0 (n := n) (by rw [← hs0]; exact HK.out.symm) G HG.out
              have hfw := SU.free HW2.out HR.out hs0 (n := n) (by rw [← hs0]; exact HK.out.symm)
              have v0 := hcw (a) (by omega)
              have v1 := hcw (x) (by omega)
              clear hs0 hcw hfw
              go_wp2_with (fail)
              go_big_quiet (first | (go_at_call 91; refine Calls.quiet_of_same (Less_T _ _ _)))
              go_wp2_with (fail)
              · have hL : ltInt (G x) (G a) = true := by first | assumption | (simp only [Bool.not_eq_true', Bool.not_eq_false'] at *; simp [*])
                have HL : Aside0 ((fun x => ltInt x dk[a]!) dk[x]! = true) := ⟨by show ltInt dk[x]! dk[a]! = true; rw [← HG.out, ← HG.out, hL]⟩
                have HW3 := Aside0.mk (SW.drewN HW2.out nq)
                obtain ⟨w3, hww⟩ : ∃ W, wr.drewN nq = W := ⟨_, rfl⟩
                rw [hww] at HW3 ⊢
                clear hww v0 v1
                go_roundg (gk - 1)
                case measure => omega
                case rel => exact ⟨x + 1, by first | rfl | (congr 1; go_num), by omega, by omega, by omega, HW3, ⟨by rw [← HSU.out, scanUp_go (fun x => ltInt x dk[a]!) dk j x hle HL.out]⟩⟩
              · have hL : ltInt (G x) (G a) = false := by first | assumption | (simp only [Bool.not_eq_true', Bool.not_eq_false'] at *; simp [*])
                have HL : Aside0 ((fun x => ltInt x dk[a]!) dk[x]! = false) := ⟨by show ltInt dk[x]! dk[a]! = false; rw [← HG.out, ← HG.out, hL]⟩
                have HW3 := Aside0.mk (SW.drewN HW2.out nq)
                obtain ⟨w3, hww⟩ : ∃ W, wr.drewN nq = W := ⟨_, rfl⟩
                rw [hww] at HW3 ⊢
                clear hww v0 v1
                go_meet
                case rel => exact ⟨x, rfl, hx, hxj, ⟨by rw [← HSU.out, scanUp_end (fun x => ltInt x dk[a]!) dk j x (Or.inr HL.out)]⟩, HW3⟩
            · have c1 : decide ((x : Int) ≤ (j : Int)) = false := decide_eq_false (by omega)
              have c2 : ¬ (x : Int) ≤ (j : Int) := by omega
              go_wp2_with (fail)
              go_big_quiet (fail)
              go_wp2_with (fail)
              have HW3 := Aside0.mk (SW.drewN HW2.out nq)
              obtain ⟨w3, hww⟩ : ∃ W, wr.drewN nq = W := ⟨_, rfl⟩
              rw [hww] at HW3 ⊢
              clear hww
              go_meet
              case rel => exact ⟨x, rfl, hx, hxj, ⟨by rw [← HSU.out, scanUp_end (fun x => ltInt x dk[a]!) dk j x (Or.inl hle)]⟩, HW3⟩
        case rest =>
        clear HW
        obtain ⟨i2, rfl, hi2, hi2j, HI2, HW3⟩ := hcut
        obtain ⟨w3, hw3⟩ : ∃ W, wc = W := ⟨_, rfl⟩
        rw [hw3] at HW3 ⊢
        clear hw3
        go_upto_block 8 with fail
        go_cut [11] (fun v11 wx => ∃ j2 : Nat, v11 = .int .i64 (j2 : Int) ∧ j2 ≤ j ∧ i2 ≤ j2 + 1 ∧ Aside0 (j2 = scanDown (fun x => !ltInt x dk[a]!) dk i2 j) ∧ Aside0 (SU w0 bk dk wx))
        case first =>
          go_wp2_with (fail)
          go_loopg [11] (j + 1) (fun kq v11 w' => ∃ (y : Nat), v11 = .int .i64 (y : Int) ∧ y ≤ j ∧ y + 1 ≤ kq ∧ i2 ≤ y + 1 ∧ Aside0 (SU w0 bk dk w') ∧ Aside0 (scanDown (fun x => !ltInt x dk[a]!) dk i2 y = scanDown (fun x => !ltInt x dk[a]!) dk i2 j))
          case atStart => exact ⟨j, rfl, Nat.le_refl _, Nat.le_refl _, by omega, HW3, ⟨rfl⟩⟩
          case round =>
            clear HW3
            obtain ⟨y, rfl, hy, hyk, hiy, HW4, HSD⟩ := hrel
            by_cases hle : i2 ≤ y
            · have c1 : decide ((i2 : Int) ≤ (y : Int)) = true := decide_eq_true (by omega)
              have c2 : (i2 : Int) ≤ (y : Int) := by omega
              have hs0 : dk.size = d0.size := by rw [HK.out, ← HN.out]; exact HS.out
              have hcw := SU.cells HW4.out HR.out hs0 (n := n) (by rw [← hs0]; exact HK.out.symm) G HG.out
              have hfw := SU.free HW4.out HR.out hs0 (n := n) (by rw [← hs0]; exact HK.out.symm)
              have v0 := hcw (a) (by omega)
              have v1 := hcw (y) (by omega)
              clear hs0 hcw hfw
              go_wp2_with (fail)
              go_big_quiet (first | (go_at_call 91; refine Calls.quiet_of_same (Less_T _ _ _)))
              go_wp2_with (fail)
              · have hL : (!ltInt (G y) (G a)) = true := by first | assumption | (simp only [Bool.not_eq_true', Bool.not_eq_false'] at *; simp [*])
                have HL : Aside0 ((fun x => !ltInt x dk[a]!) dk[y]! = true) := ⟨by show (!ltInt dk[y]! dk[a]!) = true; rw [← HG.out, ← HG.out, hL]⟩
                have HW5 := Aside0.mk (SW.drewN HW4.out nq)
                obtain ⟨w5, hww⟩ : ∃ W, wr.drewN nq = W := ⟨_, rfl⟩
                rw [hww] at HW5 ⊢
                clear hww v0 v1
                obtain ⟨yp, rfl⟩ : ∃ q, y = q + 1 := ⟨y - 1, by omega⟩
                go_roundg (gk - 1)
                case measure => omega
                case rel => exact ⟨yp, by first | rfl | (congr 1; go_num), by omega, by omega, by omega, HW5, ⟨by rw [← HSD.out, scanDown_go (fun x => !ltInt x dk[a]!) dk i2 _ hle (by omega) HL.out]; rfl⟩⟩
              · have hL : (!ltInt (G y) (G a)) = false := by first | assumption | (simp only [Bool.not_eq_true', Bool.not_eq_false'] at *; simp [*])
                have HL : Aside0 ((fun x => !ltInt x dk[a]!) dk[y]! = false) := ⟨by show (!ltInt dk[y]! dk[a]!) = false; rw [← HG.out, ← HG.out, hL]⟩
                have HW5 := Aside0.mk (SW.drewN HW4.out nq)
                obtain ⟨w5, hww⟩ : ∃ W, wr.drewN nq = W := ⟨_, rfl⟩
                rw [hww] at HW5 ⊢
                clear hww v0 v1
                go_meet
                case rel => exact ⟨y, rfl, hy, hiy, ⟨by rw [← HSD.out, scanDown_end (fun x => !ltInt x dk[a]!) dk i2 y (Or.inr HL.out)]⟩, HW5⟩
            · have c1 : decide ((i2 : Int) ≤ (y : Int)) = false := decide_eq_false (by omega)
              have c2 : ¬ (i2 : Int) ≤ (y : Int) := by omega
              go_wp2_with (fail)
              go_big_quiet (fail)
              go_wp2_with (fail)
              have HW5 := Aside0.mk (SW.drewN HW4.out nq)
              obtain ⟨w5, hww⟩ : ∃ W, wr.drewN nq = W := ⟨_, rfl⟩
              rw [hww] at HW5 ⊢
              clear hww
              go_meet
              case rel => exact ⟨y, rfl, hy, hiy, ⟨by rw [← HSD.out, scanDown_end (fun x => !ltInt x dk[a]!) dk i2 y (Or.inl hle)]⟩, HW5⟩
        case rest =>
        clear HW3
        obtain ⟨j2, rfl, hj2, hij2, HJ2, HW5⟩ := hcut
        obtain ⟨w5, hw5⟩ : ∃ W, wc = W := ⟨_, rfl⟩
        rw [hw5] at HW5 ⊢
        clear hw5
        by_cases hij : j2 < i2
        · have g1 : decide ((i2 : Int) > (j2 : Int)) = true := decide_eq_true (by omega)
          have g2 : (j2 : Int) < (i2 : Int) := by omega
          have HB : Aside0 (f = (j2, false, swp dk j2 a)) := ⟨by rw [HP.out, ← HE.out, part_break ltInt a i j dk HI2.out HJ2.out hij]⟩
          by_cases hja : j2 = a
          · subst hja
            have hs0 : dk.size = d0.size := by rw [HK.out, ← HN.out]; exact HS.out
            have hcw := SU.cells HW5.out HR.out hs0 (n := n) (by rw [← hs0]; exact HK.out.symm) G HG.out
            have hfw := SU.free HW5.out HR.out hs0 (n := n) (by rw [← hs0]; exact HK.out.symm)
            have v0 := hcw (j2) (by omega)
            have f0 := hfw (j2) (by omega)
            clear hs0 hcw hfw
            have HX := Aside0.mk (SU.exch HW5.out HR.out.hblk j2 j2 (by rw [HK.out]; omega) (by rw [HK.out]; omega))
            go_wp2_with (fail)
            go_big_region
            rw [HG.out j2]
            obtain ⟨w6, hw6⟩ : ∃ W, ((w5.setCell ⟨bk, j2, none⟩ (.int .u64 dk[j2]!)).setCell ⟨bk, j2, none⟩ (.int .u64 dk[j2]!)).drew = W := ⟨_, rfl⟩
            have HX6 : Aside0 (SU w0 bk (swp dk j2 j2) w6) := ⟨hw6 ▸ SW.drew HX.out⟩
            rw [hw6]
            clear hw6 HX v0 f0
            go_wp2
            go_ret2
            refine ⟨?_, ?_⟩
            · rw [HB.out]; try rfl
            · rw [HB.out]; exact HX6.out
          · have hja2 : a < j2 := by omega
            have hs0 : dk.size = d0.size := by rw [HK.out, ← HN.out]; exact HS.out
            have hcw := SU.cells HW5.out HR.out hs0 (n := n) (by rw [← hs0]; exact HK.out.symm) G HG.out
            have hfw := SU.free HW5.out HR.out hs0 (n := n) (by rw [← hs0]; exact HK.out.symm)
            have v0 := hcw (j2) (by omega)
            have f0 := hfw (j2) (by omega)
            have v1 := hcw (a) (by omega)
            have f1 := hfw (a) (by omega)
            clear hs0 hcw hfw
            have HX := Aside0.mk (SU.exch HW5.out HR.out.hblk j2 a (by rw [HK.out]; omega) (by rw [HK.out]; omega))
            go_wp2_with (fail)
            go_big_region
            rw [HG.out j2, HG.out a]
            obtain ⟨w6, hw6⟩ : ∃ W, ((w5.setCell ⟨bk, j2, none⟩ (.int .u64 dk[a]!)).setCell ⟨bk, a, none⟩ (.int .u64 dk[j2]!)).drew = W := ⟨_, rfl⟩
            have HX6 : Aside0 (SU w0 bk (swp dk j2 a) w6) := ⟨hw6 ▸ SW.drew HX.out⟩
            rw [hw6]
            clear hw6 HX v0 v1 f0 f1
            go_wp2
            go_ret2
            refine ⟨?_, ?_⟩
            · rw [HB.out]; try rfl
            · rw [HB.out]; exact HX6.out
        · have g1 : decide ((i2 : Int) > (j2 : Int)) = false := decide_eq_false (by omega)
          have g2 : ¬ (j2 : Int) < (i2 : Int) := by omega
          have HQ := Aside0.mk (part_go ltInt a i j dk HI2.out HJ2.out (by omega))
          have hlt := part_scans_lt ltInt a i j dk (by omega) HI2.out HJ2.out (by omega)
          have hs0 : dk.size = d0.size := by rw [HK.out, ← HN.out]; exact HS.out
          have hcw := SU.cells HW5.out HR.out hs0 (n := n) (by rw [← hs0]; exact HK.out.symm) G HG.out
          have hfw := SU.free HW5.out HR.out hs0 (n := n) (by rw [← hs0]; exact HK.out.symm)
          have v0 := hcw (i2) (by omega)
          have f0 := hfw (i2) (by omega)
          have v1 := hcw (j2) (by omega)
          have f1 := hfw (j2) (by omega)
          clear hs0 hcw hfw
          have HX := Aside0.mk (SU.exch HW5.out HR.out.hblk i2 j2 (by rw [HK.out]; omega) (by rw [HK.out]; omega))
          go_wp2_with (fail)
          go_big_region
          rw [HG.out i2, HG.out j2]
          obtain ⟨w6, hw6⟩ : ∃ W, ((w5.setCell ⟨bk, i2, none⟩ (.int .u64 dk[j2]!)).setCell ⟨bk, j2, none⟩ (.int .u64 dk[i2]!)).drew = W := ⟨_, rfl⟩
          have HX6 : Aside0 (SU w0 bk (swp dk i2 j2) w6) := ⟨hw6 ▸ SW.drew HX.out⟩
          rw [hw6]
          clear hw6 HX v0 v1 f0 f1
          obtain ⟨jp, rfl⟩ : ∃ q, j2 = q + 1 := ⟨j2 - 1, by omega⟩
          go_wp2
          go_roundg (ko - 1)
          case measure => have := HKO.out; omega
          case rel => exact ⟨i2 + 1, jp, _, by first | rfl | (congr 1; go_num), by first | rfl | (congr 1; go_num), by omega, by omega, by omega, by have := HKO.out; omega, ⟨by rw [size_swp]; exact HK.out⟩, HX6, ⟨by rw [← HE.out, HQ.out]; rfl⟩⟩
end Go.Proofs.YtplhihakeodadaaDoor.Sg
namespace Go.Proofs.YtplhihakeodadaaDoor.Sg
open Go Go.Sort Go.RowKit Go.Proofs Go.Proofs.YtplhihakeodadaaDoorW.PrintWords Go.Proofs.YtplhihakeodadaaDoorW.PrintLast Go.Proofs.YtplhihakeodadaaDoorW.PrintMore
set_option linter.unusedVariables false
set_option linter.unusedSimpArgs false
set_option maxHeartbeats 16000000 in
set_option maxRecDepth 100000 in
theorem partIns_T (w0 : World) (bk c a b : Nat) (d0 d : Array Int) (w : World) (R : RU w0 bk d0) (hs : d.size = d0.size) (h : SU w0 bk d w) (hab : a < b) (hb : b ≤ d.size) (hl : d.size ≤ 1000000000) :
    Calls Tryd.prog 90 #[.slice (some ⟨bk, 0, none⟩) d.size c, .int .i64 (a : Int), .int .i64 (b : Int)] w fun e w' => e = .returned (.bool (partialInsertionSort ltInt d a b).2) ∧ SU w0 bk (partialInsertionSort ltInt d a b).1 w' := by
  have HR := Aside0.mk R
  have HW := Aside0.mk h
  have HS := Aside0.mk hs
  obtain ⟨n, hn⟩ : ∃ n, d.size = n := ⟨_, rfl⟩
  have HN := Aside0.mk hn
  rw [hn] at hb hl ⊢
  obtain ⟨f, hf⟩ : ∃ f, partialInsertionSort ltInt d a b = f := ⟨_, rfl⟩
  rw [hf]
  have HF : Aside0 (partialIns ltInt a b (5 - 0) (a + 1) d = f) := ⟨hf⟩
  clear R h hs hn hf
  go_enter Tryd.func90, Tryd.ntmps90
  go_wp2
  go_loopg [7, 8] 5 (fun kq v7 v8 w' => ∃ (i s : Nat) (dk : Array Int), v7 = .int .i64 (i : Int) ∧ v8 = .int .i64 (s : Int) ∧ s ≤ 5 ∧ 5 ≤ kq + s ∧ a < i ∧ i ≤ b ∧ Aside0 (dk.size = n) ∧ Aside0 (SU w0 bk dk w') ∧ Aside0 (partialIns ltInt a b (5 - s) i dk = f))
  case atStart => exact ⟨a + 1, 0, d, by first | rfl | (congr 1; go_num), rfl, by omega, by omega, by omega, by omega, HN, HW, HF⟩
  case round =>
    clear HW HF
    obtain ⟨i, s, dk, rfl, rfl, hs5, hsk, hai, hib, HK, HW, HF⟩ := hrel
    obtain ⟨ko, hko⟩ : ∃ k, k = gk := ⟨_, rfl⟩
    have HKO := Aside0.mk hko
    clear hko
    by_cases hs : s = 5
    · subst hs
      go_wp2
      go_ret
      refine ⟨?_, ?_⟩
      · rw [← HF.out]; rfl
      · rw [← HF.out]; exact HW.out
    · have hs6 : s < 5 := by omega
      have c1 : decide ((s : Int) < 5) = true := decide_eq_true (by omega)
      have c2 : (s : Int) < 5 := by omega
      obtain ⟨G, hG⟩ : ∃ G : Nat → Int, ∀ t, G t = dk[t]! := ⟨fun t => dk[t]!, fun _ => rfl⟩
      have HG := Aside0.mk hG
      clear hG
      go_upto_block 2 with fail
      go_cut [7] (fun v7 wx => ∃ k : Nat, v7 = .int .i64 (k : Int) ∧ i ≤ k ∧ k ≤ b ∧ Aside0 (scanSorted ltInt dk b i = k) ∧ Aside0 (SU w0 bk dk wx))
      case first =>
        go_wp2_with (fail)
        go_loopg [7] b (fun kq v7 w' => ∃ x : Nat, v7 = .int .i64 (x : Int) ∧ i ≤ x ∧ x ≤ b ∧ b ≤ kq + x ∧ Aside0 (SU w0 bk dk w') ∧ Aside0 (scanSorted ltInt dk b x = scanSorted ltInt dk b i))
        case atStart => exact ⟨i, rfl, Nat.le_refl _, hib, by omega, HW, ⟨rfl⟩⟩
        case round =>
          clear HW
          obtain ⟨x, rfl, hx, hxb, hxk, HW2, HSC⟩ := hrel
          by_cases hle : x < b
          · have c1 : decide ((x : Int) < (b : Int)) = true := decide_eq_true (by omega)
            clear c1
            obtain ⟨xp, rfl⟩ : ∃ q, x = q + 1 := ⟨x - 1, by omega⟩
            have c1 : decide ((xp : Int) + 1 < (b : Int)) = true := decide_eq_true (by omega)
            have c2 : (xp : Int) + 1 < (b : Int) := by omega
            have c3 : decide (xp + 1 < b) = true := decide_eq_true (by omega)
            have hs0 : dk.size = d0.size := by rw [HK.out, ← HN.out]; exact HS.out
            have hcw := SU.cells HW2.out HR.out hs0 (n := n) (by rw [← hs0]; exact HK.out.symm) G HG.out
            have hfw := SU.free HW2.out HR.out hs0 (n := n) (by rw [← hs0]; exact HK.out.symm)
            have v0 := hcw (xp + 1) (by omega)
            have v1 := hcw (xp) (by omega)
            clear hs0 hcw hfw
            go_wp2_with (fail)
            go_big_quiet (first | (go_at_call 91; refine Calls.quiet_of_same (Less_T _ _ _)))
            go_wp2_with (fail)
            · have hL : (!ltInt (G (xp + 1)) (G xp)) = true := by assumption
              have HL : Aside0 (ltInt dk[xp + 1]! dk[xp + 1 - 1]! = false) := ⟨by rw [Nat.add_sub_cancel, ← HG.out, ← HG.out]; simpa using hL⟩
              have HW3 := Aside0.mk (SW.drewN HW2.out nq)
              obtain ⟨w3, hww⟩ : ∃ W, wr.drewN nq = W := ⟨_, rfl⟩
              rw [hww] at HW3 ⊢
              clear hww v0 v1
              go_roundg (gk - 1)
              case measure => omega
              case rel => exact ⟨xp + 1 + 1, by first | rfl | (congr 1; go_num), by omega, by omega, by omega, HW3, ⟨by rw [← HSC.out, scanSorted_go ltInt dk b (xp + 1) hle HL.out]⟩⟩
            · have hL : (!ltInt (G (xp + 1)) (G xp)) = false := by assumption
              have HL : Aside0 (ltInt dk[xp + 1]! dk[xp + 1 - 1]! = true) := ⟨by rw [Nat.add_sub_cancel, ← HG.out, ← HG.out]; simpa using hL⟩
              have HW3 := Aside0.mk (SW.drewN HW2.out nq)
              obtain ⟨w3, hww⟩ : ∃ W, wr.drewN nq = W := ⟨_, rfl⟩
              rw [hww] at HW3 ⊢
              clear hww v0 v1
              go_meet
              case rel => exact ⟨xp + 1, by first | rfl | (congr 1; go_num), hx, hxb, ⟨by rw [← HSC.out, scanSorted_stop ltInt dk b _ (Or.inr HL.out)]⟩, HW3⟩
          · have c1 : decide ((x : Int) < (b : Int)) = false := decide_eq_false (by omega)
            have c2 : ¬ (x : Int) < (b : Int) := by omega
            go_wp2_with (fail)
            go_big_quiet (fail)
            go_wp2_with (fail)
            have HW3 := Aside0.mk (SW.drewN HW2.out nq)
            obtain ⟨w3, hww⟩ : ∃ W, wr.drewN nq = W := ⟨_, rfl⟩
            rw [hww] at HW3 ⊢
            clear hww
            go_meet
            case rel => exact ⟨x, rfl, hx, hxb, ⟨by rw [← HSC.out, scanSorted_stop ltInt dk b _ (Or.inl hle)]⟩, HW3⟩
      case rest =>
      clear HW
      obtain ⟨k, rfl, hik, hkb, HSK, HW3⟩ := hcut
      obtain ⟨w3, hw3⟩ : ∃ W, wc = W := ⟨_, rfl⟩
      rw [hw3] at HW3 ⊢
      clear hw3
      by_cases hkb' : k = b
      · have c3 : ((k : Int) == (b : Int)) = true := by simp [hkb']
        have c4 : (k : Int) = (b : Int) := by omega
        go_wp2
        go_ret
        have hv : f = (dk, true) := by rw [← HF.out, pi_true ltInt a b s i dk (by omega) (by rw [HSK.out]; exact hkb')]
        refine ⟨?_, ?_⟩
        · rw [hv]; try rfl
        · rw [hv]; exact HW3.out
      · have c3 : ((k : Int) == (b : Int)) = false := by simp; omega
        have c4 : ¬ (k : Int) = (b : Int) := by omega
        by_cases h50 : b - a < 50
        · have c5 : decide ((b : Int) - (a : Int) < 50) = true := decide_eq_true (by omega)
          have c6 : (b : Int) - (a : Int) < 50 := by omega
          go_wp2
          go_ret
          have hv : f = (dk, false) := by rw [← HF.out, pi_short ltInt a b s i dk (by omega) (by rw [HSK.out]; exact hkb') h50]
          refine ⟨?_, ?_⟩
          · rw [hv]; try rfl
          · rw [hv]; exact HW3.out
        · have c5 : decide ((b : Int) - (a : Int) < 50) = false := decide_eq_false (by omega)
          have c6 : ¬ (b : Int) - (a : Int) < 50 := by omega
          have HF2 : Aside0 (f = partialIns ltInt a b (5 - (s + 1)) k (fixUp ltInt b k (fixDown ltInt a k (swp dk k (k - 1))))) := ⟨by rw [← HF.out, pi_go ltInt a b s i k dk (by omega) HSK.out hkb' h50]⟩
          clear HF HSK
          obtain ⟨kp, rfl⟩ : ∃ q, k = q + 1 := ⟨k - 1, by omega⟩
          rw [Nat.add_sub_cancel] at HF2
          have hs0 : dk.size = d0.size := by rw [HK.out, ← HN.out]; exact HS.out
          have hcw := SU.cells HW3.out HR.out hs0 (n := n) (by rw [← hs0]; exact HK.out.symm) G HG.out
          have hfw := SU.free HW3.out HR.out hs0 (n := n) (by rw [← hs0]; exact HK.out.symm)
          have v0 := hcw ((kp + 1)) (by omega)
          have f0 := hfw ((kp + 1)) (by omega)
          have v1 := hcw (kp) (by omega)
          have f1 := hfw (kp) (by omega)
          clear hs0 hcw hfw
          have HX := Aside0.mk (SU.exch HW3.out HR.out.hblk (kp + 1) kp (by rw [HK.out]; omega) (by rw [HK.out]; omega))
          go_wp2_with (fail)
          go_big_region
          rw [HG.out (kp + 1), HG.out kp]
          obtain ⟨w6, hw6⟩ : ∃ W, ((w3.setCell ⟨bk, (kp + 1), none⟩ (.int .u64 dk[kp]!)).setCell ⟨bk, kp, none⟩ (.int .u64 dk[(kp + 1)]!)).drew = W := ⟨_, rfl⟩
          have HX6 : Aside0 (SU w0 bk (swp dk (kp + 1) kp) w6) := ⟨hw6 ▸ SW.drew HX.out⟩
          rw [hw6]
          clear hw6 HX v0 v1 f0 f1
          have HK1 : Aside0 ((swp dk (kp + 1) kp).size = n) := ⟨by rw [size_swp]; exact HK.out⟩
          obtain ⟨D1, hD1⟩ : ∃ D, swp dk (kp + 1) kp = D := ⟨_, rfl⟩
          rw [hD1] at HX6 HK1 HF2
          have HW6 := HX6
          clear hD1 HX6 HG G HK HW3
          go_upto_if 61 with fail
          go_cut [] (fun wx => ∃ D2 : Array Int, Aside0 (D2.size = n) ∧ Aside0 (fixDown ltInt a (kp + 1) D1 = D2) ∧ Aside0 (SU w0 bk D2 wx))
          case first =>
            by_cases hka : kp + 1 - a ≥ 2
            · have c1 : decide (((kp + 1 : Nat) : Int) - (a : Int) ≥ 2) = true := decide_eq_true (by omega)
              have c2 : (2 : Int) ≤ ((kp : Int) + 1) - (a : Int) := by omega
              go_wp2_with (fail)
              go_loopg [9] (kp + 1) (fun kq v9 w' => ∃ (j : Nat) (dj : Array Int), v9 = .int .i64 (j : Int) ∧ j ≤ kp ∧ j ≤ kq ∧ Aside0 (dj.size = n) ∧ Aside0 (SU w0 bk dj w') ∧ Aside0 (shiftDown ltInt j dj = shiftDown ltInt kp D1))
              case atStart => exact ⟨kp, D1, by first | rfl | (congr 1; go_num), Nat.le_refl _, by omega, HK1, HW6, ⟨rfl⟩⟩
              case round =>
                clear HW6 HK1
                obtain ⟨j, dk, rfl, hjk, hjq, HK, HW7, HDN⟩ := hrel
                by_cases hj : 1 ≤ j
                · have e1 : decide ((j : Int) ≥ 1) = true := decide_eq_true (by omega)
                  have e2 : (1 : Int) ≤ (j : Int) := by omega
                  obtain ⟨jp, rfl⟩ : ∃ q, j = q + 1 := ⟨j - 1, by omega⟩
                  obtain ⟨G, hG⟩ : ∃ G : Nat → Int, ∀ t, G t = dk[t]! := ⟨fun t => dk[t]!, fun _ => rfl⟩
                  have HG := Aside0.mk hG
                  clear hG
                  have hs0 : dk.size = d0.size := by rw [HK.out, ← HN.out]; exact HS.out
                  have hcw := SU.cells HW7.out HR.out hs0 (n := n) (by rw [← hs0]; exact HK.out.symm) G HG.out
                  have hfw := SU.free HW7.out HR.out hs0 (n := n) (by rw [← hs0]; exact HK.out.symm)
                  have v0 := hcw (jp + 1) (by omega)
                  have v1 := hcw (jp) (by omega)
                  clear hs0 hcw hfw
                  go_wp2_with (fail)
                  go_big_quiet (first | (go_at_call 91; refine Calls.quiet_of_same (Less_T _ _ _)))
                  go_wp2_with (fail)
                  · have hL : (!ltInt (G (jp + 1)) (G jp)) = true := by assumption
                    have HL : Aside0 (ltInt dk[jp + 1]! dk[jp + 1 - 1]! = false) := ⟨by rw [Nat.add_sub_cancel, ← HG.out, ← HG.out]; simpa using hL⟩
                    have HW8 := Aside0.mk (SW.drewN HW7.out nq)
                    obtain ⟨w8, hww⟩ : ∃ W, wr.drewN nq = W := ⟨_, rfl⟩
                    rw [hww] at HW8 ⊢
                    clear hww v0 v1
                    go_meet
                    case rel => exact ⟨dk, HK, ⟨by unfold fixDown; rw [if_pos hka, Nat.add_sub_cancel, ← HDN.out, shiftDown_stop ltInt _ dk (Or.inr HL.out)]⟩, HW8⟩
                  · have hL : (!ltInt (G (jp + 1)) (G jp)) = false := by assumption
                    have HL : Aside0 (ltInt dk[jp + 1]! dk[jp + 1 - 1]! = true) := ⟨by rw [Nat.add_sub_cancel, ← HG.out, ← HG.out]; simpa using hL⟩
                    have HW8 := Aside0.mk (SW.drewN HW7.out nq)
                    obtain ⟨w8, hww⟩ : ∃ W, wr.drewN nq = W := ⟨_, rfl⟩
                    rw [hww] at HW8 ⊢
                    clear hww v0 v1
                    have hs0 : dk.size = d0.size := by rw [HK.out, ← HN.out]; exact HS.out
                    have hcw := SU.cells HW8.out HR.out hs0 (n := n) (by rw [← hs0]; exact HK.out.symm) G HG.out
                    have hfw := SU.free HW8.out HR.out hs0 (n := n) (by rw [← hs0]; exact HK.out.symm)
                    have v0 := hcw ((jp + 1)) (by omega)
                    have f0 := hfw ((jp + 1)) (by omega)
                    have v1 := hcw (jp) (by omega)
                    have f1 := hfw (jp) (by omega)
                    clear hs0 hcw hfw
                    have HX := Aside0.mk (SU.exch HW8.out HR.out.hblk (jp + 1) jp (by rw [HK.out]; omega) (by rw [HK.out]; omega))
                    go_wp2_with (fail)
                    go_big_region
                    rw [HG.out (jp + 1), HG.out jp]
                    obtain ⟨w9, hw6⟩ : ∃ W, ((w8.setCell ⟨bk, (jp + 1), none⟩ (.int .u64 dk[jp]!)).setCell ⟨bk, jp, none⟩ (.int .u64 dk[(jp + 1)]!)).drew = W := ⟨_, rfl⟩
                    have HX9 : Aside0 (SU w0 bk (swp dk (jp + 1) jp) w9) := ⟨hw6 ▸ SW.drew HX.out⟩
                    rw [hw6]
                    clear hw6 HX v0 v1 f0 f1
                    go_wp2
                    go_roundg (gk - 1)
                    case measure => omega
                    case rel => exact ⟨jp, _, by first | rfl | (congr 1; go_num), by omega, by omega, ⟨by rw [size_swp]; exact HK.out⟩, HX9, ⟨by rw [← HDN.out, shiftDown_go ltInt (jp + 1) dk (by omega) HL.out]; rfl⟩⟩
                · have e1 : decide ((j : Int) ≥ 1) = false := decide_eq_false (by omega)
                  have e2 : ¬ (1 : Int) ≤ (j : Int) := by omega
                  go_wp2_with (fail)
                  go_meet
                  case rel => exact ⟨dk, HK, ⟨by unfold fixDown; rw [if_pos hka, Nat.add_sub_cancel, ← HDN.out, shiftDown_stop ltInt _ dk (Or.inl (by omega))]⟩, HW7⟩
            · have c1 : decide (((kp + 1 : Nat) : Int) - (a : Int) ≥ 2) = false := decide_eq_false (by omega)
              have c2 : ¬ (2 : Int) ≤ ((kp : Int) + 1) - (a : Int) := by omega
              go_wp2_with (fail)
              go_meet
              case rel => exact ⟨D1, HK1, ⟨by unfold fixDown; rw [if_neg hka]⟩, HW6⟩
          case rest =>
            clear HW6 HK1
            obtain ⟨D2, HK2, HD2, HW7⟩ := hcut
            have HF3 : Aside0 (f = partialIns ltInt a b (5 - (s + 1)) (kp + 1) (fixUp ltInt b (kp + 1) D2)) := ⟨by rw [HF2.out, HD2.out]⟩
            clear HF2 HD2 D1
            by_cases hkb2 : b - (kp + 1) ≥ 2
            · have c1 : decide ((b : Int) - ((kp + 1 : Nat) : Int) ≥ 2) = true := decide_eq_true (by omega)
              have c2 : (2 : Int) ≤ (b : Int) - ((kp : Int) + 1) := by omega
              go_wp2_with (fail)
              go_loopg [10] b (fun kq v10 w' => ∃ (j : Nat) (dj : Array Int), v10 = .int .i64 (j : Int) ∧ kp + 2 ≤ j ∧ j ≤ b ∧ b ≤ kq + j ∧ Aside0 (dj.size = n) ∧ Aside0 (SU w0 bk dj w') ∧ Aside0 (shiftUp ltInt b j dj = shiftUp ltInt b (kp + 1 + 1) D2))
              case atStart => exact ⟨kp + 2, D2, by first | rfl | (congr 1; go_num), Nat.le_refl _, by omega, by omega, HK2, HW7, ⟨rfl⟩⟩
              case round =>
                clear HW7 HK2
                obtain ⟨j, dk, rfl, hjk, hjb, hjq, HK, HW7, HUP⟩ := hrel
                by_cases hj : j < b
                · have e1 : decide ((j : Int) < (b : Int)) = true := decide_eq_true (by omega)
                  have e2 : (j : Int) < (b : Int) := by omega
                  obtain ⟨jp, rfl⟩ : ∃ q, j = q + 1 := ⟨j - 1, by omega⟩
                  obtain ⟨G, hG⟩ : ∃ G : Nat → Int, ∀ t, G t = dk[t]! := ⟨fun t => dk[t]!, fun _ => rfl⟩
                  have HG := Aside0.mk hG
                  clear hG
                  have hs0 : dk.size = d0.size := by rw [HK.out, ← HN.out]; exact HS.out
                  have hcw := SU.cells HW7.out HR.out hs0 (n := n) (by rw [← hs0]; exact HK.out.symm) G HG.out
                  have hfw := SU.free HW7.out HR.out hs0 (n := n) (by rw [← hs0]; exact HK.out.symm)
                  have v0 := hcw (jp + 1) (by omega)
                  have v1 := hcw (jp) (by omega)
                  clear hs0 hcw hfw
                  go_wp2_with (fail)
                  go_big_quiet (first | (go_at_call 91; refine Calls.quiet_of_same (Less_T _ _ _)))
                  go_wp2_with (fail)
                  · have hL : (!ltInt (G (jp + 1)) (G jp)) = true := by assumption
                    have HL : Aside0 (ltInt dk[jp + 1]! dk[jp + 1 - 1]! = false) := ⟨by rw [Nat.add_sub_cancel, ← HG.out, ← HG.out]; simpa using hL⟩
                    have HW8 := Aside0.mk (SW.drewN HW7.out nq)
                    obtain ⟨w8, hww⟩ : ∃ W, wr.drewN nq = W := ⟨_, rfl⟩
                    rw [hww] at HW8 ⊢
                    clear hww v0 v1
                    have HD3 : Aside0 (fixUp ltInt b (kp + 1) D2 = dk) := ⟨by unfold fixUp; rw [if_pos hkb2, ← HUP.out, shiftUp_stop ltInt b _ dk (Or.inr HL.out)]⟩
                    (try go_wp2)
                    go_roundg (ko - 1)
                    case measure => have := HKO.out; omega
                    case rel => exact ⟨kp + 1, s + 1, dk, by first | rfl | (congr 1; go_num), by first | rfl | (congr 1; go_num), by omega, by have := HKO.out; omega, by omega, by omega, HK, HW8, ⟨by rw [HF3.out, HD3.out]⟩⟩
                  · have hL : (!ltInt (G (jp + 1)) (G jp)) = false := by assumption
                    have HL : Aside0 (ltInt dk[jp + 1]! dk[jp + 1 - 1]! = true) := ⟨by rw [Nat.add_sub_cancel, ← HG.out, ← HG.out]; simpa using hL⟩
                    have HW8 := Aside0.mk (SW.drewN HW7.out nq)
                    obtain ⟨w8, hww⟩ : ∃ W, wr.drewN nq = W := ⟨_, rfl⟩
                    rw [hww] at HW8 ⊢
                    clear hww v0 v1
                    have hs0 : dk.size = d0.size := by rw [HK.out, ← HN.out]; exact HS.out
                    have hcw := SU.cells HW8.out HR.out hs0 (n := n) (by rw [← hs0]; exact HK.out.symm) G HG.out
                    have hfw := SU.free HW8.out HR.out hs0 (n := n) (by rw [← hs0]; exact HK.out.symm)
                    have v0 := hcw ((jp + 1)) (by omega)
                    have f0 := hfw ((jp + 1)) (by omega)
                    have v1 := hcw (jp) (by omega)
                    have f1 := hfw (jp) (by omega)
                    clear hs0 hcw hfw
                    have HX := Aside0.mk (SU.exch HW8.out HR.out.hblk (jp + 1) jp (by rw [HK.out]; omega) (by rw [HK.out]; omega))
                    go_wp2_with (fail)
                    go_big_region
                    rw [HG.out (jp + 1), HG.out jp]
                    obtain ⟨w9, hw6⟩ : ∃ W, ((w8.setCell ⟨bk, (jp + 1), none⟩ (.int .u64 dk[jp]!)).setCell ⟨bk, jp, none⟩ (.int .u64 dk[(jp + 1)]!)).drew = W := ⟨_, rfl⟩
                    have HX9 : Aside0 (SU w0 bk (swp dk (jp + 1) jp) w9) := ⟨hw6 ▸ SW.drew HX.out⟩
                    rw [hw6]
                    clear hw6 HX v0 v1 f0 f1
                    go_wp2
                    go_roundg (gk - 1)
                    case measure => omega
                    case rel => exact ⟨jp + 1 + 1, _, by first | rfl | (congr 1; go_num), by omega, by omega, by omega, ⟨by rw [size_swp]; exact HK.out⟩, HX9, ⟨by rw [← HUP.out, shiftUp_go ltInt b (jp + 1) dk (by omega) HL.out]; rfl⟩⟩
                · have e1 : decide ((j : Int) < (b : Int)) = false := decide_eq_false (by omega)
                  have e2 : ¬ (j : Int) < (b : Int) := by omega
                  go_wp2_with (fail)
                  have HD3 : Aside0 (fixUp ltInt b (kp + 1) D2 = dk) := ⟨by unfold fixUp; rw [if_pos hkb2, ← HUP.out, shiftUp_stop ltInt b _ dk (Or.inl hj)]⟩
                  (try go_wp2)
                  go_roundg (ko - 1)
                  case measure => have := HKO.out; omega
                  case rel => exact ⟨kp + 1, s + 1, dk, by first | rfl | (congr 1; go_num), by first | rfl | (congr 1; go_num), by omega, by have := HKO.out; omega, by omega, by omega, HK, HW7, ⟨by rw [HF3.out, HD3.out]⟩⟩
            · have c1 : decide ((b : Int) - ((kp + 1 : Nat) : Int) ≥ 2) = false := decide_eq_false (by omega)
              have c2 : ¬ (2 : Int) ≤ (b : Int) - ((kp : Int) + 1) := by omega
              go_wp2_with (fail)
              have HD3 : Aside0 (fixUp ltInt b (kp + 1) D2 = D2) := ⟨by unfold fixUp; rw [if_neg hkb2]⟩
              (try go_wp2)
              go_roundg (ko - 1)
              case measure => have := HKO.out; omega
              case rel => exact ⟨kp + 1, s + 1, D2, by first | rfl | (congr 1; go_num), by first | rfl | (congr 1; go_num), by omega, by have := HKO.out; omega, by omega, by omega, HK2, HW7, ⟨by rw [HF3.out, HD3.out]⟩⟩
end Go.Proofs.YtplhihakeodadaaDoor.Sg
