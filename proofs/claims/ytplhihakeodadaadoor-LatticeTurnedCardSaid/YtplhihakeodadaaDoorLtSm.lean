/- lattice: slices.Sort of at most 12 numbers. -/
import Derived.Test.YtplhihakeodadaaDoorLtSo
import Derived.Sort.Walk13a
namespace Go.Proofs.YtplhihakeodadaaDoor.Sg
open Go Go.Sort Go.RowKit Go.Proofs Go.Proofs.YtplhihakeodadaaDoorW.PrintWords Go.Proofs.YtplhihakeodadaaDoorW.PrintLast Go.Proofs.YtplhihakeodadaaDoorW.PrintMore
set_option linter.unusedVariables false
set_option linter.unusedSimpArgs false
theorem Len_T (x : Nat) (hx : x < 2 ^ 64) (w : World) : Calls Tryd.prog 73 #[.int .u64 (x : Int)] w fun e w' => e = .returned (.int .i64 ((Lib.bitLen x : Nat) : Int)) ∧ w' = w := by
  have h := Any.bits_Len Tryd.lenL (x : Int) w (Int.natCast_nonneg x) (by omega)
  rw [Int.toNat_natCast] at h
  exact h
set_option maxHeartbeats 4000000 in
set_option maxRecDepth 100000 in
theorem pdqS_T (w0 : World) (bk c a b : Nat) (lim : Int) (d0 d : Array Int) (w : World) (R : RU w0 bk d0) (hs : d.size = d0.size) (h : SU w0 bk d w) (hab : a ≤ b) (hb : b ≤ d.size) (hl : d.size ≤ 1000000000) (h12 : b - a ≤ 12) :
    Calls Tryd.prog 72 #[.slice (some ⟨bk, 0, none⟩) d.size c, .int .i64 (a : Int), .int .i64 (b : Int), .int .i64 lim] w fun e w' => e = .returned (.tuple #[]) ∧ SU w0 bk (insertionSort ltInt d a b) w' := by
  have K := Aside0.mk (insSort_T w0 bk c a b d0 d w R hs h hab hb hl)
  have e1 : decide ((b : Int) - (a : Int) ≤ 12) = true := decide_eq_true (by omega)
  have e2 : wrap64 ((b : Int) - (a : Int)) = (b : Int) - (a : Int) := by unfold wrap64; omega
  clear R hs h
  go_enter Tryd.func72, Tryd.ntmps72
  go_wp2
  go_loopg [1, 2] 1 (fun kq v1 v2 w' => v1 = .int .i64 (a : Int) ∧ v2 = .int .i64 (b : Int) ∧ w' = w)
  case atStart => exact ⟨rfl, rfl, rfl⟩
  case round =>
    obtain ⟨rfl, rfl, rfl⟩ := hrel
    go_wp2_with (fail)
    refine K.out.mono ?_
    rintro e w1 ⟨rfl, hS⟩
    go_wp2
    refine bodyPost_ret (v := .tuple #[]) (by simp [results, Tryd.results72, go_sem]) rfl ?_
    exact ⟨rfl, hS⟩
set_option maxHeartbeats 4000000 in
set_option maxRecDepth 100000 in
theorem SortS_T (w0 : World) (bk c : Nat) (d0 d : Array Int) (w : World) (R : RU w0 bk d0) (hs : d.size = d0.size) (h : SU w0 bk d w) (h12 : d.size ≤ 12) :
    Calls Tryd.prog 53 #[.slice (some ⟨bk, 0, none⟩) d.size c] w fun e w' => e = .returned (.tuple #[]) ∧ SU w0 bk (sort ltInt d) w' := by
  have e0 : sort ltInt d = insertionSort ltInt d 0 d.size := by unfold sort; rw [pdq_small (by omega)]
  rw [e0]
  have KL := Aside0.mk (fun W => Len_T d.size (by omega) W)
  have K := Aside0.mk (fun lim => pdqS_T w0 bk c 0 d.size lim d0 d w R hs h (Nat.zero_le _) (Nat.le_refl _) (by omega) (by omega))
  have hw : IntKind.u64.wrap ((d.size : Nat) : Int) = ((d.size : Nat) : Int) := by simp only [IntKind.wrap, IntKind.bits, IntKind.signed]; simp; omega
  clear e0 R hs h
  go_enter Tryd.func53, Tryd.ntmps53
  go_wp2_with (fail)
  refine (KL.out _).mono ?_
  rintro e w1 ⟨rfl, rfl⟩
  go_wp2_with (fail)
  refine (K.out _).mono ?_
  rintro e w1 ⟨rfl, hS⟩
  go_wp2
  go_end0
  exact ⟨rfl, hS⟩
end Go.Proofs.YtplhihakeodadaaDoor.Sg
