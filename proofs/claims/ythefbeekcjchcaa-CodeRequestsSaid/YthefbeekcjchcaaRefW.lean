/- The document's reader (fail, num, size, Ints, End), walked. -/
import Derived.Test.YthefbeekcjchcaaIP
import Derived.Deep.QuietTactic
import Derived.BigQuiet
import Derived.Test.YthefbeekcjchcaaGetVer
namespace Go.Proofs.Ythefbeekcjchcaa.P
open Go Go.RowKit Go.Proofs.YthefbeekcjchcaaW.PrintWords Go.Proofs.YthefbeekcjchcaaW.PrintLast Go.Proofs.YthefbeekcjchcaaW.PrintMore
set_option linter.unusedVariables false
set_option linter.unusedSimpArgs false
/-- The document's reader in memory: where it stands, its first error. -/
def RM (w0 w : World) (g : Nat) (B : List Int) (i e : Int) : Prop := ∃ A c, w.heap[g]? = some (.cells #[.slice A B.length c, .int .i64 i, .int .i64 e] 39 (0, 0)) ∧ w0.heap.size ≤ g ∧ Kd.C (Kd.int .u8) w0 A B.length B ∧ B.length ≤ c
theorem RM.set1 {w0 w : World} {g : Nat} {B : List Int} {i e : Int} (h : RM w0 w g B i e) (x : Int) : RM w0 (w.setCell ⟨g, 1, none⟩ (.int .i64 x)) g B x e := by
  obtain ⟨A, c, hg, r⟩ := h
  refine ⟨A, c, ?_, r⟩
  obtain ⟨hlt, hv⟩ := Array.getElem?_eq_some_iff.1 hg
  simp [World.setCell, Array.getElem?_modify, hg]
theorem RM.set2 {w0 w : World} {g : Nat} {B : List Int} {i e : Int} (h : RM w0 w g B i e) (x : Int) : RM w0 (w.setCell ⟨g, 2, none⟩ (.int .i64 x)) g B i x := by
  obtain ⟨A, c, hg, r⟩ := h
  refine ⟨A, c, ?_, r⟩
  obtain ⟨hlt, hv⟩ := Array.getElem?_eq_some_iff.1 hg
  simp [World.setCell, Array.getElem?_modify, hg]
theorem RM.below {w0 w w1 : World} {g : Nat} {B : List Int} {i e : Int} (h : RM w0 w g B i e) (hb : Below w.heap.size w w1) : RM w0 w1 g B i e := by
  obtain ⟨A, c, hg, r⟩ := h
  exact ⟨A, c, (hb.block g (blk_lt hg)).trans hg, r⟩
theorem RM.base {w0 w : World} {g : Nat} {B : List Int} {i e : Int} (h : RM w0 w g B i e) : w0.heap.size ≤ g := by
  obtain ⟨A, c, _, h, _⟩ := h
  exact h
theorem RM.lt {w0 w : World} {g : Nat} {B : List Int} {i e : Int} (h : RM w0 w g B i e) : g < w.heap.size := by
  obtain ⟨A, c, h, _⟩ := h
  exact blk_lt h
theorem R_fail_calls (g : Nat) (B : List Int) (i e x : Int) (w0 w : World) (hI : RM w0 w g B i e) (hB : Below w0.heap.size w0 w) :
    Calls Try.prog 42 #[.pointer (some ⟨g, 0, none⟩), .int .i64 x] w fun e' w' => e' = .returned (.tuple #[]) ∧ RM w0 w' g B i (if e = 0 then x else e) ∧ Below w0.heap.size w0 w' ∧ Only w w' g := by
  have HI := Aside0.mk hI
  have HB := Aside0.mk hB
  have HG0 := Aside0.mk hI.base
  obtain ⟨A, c, hg, _⟩ := hI
  have hc2 := (blk_cell hg) 2
  have hz := free_of hg 2
  clear hg hB
  by_cases h : e = 0
  · have h1 : (e == 0) = true := beq_iff_eq.2 h
    rw [if_pos h]
    clear h
    go_enter Try.func42, Try.ntmps42
    go_wp2
    go_end0
    exact ⟨rfl, HI.out.set2 x, HB.out.setCell (p := ⟨g, 2, none⟩) HG0.out _, Only.set _ _ _ _⟩
  · have h1 : (e == 0) = false := beq_eq_false_iff_ne.2 h
    rw [if_neg h]
    clear h
    go_enter Try.func42, Try.ntmps42
    go_wp2
    go_end0
    exact ⟨rfl, HI.out, HB.out, Only.refl _ _⟩
theorem shl7w (c : Int) (k : Nat) (h0 : 0 ≤ c) (h1 : c < 128) (hk : k ≤ 5) : wrap64 (c * 2 ^ (7 * (k : Int)).toNat) = c * 128 ^ k := by
  have hp := pow128 k hk
  rw [show (7 * (k : Int)).toNat = 7 * k by omega]
  obtain ⟨m, rfl⟩ : ∃ m : Nat, c = (m : Int) := ⟨c.toNat, by omega⟩
  have hm : m * 128 ^ k ≤ 127 * 34359738368 := Nat.mul_le_mul (by omega) hp.2.1
  have e1 : (m : Int) * (2 : Int) ^ (7 * k) = (m : Int) * 128 ^ k := by rw [hp.1, hp.2.2]; push_cast; rfl
  have e2 : (m : Int) * 128 ^ k = ((m * 128 ^ k : Nat) : Int) := by rw [hp.1]; push_cast; rfl
  rw [e1, e2]
  generalize m * 128 ^ k = z at hm
  clear hp e1 e2
  unfold wrap64
  omega
/-- What R.num comes to. -/
def RNum (r : Int × List Int × Int) (w0 w : World) (g : Nat) (B : List Int) (e' : Ending) (w' : World) : Prop :=
  e' = .returned (.int .i64 r.1) ∧ (∃ i' : Nat, i' ≤ B.length ∧ r.2.1 = B.drop i' ∧ RM w0 w' g B (i' : Int) r.2.2) ∧ Below w0.heap.size w0 w' ∧ Only w w' g
theorem rd_dropB {B : List Int} {i : Nat} (h : i < B.length) : B.drop i = rd B (i : Int) :: B.drop (i + 1) := drop_rd h
set_option maxHeartbeats 8000000 in
set_option maxRecDepth 20000 in
theorem R_num_calls (g : Nat) (B : List Int) (i : Nat) (hi : i ≤ B.length) (e : Int) (w0 w : World) (hI : RM w0 w g B (i : Int) e) (hB : Below w0.heap.size w0 w) (hby : Bytes B) (hlen : B.length ≤ 1000000000) :
    Calls Try.prog 41 #[.pointer (some ⟨g, 0, none⟩)] w (RNum (dnum (B.drop i) e) w0 w g B) := by
  have HI := Aside0.mk hI
  have HB := Aside0.mk hB
  have HBY := Aside0.mk hby
  have HN := Aside0.mk hlen
  have HIL := Aside0.mk hi
  clear hI hB hby hlen hi
  obtain ⟨r, hr⟩ : ∃ r, dnum (B.drop i) e = r := ⟨_, rfl⟩
  rw [hr]
  by_cases he : e = 0
  · subst he
    rw [dnum, if_pos rfl] at hr
    have HP := Aside0.mk hr
    clear hr
    go_enter Try.func41, Try.ntmps41
    go_wp2
    go_loopg [3, 4, 5] 7 (fun kq v3 v4 v5 w' => ∃ (k : Nat) (n : Int) (j : Nat), v3 = .int .i64 n ∧ v4 = .int .i64 (k : Int) ∧ Aside0 (k + kq = 7 ∧ k ≤ 6) ∧ Aside0 (k ≤ 5 → 0 ≤ n ∧ n < 128 ^ k) ∧ Aside0 (j ≤ B.length) ∧ Aside0 (k ≤ 5 → dn k n (B.drop j) = r) ∧ Aside0 (k = 6 → r = (0, B.drop j, 12)) ∧ Aside0 (RM w0 w' g B (j : Int) 0) ∧ Aside0 (Below w0.heap.size w0 w') ∧ Aside0 (Only w w' g))
    case atStart => exact ⟨0, 0, i, rfl, rfl, ⟨by omega, by omega⟩, ⟨fun _ => by simp⟩, HIL, ⟨fun _ => HP.out⟩, ⟨fun h => by omega⟩, HI, HB, ⟨Only.refl _ _⟩⟩
    case round =>
      clear HI HB HP HIL
      obtain ⟨k, n, j, rfl, rfl, HK, HNN, HJ, HP, HP6, HI, HB, HKB⟩ := hrel
      have HG0 := Aside0.mk HI.out.base
      obtain ⟨A0, c0, hg, hg0, hC, hcc⟩ := HI.out
      have hc0 := (blk_cell hg) 0
      have hc1 := (blk_cell hg) 1
      have hc2 := (blk_cell hg) 2
      have hz := free_of hg 1
      have HC := Aside0.mk hC
      clear hg hC hg0 hcc
      by_cases hk6 : k = 6
      · subst hk6
        have hr := HP6.out rfl
        subst hr
        have KF := Aside0.mk (R_fail_calls g B (j : Int) 0 12 w0 wr HI.out HB.out)
        rw [if_pos rfl] at KF
        go_wp2_with (fail)
        refine KF.out.mono ?_
        rintro e w2 ⟨rfl, hi, hb, hk⟩
        have HI1 := Aside0.mk hi
        have HB1 := Aside0.mk hb
        have HK1 := Aside0.mk (HKB.out.trans hk)
        clear hi hb hk
        go_wp2
        go_ret
        exact ⟨rfl, ⟨j, HJ.out, rfl, HI1.out⟩, HB1.out, HK1.out⟩
      · have hk5 : k ≤ 5 := by have := HK.out; omega
        have hP := HP.out hk5
        have hnn := HNN.out hk5
        have d6 : decide ((k : Int) < 6) = true := decide_eq_true (by omega)
        by_cases hjl : j < B.length
        · have g1 : decide (B.length ≤ j) = false := decide_eq_false (by omega)
          have g1' : decide ((B.length : Int) ≤ (j : Int)) = false := decide_eq_false (by omega)
          have hjd := rd_dropB hjl
          obtain ⟨hb0, hb1⟩ := HBY.out (rd B (j : Int)) (by have := List.mem_of_mem_drop (i := j) (l := B) (a := rd B (j : Int)) (by rw [hjd]; exact List.mem_cons_self ..); exact this)
          obtain ⟨ad, ea, hx⟩ := Kd.at_int (Kd.C_below HC.out HB.out) (j : Int) (by omega) (by omega)
          cases ea
          rw [Int.toNat_natCast] at hx
          rw [hjd] at hP
          generalize rd B (j : Int) = b at hx hP hb0 hb1
          have hsw := shl7w (b % 128) k (by omega) (by omega) hk5
          have hsh := shl7 (P := Try.prog) (b % 128) k (by omega) (by omega) hk5
          have hp := pow128 k hk5
          have hnext : 0 ≤ n + b % 128 * 128 ^ k ∧ n + b % 128 * 128 ^ k < 128 ^ (k + 1) ∧ n + b % 128 * 128 ^ k < 4611686018427387904 := by
            have h2 : 0 ≤ b % 128 ∧ b % 128 ≤ 127 := by omega
            have hpl := hp.2.1
            rw [Int.pow_succ]
            rw [hp.1] at hnn ⊢
            have hpl' : ((128 ^ k : Nat) : Int) ≤ 34359738368 := Int.ofNat_le.2 hpl
            generalize ((128 ^ k : Nat) : Int) = p at hnn hpl' ⊢
            obtain ⟨h2a, h2b⟩ := h2
            generalize b % 128 = y at h2a h2b ⊢
            have h3 : y * p ≤ 127 * p := Int.mul_le_mul_of_nonneg_right h2b (by omega)
            have h4 : 0 ≤ y * p := Int.mul_nonneg h2a (by omega)
            omega
          rw [dn] at hP
          obtain ⟨Y, hY⟩ : ∃ Y, b % 128 * 128 ^ k = Y := ⟨_, rfl⟩
          rw [hY] at hsw hP hnext
          simp only [hY] at hsh
          have hY0 : 0 ≤ Y := by
            rw [← hY]
            exact Int.mul_nonneg (by omega) (Int.pow_nonneg (by omega))
          obtain ⟨N', hN'⟩ : ∃ N', n + Y = N' := ⟨_, rfl⟩
          rw [hN'] at hP hnext
          have HNX : Aside0 (0 ≤ N' ∧ N' < 128 ^ (k + 1)) := ⟨⟨hnext.1, hnext.2.1⟩⟩
          have hN0 := hnext.1
          have hN4 := hnext.2.2
          clear hnext
          have eJ : wrap64 ((j : Int) + 1) = ((j + 1 : Nat) : Int) := by have := HN.out; unfold wrap64; omega
          have HI1 := Aside0.mk (HI.out.set1 ((j + 1 : Nat) : Int))
          have HB1 := Aside0.mk (HB.out.setCell (p := ⟨g, 1, none⟩) HG0.out (.int .i64 ((j + 1 : Nat) : Int)))
          have HJ1 : Aside0 (j + 1 ≤ B.length) := ⟨Nat.succ_le_of_lt hjl⟩
          have eN : wrap64 (n + Y) = N' := by rw [hN']; unfold wrap64; clear hY hp hjd hnn hP HNX HP HP6 HNN; omega
          clear hY hp hjd hnn
          obtain ⟨kk, hkk⟩ : ∃ kk : Int, (k : Int) = kk := ⟨_, rfl⟩
          have e7 : wrap64 (7 * kk) = 7 * kk := by unfold wrap64; omega
          have e8 : wrap64 (kk + 1) = ((k + 1 : Nat) : Int) := by unfold wrap64; omega
          rw [hkk] at hsw d6 ⊢
          simp only [hkk] at hsh
          have eT : Int.tmod b 128 = b % 128 := Int.tmod_eq_emod_of_nonneg hb0
          by_cases cb : b < 128
          · have d1 : decide (b < 128) = true := decide_eq_true cb
            by_cases cN : N' > 1099511627776
            · rw [if_pos (.inl ⟨cb, .inl cN⟩)] at hP
              subst hP
              have d2 : decide (1099511627776 < N') = true := decide_eq_true cN
              clear cb cN hkk hk5
              go_wp2
              repeat (go_quiet (fail); go_wp2_with (fail))
              refine (R_fail_calls g B ((j + 1 : Nat) : Int) 0 12 w0 _ (RM.set1 (show RM w0 (wr.drewN _) g B (j : Int) 0 from HI.out) _) ((pw_below_drewN HB.out _).setCell (p := ⟨g, 1, none⟩) HG0.out _)).mono ?_
              rintro e w2 ⟨rfl, hi, hb, hk⟩
              rw [if_pos rfl] at hi
              have HI2 := Aside0.mk hi
              have HB2 := Aside0.mk hb
              have HK2 := Aside0.mk ((show Only w (wr.drewN _) g from HKB.out).trans ((Only.set _ _ 1 _).trans hk))
              clear hi hb hk
              go_wp2
              go_ret
              exact ⟨rfl, ⟨j + 1, HJ1.out, rfl, HI2.out⟩, HB2.out, HK2.out⟩
            · have d2 : decide (1099511627776 < N') = false := decide_eq_false cN
              by_cases ck : 0 < kk
              · have d3 : decide (0 < kk) = true := decide_eq_true ck
                by_cases c0' : b = 0
                · rw [if_pos (.inl ⟨cb, .inr ⟨by omega, c0'⟩⟩)] at hP
                  subst hP
                  have d4 : (b == 0) = true := beq_iff_eq.2 c0'
                  clear cb cN hkk hk5 ck c0'
                  go_wp2
                  repeat (go_quiet (fail); go_wp2_with (fail))
                  refine (R_fail_calls g B ((j + 1 : Nat) : Int) 0 12 w0 _ (RM.set1 (show RM w0 (wr.drewN _) g B (j : Int) 0 from HI.out) _) ((pw_below_drewN HB.out _).setCell (p := ⟨g, 1, none⟩) HG0.out _)).mono ?_
                  rintro e w2 ⟨rfl, hi, hb, hk⟩
                  rw [if_pos rfl] at hi
                  have HI2 := Aside0.mk hi
                  have HB2 := Aside0.mk hb
                  have HK2 := Aside0.mk ((show Only w (wr.drewN _) g from HKB.out).trans ((Only.set _ _ 1 _).trans hk))
                  clear hi hb hk
                  go_wp2
                  go_ret
                  exact ⟨rfl, ⟨j + 1, HJ1.out, rfl, HI2.out⟩, HB2.out, HK2.out⟩
                · rw [if_neg (by omega), if_pos cb] at hP
                  subst hP
                  have d4 : (b == 0) = false := beq_eq_false_iff_ne.2 c0'
                  clear cb cN hkk hk5 ck c0'
                  go_wp2
                  repeat (go_quiet (fail); go_wp2)
                  go_ret
                  exact ⟨rfl, ⟨j + 1, HJ1.out, rfl, RM.set1 (show RM w0 (wr.drewN _) g B (j : Int) 0 from HI.out) _⟩, (pw_below_drewN HB.out _).setCell (p := ⟨g, 1, none⟩) HG0.out _, (show Only w (wr.drewN _) g from HKB.out).trans (Only.set _ _ 1 _)⟩
              · rw [if_neg (by omega), if_pos cb] at hP
                subst hP
                have d3 : decide (0 < kk) = false := decide_eq_false ck
                clear cb cN hkk hk5 ck
                go_wp2
                repeat (go_quiet (fail); go_wp2)
                go_ret
                exact ⟨rfl, ⟨j + 1, HJ1.out, rfl, RM.set1 (show RM w0 (wr.drewN _) g B (j : Int) 0 from HI.out) _⟩, (pw_below_drewN HB.out _).setCell (p := ⟨g, 1, none⟩) HG0.out _, (show Only w (wr.drewN _) g from HKB.out).trans (Only.set _ _ 1 _)⟩
          · have d1 : decide (b < 128) = false := decide_eq_false cb
            by_cases ck : kk = 5
            · rw [if_pos (.inr ⟨by omega, by omega⟩)] at hP
              have HP6' : Aside0 (k + 1 = 6 → r = (0, B.drop (j + 1), 12)) := ⟨fun _ => hP.symm⟩
              have HPn : Aside0 (k + 1 ≤ 5 → dn (k + 1) N' (B.drop (j + 1)) = r) := ⟨fun h => by omega⟩
              have HNX' : Aside0 (k + 1 ≤ 5 → 0 ≤ N' ∧ N' < 128 ^ (k + 1)) := ⟨fun h => by omega⟩
              clear cb ck hkk hk5 hP HP HP6 HNN HNX
              go_wp2
              repeat (go_quiet (fail); go_wp2)
              go_roundg (gk - 1)
              case measure => have := HK.out; omega
              case rel => exact ⟨k + 1, N', j + 1, rfl, congrArg _ e8, ⟨by have := HK.out; omega⟩, HNX', HJ1, HPn, HP6', ⟨RM.set1 (show RM w0 (wr.drewN _) g B (j : Int) 0 from HI.out) _⟩, ⟨(pw_below_drewN HB.out _).setCell (p := ⟨g, 1, none⟩) HG0.out _⟩, ⟨(show Only w (wr.drewN _) g from HKB.out).trans (Only.set _ _ 1 _)⟩⟩
            · rw [if_neg (by omega), if_neg cb] at hP
              have HP6' : Aside0 (k + 1 = 6 → r = (0, B.drop (j + 1), 12)) := ⟨fun h => by omega⟩
              have HPn : Aside0 (k + 1 ≤ 5 → dn (k + 1) N' (B.drop (j + 1)) = r) := ⟨fun _ => hP⟩
              have HNX' : Aside0 (k + 1 ≤ 5 → 0 ≤ N' ∧ N' < 128 ^ (k + 1)) := ⟨fun _ => HNX.out⟩
              clear cb ck hkk hk5 hP HP HP6 HNN HNX
              go_wp2
              repeat (go_quiet (fail); go_wp2)
              go_roundg (gk - 1)
              case measure => have := HK.out; omega
              case rel => exact ⟨k + 1, N', j + 1, rfl, congrArg _ e8, ⟨by have := HK.out; omega⟩, HNX', HJ1, HPn, HP6', ⟨RM.set1 (show RM w0 (wr.drewN _) g B (j : Int) 0 from HI.out) _⟩, ⟨(pw_below_drewN HB.out _).setCell (p := ⟨g, 1, none⟩) HG0.out _⟩, ⟨(show Only w (wr.drewN _) g from HKB.out).trans (Only.set _ _ 1 _)⟩⟩
        · obtain rfl : j = B.length := by have := HJ.out; omega
          have g1 : decide (B.length ≤ B.length) = true := decide_eq_true (Nat.le_refl _)
          rw [List.drop_length, dn] at hP
          subst hP
          obtain ⟨kk, hkk⟩ : ∃ kk : Int, (k : Int) = kk := ⟨_, rfl⟩
          rw [hkk] at d6 ⊢
          clear hkk hnn
          go_wp2
          repeat (go_quiet (fail); go_wp2_with (fail))
          refine (R_fail_calls g B ((B.length : Nat) : Int) 0 13 w0 _ (show RM w0 (wr.drewN _) g B (B.length : Int) 0 from HI.out) (pw_below_drewN HB.out _)).mono ?_
          rintro e w2 ⟨rfl, hi, hb, hk⟩
          rw [if_pos rfl] at hi
          have HI2 := Aside0.mk hi
          have HB2 := Aside0.mk hb
          have HK2 := Aside0.mk ((show Only w (wr.drewN _) g from HKB.out).trans hk)
          clear hi hb hk
          go_wp2
          go_ret
          exact ⟨rfl, ⟨B.length, Nat.le_refl _, (List.drop_length ..).symm, HI2.out⟩, HB2.out, HK2.out⟩
  · have h1 : (e == 0) = false := beq_eq_false_iff_ne.2 he
    rw [dnum, if_neg he] at hr
    subst hr
    obtain ⟨A0, c0, hg, hg0, hC, hcc⟩ := HI.out
    have hc1 := (blk_cell hg) 2
    have KF := Aside0.mk (R_fail_calls g B (i : Int) e 12 w0 w HI.out HB.out)
    rw [if_neg he] at KF
    clear hg hg0 hC hcc he
    go_enter Try.func41, Try.ntmps41
    go_wp2
    go_loopg [4] 1 (fun kq v4 w' => v4 = .int .i64 0 ∧ Aside0 (w' = w))
    case atStart => exact ⟨rfl, ⟨rfl⟩⟩
    case round =>
      obtain ⟨rfl, ⟨rfl⟩⟩ := hrel
      go_wp2_with (fail)
      refine KF.out.mono ?_
      rintro e2 w2 ⟨rfl, hi, hb, hk⟩
      have HI2 := Aside0.mk hi
      have HB2 := Aside0.mk hb
      have HK2 := Aside0.mk hk
      clear hi hb hk
      go_wp2
      go_ret
      exact ⟨rfl, ⟨i, HIL.out, rfl, HI2.out⟩, HB2.out, HK2.out⟩
end Go.Proofs.Ythefbeekcjchcaa.P
namespace Go.Proofs.Ythefbeekcjchcaa.P
open Go Go.RowKit Go.Proofs.YthefbeekcjchcaaW.PrintWords Go.Proofs.YthefbeekcjchcaaW.PrintLast Go.Proofs.YthefbeekcjchcaaW.PrintMore
set_option linter.unusedVariables false
set_option linter.unusedSimpArgs false
theorem q_dn_zero : ∀ (xs : List Int) (k : Nat) (n : Int), (dn k n xs).2.2 ≠ 0 → (dn k n xs).1 = 0
  | [], k, n, _ => by rw [dn]
  | c :: xs, k, n, h => by
    rw [dn] at h ⊢
    split
    · rfl
    · rename_i h1
      rw [if_neg h1] at h
      split
      · rename_i h2
        rw [if_pos h2] at h
        exact absurd rfl h
      · rename_i h2
        rw [if_neg h2] at h
        exact q_dn_zero xs _ _ h
theorem q_dnum_err (xs : List Int) (e : Int) (h : (dnum xs e).2.2 ≠ 0) : (dnum xs e).1 = 0 := by
  unfold dnum at h ⊢
  split
  · rename_i h1; rw [if_pos h1] at h; exact q_dn_zero xs _ _ h
  · rfl
set_option maxHeartbeats 8000000 in
set_option maxRecDepth 20000 in
theorem R_size_calls (g : Nat) (B : List Int) (i : Nat) (hi : i ≤ B.length) (e : Int) (w0 w : World) (hI : RM w0 w g B (i : Int) e) (hB : Below w0.heap.size w0 w) (hby : Bytes B) (hlen : B.length ≤ 1000000000) :
    Calls Try.prog 40 #[.pointer (some ⟨g, 0, none⟩)] w (RNum (dsize (B.drop i) e) w0 w g B) := by
  have K := Aside0.mk (R_num_calls g B i hi e w0 w hI hB hby hlen)
  have he := q_dnum_err (B.drop i) e
  have hnn := (dnum_left (B.drop i) e (fun x hx => hby x (List.mem_of_mem_drop hx))).1
  have HN := Aside0.mk hlen
  unfold dsize
  generalize dnum (B.drop i) e = r at K he hnn ⊢
  obtain ⟨n, xs, e1⟩ := r
  dsimp only at K he hnn ⊢
  have HE := Aside0.mk he
  have HNN := Aside0.mk hnn
  clear hI hB hby hlen he hi hnn
  by_cases c : n > (xs.length : Int)
  · have h0 : e1 = 0 := Classical.byContradiction fun h => by have := HE.out h; omega
    subst h0
    rw [if_pos c, if_pos rfl]
    have HC := Aside0.mk c
    clear c
    go_enter Try.func40, Try.ntmps40
    go_wp2_with (fail)
    refine K.out.mono ?_
    rintro e w1 ⟨hr, ⟨j, hj, hxs, hi⟩, hb, hk⟩
    dsimp only at hr hxs hi
    subst hr
    subst hxs
    have HI := Aside0.mk hi
    have HB := Aside0.mk hb
    have HK := Aside0.mk hk
    have HJ := Aside0.mk hj
    obtain ⟨A, c0, hg, _⟩ := hi
    have hc0 := (blk_cell hg) 0
    have hc1 := (blk_cell hg) 1
    have hc2 := (blk_cell hg) 2
    have eW : wrap64 ((B.length : Int) - (j : Int)) = ((B.length - j : Nat) : Int) := by have := HN.out; unfold wrap64; omega
    have d : decide (((B.length - j : Nat) : Int) < n) = true := by have := HC.out; rw [List.length_drop] at this; exact decide_eq_true (by omega)
    generalize ((B.length - j : Nat) : Int) = L at eW d
    clear hb hk hg hj K HC

    go_wp2
    repeat (go_quiet (fail); go_wp2_with (fail))
    refine (R_fail_calls g B (j : Int) 0 13 w0 _ (show RM w0 (w1.drewN _) g B (j : Int) 0 from HI.out) (pw_below_drewN HB.out _)).mono ?_
    rintro e w2 ⟨rfl, hi, hb, hk⟩
    rw [if_pos rfl] at hi
    have HI2 := Aside0.mk hi
    have HB2 := Aside0.mk hb
    have HK2 := Aside0.mk ((show Only w (w1.drewN _) g from HK.out).trans hk)
    obtain ⟨A, c0, hg, _⟩ := hi
    have hc2 := (blk_cell hg) 2
    clear hb hk hc1 hc0 hg
    go_wp2
    go_ret
    exact ⟨rfl, ⟨j, HJ.out, rfl, HI2.out⟩, HB2.out, HK2.out⟩
  · rw [if_neg c]
    have HC := Aside0.mk c
    clear c
    by_cases h : e1 = 0
    · subst h
      go_enter Try.func40, Try.ntmps40
      go_wp2_with (fail)
      refine K.out.mono ?_
      rintro e w1 ⟨hr, ⟨j, hj, hxs, hi⟩, hb, hk⟩
      dsimp only at hr hxs hi
      subst hr
      subst hxs
      have HI := Aside0.mk hi
      have HB := Aside0.mk hb
      have HK := Aside0.mk hk
      have HJ := Aside0.mk hj
      obtain ⟨A, c0, hg, _⟩ := hi
      have hc0 := (blk_cell hg) 0
      have hc1 := (blk_cell hg) 1
      have hc2 := (blk_cell hg) 2
      have eW : wrap64 ((B.length : Int) - (j : Int)) = ((B.length - j : Nat) : Int) := by have := HN.out; unfold wrap64; omega
      have d : decide (((B.length - j : Nat) : Int) < n) = false := by have := HC.out; rw [List.length_drop] at this; exact decide_eq_false (by omega)
      generalize ((B.length - j : Nat) : Int) = L at eW d
      clear hb hk hg hj K HC

      go_wp2
      repeat (go_quiet (fail); go_wp2_with (fail))
      go_ret
      exact ⟨rfl, ⟨j, HJ.out, rfl, show RM w0 (w1.drewN _) g B (j : Int) 0 from HI.out⟩, pw_below_drewN HB.out _, show Only w (w1.drewN _) g from HK.out⟩
    · have hn : n = 0 := HE.out h
      subst hn
      have h1 : (e1 == 0) = false := beq_eq_false_iff_ne.2 h
      have h2 : (e1 != 0) = true := by simp [h]
      clear h
      go_enter Try.func40, Try.ntmps40
      go_wp2_with (fail)
      refine K.out.mono ?_
      rintro e w1 ⟨hr, ⟨j, hj, hxs, hi⟩, hb, hk⟩
      dsimp only at hr hxs hi
      subst hr
      subst hxs
      have HI := Aside0.mk hi
      have HB := Aside0.mk hb
      have HK := Aside0.mk hk
      have HJ := Aside0.mk hj
      obtain ⟨A, c0, hg, _⟩ := hi
      have hc0 := (blk_cell hg) 0
      have hc1 := (blk_cell hg) 1
      have hc2 := (blk_cell hg) 2
      clear hb hk hg hj K HC

      go_wp2
      repeat (go_quiet (fail); go_wp2)
      go_ret
      exact ⟨rfl, ⟨j, HJ.out, rfl, show RM w0 (w1.drewN _) g B (j : Int) e1 from HI.out⟩, pw_below_drewN HB.out _, show Only w (w1.drewN _) g from HK.out⟩
/-- The document's reader in memory, by its state. -/
def RQ (w0 w : World) (g : Nat) (B : List Int) (st : St) : Prop := ∃ (i : Nat) (e : Int), i ≤ B.length ∧ RM w0 w g B (i : Int) e ∧ Rep (B.drop i) e st
theorem RQ.below {w0 w w1 : World} {g : Nat} {B : List Int} {st : St} (h : RQ w0 w g B st) (hb : Below w.heap.size w w1) : RQ w0 w1 g B st := by
  obtain ⟨i, e, h0, h1, h2⟩ := h
  exact ⟨i, e, h0, h1.below hb, h2⟩
theorem RQ.grown {w0 w w1 : World} {g : Nat} {B : List Int} {st : St} (h : RQ w0 w g B st) {row : Option Nat} (hg : w.grownBy w1 row) (hne : some g ≠ row) : RQ w0 w1 g B st := by
  obtain ⟨i, e, h0, ⟨A, c, h1, r⟩, h2⟩ := h
  exact ⟨i, e, h0, ⟨A, c, (hg.block g (blk_lt h1) hne).trans h1, r⟩, h2⟩
theorem RQ.lt {w0 w : World} {g : Nat} {B : List Int} {st : St} (h : RQ w0 w g B st) : g < w.heap.size := by
  obtain ⟨i, e, _, h1, h2⟩ := h
  exact h1.lt
theorem RQ.turned {w0 w w' : World} {g b : Nat} {B : List Int} {st : St} (h : RQ w0 w g B st) (hb : g ≠ b) (hf : ∀ k, k ≠ b → w'.heap[k]? = w.heap[k]?) : RQ w0 w' g B st := by
  obtain ⟨i, e, h0, ⟨A, c, h1, r⟩, h2⟩ := h
  exact ⟨i, e, h0, ⟨A, c, (hf g hb).trans h1, r⟩, h2⟩
theorem RQ.far {w0 w : World} {g b : Nat} {B : List Int} {st : St} (h : RQ w0 w g B st) (hb : b ≠ g) (o : Nat) (v : Value) : RQ w0 (w.setCell ⟨b, o, none⟩ v) g B st :=
  h.turned hb.symm fun k hk => Below.heap_setCell w ⟨b, o, none⟩ v k hk
theorem RQ.ecell {w0 w : World} {g : Nat} {B : List Int} {st : St} (h : RQ w0 w g B st) : ∃ e, w.cell? ⟨g, 2, none⟩ = some (.int .i64 e) ∧ ((e = 0 ∧ ∃ bs, st = .left bs) ∨ (e ≠ 0 ∧ st = .err e)) := by
  obtain ⟨i, e, _, ⟨A, c, h1, _⟩, h2⟩ := h
  refine ⟨e, (blk_cell h1) 2, ?_⟩
  rcases h2 with ⟨h2, h3⟩ | h2
  · exact .inl ⟨h2, _, h3⟩
  · exact .inr h2
/-- What a function of the document's reader comes to. -/
def RTell {α : Type} (p : Rdr α) (V : Value → α → World → Prop) (w0 w : World) (g : Nat) (B : List Int) (st : St) (e : Ending) (w' : World) : Prop :=
  ∃ v x st', e = .returned v ∧ V v x w' ∧ Step p st x st' ∧ RQ w0 w' g B st' ∧ Below w0.heap.size w0 w' ∧ Only w w' g
theorem R_num_Q (g : Nat) (B : List Int) (hB0 : Bytes B ∧ B.length ≤ 1000000000) (st : St) (w0 w : World) (hI : RQ w0 w g B st) (hB : Below w0.heap.size w0 w) :
    Calls Try.prog 41 #[.pointer (some ⟨g, 0, none⟩)] w (RTell rnum VInt w0 w g B st) := by
  obtain ⟨i, e, h0, h1, h2⟩ := hI
  obtain ⟨st', h5, h6⟩ := dnum_step h2
  refine (R_num_calls g B i h0 e w0 w h1 hB hB0.1 hB0.2).mono fun e' w' ⟨he, ⟨j, hj, hx, hi⟩, hb, hk⟩ => ?_
  rw [hx] at h6
  exact ⟨_, _, st', he, rfl, h5, ⟨j, _, hj, hi, h6⟩, hb, hk⟩
theorem R_size_M (g : Nat) (B : List Int) (hB0 : Bytes B ∧ B.length ≤ 1000000000) (st : St) (w0 w : World) (hI : RQ w0 w g B st) (hB : Below w0.heap.size w0 w) :
    Calls Try.prog 40 #[.pointer (some ⟨g, 0, none⟩)] w fun e' w' => ∃ (n i : Nat) (e : Int) (st' : St), e' = .returned (.int .i64 (n : Int)) ∧ i + n ≤ B.length ∧ Step rsize st (n : Int) st' ∧ RM w0 w' g B (i : Int) e ∧ Rep (B.drop i) e st' ∧ Below w0.heap.size w0 w' ∧ Only w w' g := by
  obtain ⟨i, e, h0, h1, h2⟩ := hI
  obtain ⟨st', h5, h6⟩ := dsize_step h2
  have h7 := dsize_left (B.drop i) e (fun x hx => hB0.1 x (List.mem_of_mem_drop hx))
  refine (R_size_calls g B i h0 e w0 w h1 hB hB0.1 hB0.2).mono fun e' w' ⟨he, ⟨j, hj, hx, hi⟩, hb, hk⟩ => ?_
  obtain ⟨n, hn⟩ : ∃ n : Nat, (dsize (B.drop i) e).1 = (n : Int) := ⟨(dsize (B.drop i) e).1.toNat, by omega⟩
  rw [hx] at h6 h7
  rw [hn] at he h5 h7
  rw [List.length_drop] at h7
  exact ⟨n, j, _, st', he, by omega, h5, hi, h6, hb, hk⟩
theorem R_size_Q (g : Nat) (B : List Int) (hB0 : Bytes B ∧ B.length ≤ 1000000000) (st : St) (w0 w : World) (hI : RQ w0 w g B st) (hB : Below w0.heap.size w0 w) :
    Calls Try.prog 40 #[.pointer (some ⟨g, 0, none⟩)] w fun e' w' => ∃ (n : Nat) (st' : St), e' = .returned (.int .i64 (n : Int)) ∧ n ≤ 1000000000 ∧ Step rsize st (n : Int) st' ∧ RQ w0 w' g B st' ∧ Below w0.heap.size w0 w' ∧ Only w w' g :=
  (R_size_M g B hB0 st w0 w hI hB).mono fun e' w' ⟨n, i, e, st', h1, h2, h3, h4, h5, h6, h7⟩ => ⟨n, st', h1, by omega, h3, ⟨i, e, by omega, h4, h5⟩, h6, h7⟩
set_option maxHeartbeats 8000000 in
set_option maxRecDepth 20000 in
theorem R_text_Q (g : Nat) (B : List Int) (hB0 : Bytes B ∧ B.length ≤ 1000000000) (st : St) (w0 w : World) (hI : RQ w0 w g B st) (hB : Below w0.heap.size w0 w) :
    Calls Try.prog 84 #[.pointer (some ⟨g, 0, none⟩)] w (RTell rText VStr w0 w g B st) := by
  have K := Aside0.mk (R_size_M g B hB0 st w0 w hI hB)
  have HBL := Aside0.mk hB0.2
  clear hI hB hB0
  go_enter Try.func84, Try.ntmps84
  go_wp2_with (fail)
  refine K.out.mono ?_
  rintro e w1 ⟨n, i, e1, st1, rfl, hn, hs, hi, hrep, hb, hk⟩
  have HI := Aside0.mk hi
  obtain ⟨A, c, hg, hg0, hC, hc⟩ := hi
  obtain ⟨i0, hi0, _, hsz, _⟩ := info_parts infoB5
  obtain ⟨A2, hcut, hA2, hC2⟩ := print_mid_of (P := Try.prog) (Value.int .u8) 0 25 5 .i64 .i64 Try.underlying25 hi0 hsz A c B (i : Int) ((i + n : Nat) : Int) (by omega) (by omega) (by omega) hc
  rw [Int.toNat_natCast, Int.toNat_natCast, List.drop_take, Nat.add_sub_cancel_left] at hcut hA2 hC2
  have hst : ∃ st2, Step rText st (strOfNums ((B.drop i).take n)) st2 ∧ Rep (B.drop (i + n)) e1 st2 := by
    rw [← List.drop_drop]
    rcases hrep with ⟨rfl, rfl⟩ | ⟨h, rfl⟩
    · refine ⟨.left ((B.drop i).drop n), Step.map (f := strOfNums) (Step.bind hs ?_), .inl ⟨rfl, rfl⟩⟩
      simp only [Step, rtake, Int.toNat_natCast, and_self]
    · exact ⟨.err e1, Step.map (f := strOfNums) (Step.bind hs rfl), .inr ⟨h, rfl⟩⟩
  obtain ⟨st2, hst, hrep2⟩ := hst
  have hCt : Kd.C (Kd.int .u8) w1.drew A2 ((B.drop i).take n).length ((B.drop i).take n) :=
    Kd.C_below (Kd.C_of_reads (h1 := fun _ => rfl) (hA2 w0 (Kd.reads_of_C (h1 := fun _ => rfl) hC))) (below_drew hb)
  have hstr := Kd.C_string (P := Try.prog) (src := 25) (dst := 9) (c := c - i) Try.underlying25 Try.underlying5 Try.underlying9 hCt
  have eJ : wrap64 ((i : Int) + (n : Int)) = ((i + n : Nat) : Int) := by have := HBL.out; unfold wrap64; omega
  generalize (B.drop i).take n = T at *
  have HST := Aside0.mk hst
  have HREP := Aside0.mk hrep2
  have HNL := Aside0.mk hn
  have HB := Aside0.mk hb
  have HK := Aside0.mk hk
  have HG0 := Aside0.mk hg0
  have hc0 := (blk_cell hg) 0
  have hc1 := (blk_cell hg) 1
  have hz := free_of hg 1
  clear hn hs hg hg0 hC hc hrep hb hk hA2 hC2 hst hrep2 hCt hi0 hsz K
  generalize hN : ((i + n : Nat) : Int) = N at *
  have HNN := Aside0.mk hN
  clear hN
  go_wp2
  go_region
  go_wp2
  go_wp2
  go_ret
  exact ⟨_, strOfNums T, st2, rfl, rfl, HST.out, ⟨i + n, e1, HNL.out, by rw [HNN.out]; exact (show RM w0 w1.drew g B (i : Int) e1 from HI.out).set1 N, HREP.out⟩, (below_drew HB.out).setCell (p := ⟨g, 1, none⟩) HG0.out _, (show Only w w1.drew g from HK.out).trans (Only.set _ _ 1 _)⟩
end Go.Proofs.Ythefbeekcjchcaa.P
