/- The document's reader (fail, num, size, Ints, End), walked. -/
import Derived.Test.YthefbeekcjchcaaIP
import Derived.Deep.QuietTactic
import Derived.BigQuiet
namespace Go.Proofs.Ythefbeekcjchcaa.P
open Go Go.RowKit Go.Proofs.YthefbeekcjchcaaW.PrintWords Go.Proofs.YthefbeekcjchcaaW.PrintLast Go.Proofs.YthefbeekcjchcaaW.PrintMore
set_option linter.unusedVariables false
set_option linter.unusedSimpArgs false
/-- The document's reader in memory: where it stands, its first error. -/
def RM (w0 w : World) (g : Nat) (B : List Int) (i e : Int) : Prop := ∃ A c, w.heap[g]? = some (.cells #[.slice A B.length c, .int .i64 i, .int .i64 e] 39 (0, 0)) ∧ w0.heap.size ≤ g ∧ Kd.C (Kd.int .u8) w0 A B.length B ∧ B.length ≤ c
theorem RM.set1 {w0 w : World} {g : Nat} {B : List Int} {i e : Int} (h : RM w0 w g B i e) (x : Int) : RM w0 (w.setCell ⟨g, 1, none⟩ (.int .i64 x)) g B x e := by
  obtain ⟨A, c, hg, r⟩ := h
  refine ⟨A, c, ?_, r⟩
  obtain ⟨hlt, hv⟩ := Array.getElem?_eq_some_iff.1 hg
  simp [World.setCell, Array.getElem?_modify, hg]
theorem RM.set2 {w0 w : World} {g : Nat} {B : List Int} {i e : Int} (h : RM w0 w g B i e) (x : Int) : RM w0 (w.setCell ⟨g, 2, none⟩ (.int .i64 x)) g B i x := by
  obtain ⟨A, c, hg, r⟩ := h
  refine ⟨A, c, ?_, r⟩
  obtain ⟨hlt, hv⟩ := Array.getElem?_eq_some_iff.1 hg
  simp [World.setCell, Array.getElem?_modify, hg]
theorem RM.below {w0 w w1 : World} {g : Nat} {B : List Int} {i e : Int} (h : RM w0 w g B i e) (hb : Below w.heap.size w w1) : RM w0 w1 g B i e := by
  obtain ⟨A, c, hg, r⟩ := h
  exact ⟨A, c, (hb.block g (blk_lt hg)).trans hg, r⟩
theorem RM.base {w0 w : World} {g : Nat} {B : List Int} {i e : Int} (h : RM w0 w g B i e) : w0.heap.size ≤ g := by
  obtain ⟨A, c, _, h, _⟩ := h
  exact h
theorem RM.lt {w0 w : World} {g : Nat} {B : List Int} {i e : Int} (h : RM w0 w g B i e) : g < w.heap.size := by
  obtain ⟨A, c, h, _⟩ := h
  exact blk_lt h
theorem R_fail_calls (g : Nat) (B : List Int) (i e x : Int) (w0 w : World) (hI : RM w0 w g B i e) (hB : Below w0.heap.size w0 w) :
    Calls Try.prog 42 #[.pointer (some ⟨g, 0, none⟩), .int .i64 x] w fun e' w' => e' = .returned (.tuple #[]) ∧ RM w0 w' g B i (if e = 0 then x else e) ∧ Below w0.heap.size w0 w' ∧ Only w w' g := by
  have HI := Aside0.mk hI
  have HB := Aside0.mk hB
  have HG0 := Aside0.mk hI.base
  obtain ⟨A, c, hg, _⟩ := hI
  have hc2 := (blk_cell hg) 2
  have hz := free_of hg 2
  clear hg hB
  by_cases h : e = 0
  · have h1 : (e == 0) = true := beq_iff_eq.2 h
    rw [if_pos h]
    clear h
    go_enter Try.func42, Try.ntmps42
    go_wp2
    go_end0
    exact ⟨rfl, HI.out.set2 x, HB.out.setCell (p := ⟨g, 2, none⟩) HG0.out _, Only.set _ _ _ _⟩
  · have h1 : (e == 0) = false := beq_eq_false_iff_ne.2 h
    rw [if_neg h]
    clear h
    go_enter Try.func42, Try.ntmps42
    go_wp2
    go_end0
    exact ⟨rfl, HI.out, HB.out, Only.refl _ _⟩
theorem shl7w (c : Int) (k : Nat) (h0 : 0 ≤ c) (h1 : c < 128) (hk : k ≤ 5) : wrap64 (c * 2 ^ (7 * (k : Int)).toNat) = c * 128 ^ k := by
  have hp := pow128 k hk
  rw [show (7 * (k : Int)).toNat = 7 * k by omega]
  obtain ⟨m, rfl⟩ : ∃ m : Nat, c = (m : Int) := ⟨c.toNat, by omega⟩
  have hm : m * 128 ^ k ≤ 127 * 34359738368 := Nat.mul_le_mul (by omega) hp.2.1
  have e1 : (m : Int) * (2 : Int) ^ (7 * k) = (m : Int) * 128 ^ k := by rw [hp.1, hp.2.2]; push_cast; rfl
  have e2 : (m : Int) * 128 ^ k = ((m * 128 ^ k : Nat) : Int) := by rw [hp.1]; push_cast; rfl
  rw [e1, e2]
  generalize m * 128 ^ k = z at hm
  clear hp e1 e2
  unfold wrap64
  omega
/-- What R.num comes to. -/
def RNum (r : Int × List Int × Int) (w0 w : World) (g : Nat) (B : List Int) (e' : Ending) (w' : World) : Prop :=
  e' = .returned (.int .i64 r.1) ∧ (∃ i' : Nat, i' ≤ B.length ∧ r.2.1 = B.drop i' ∧ RM w0 w' g B (i' : Int) r.2.2) ∧ Below w0.heap.size w0 w' ∧ Only w w' g
theorem rd_dropB {B : List Int} {i : Nat} (h : i < B.length) : B.drop i = rd B (i : Int) :: B.drop (i + 1) := drop_rd h
set_option maxHeartbeats 8000000 in
set_option maxRecDepth 20000 in
theorem R_num_calls (g : Nat) (B : List Int) (i : Nat) (hi : i ≤ B.length) (e : Int) (w0 w : World) (hI : RM w0 w g B (i : Int) e) (hB : Below w0.heap.size w0 w) (hby : Bytes B) (hlen : B.length ≤ 1000000000) :
    Calls Try.prog 41 #[.pointer (some ⟨g, 0, none⟩)] w (RNum (dnum (B.drop i) e) w0 w g B) := by
  have HI := Aside0.mk hI
  have HB := Aside0.mk hB
  have HBY := Aside0.mk hby
  have HN := Aside0.mk hlen
  have HIL := Aside0.mk hi
  clear hI hB hby hlen hi
  obtain ⟨r, hr⟩ : ∃ r, dnum (B.drop i) e = r := ⟨_, rfl⟩
  rw [hr]
  by_cases he : e = 0
  · subst he
    rw [dnum, if_pos rfl] at hr
    have HP := Aside0.mk hr
    clear hr
    go_enter Try.func41, Try.ntmps41
    go_wp2
    go_loopg [3, 4, 5] 7 (fun kq v3 v4 v5 w' => ∃ (k : Nat) (n : Int) (j : Nat), v3 = .int .i64 n ∧ v4 = .int .i64 (k : Int) ∧ Aside0 (k + kq = 7 ∧ k ≤ 6) ∧ Aside0 (k ≤ 5 → 0 ≤ n ∧ n < 128 ^ k) ∧ Aside0 (j ≤ B.length) ∧ Aside0 (k ≤ 5 → dn k n (B.drop j) = r) ∧ Aside0 (k = 6 → r = (0, B.drop j, 12)) ∧ Aside0 (RM w0 w' g B (j : Int) 0) ∧ Aside0 (Below w0.heap.size w0 w') ∧ Aside0 (Only w w' g))
    case atStart => exact ⟨0, 0, i, rfl, rfl, ⟨by omega, by omega⟩, ⟨fun _ => by simp⟩, HIL, ⟨fun _ => HP.out⟩, ⟨fun h => by omega⟩, HI, HB, ⟨Only.refl _ _⟩⟩
    case round =>
      clear HI HB HP HIL
      obtain ⟨k, n, j, rfl, rfl, HK, HNN, HJ, HP, HP6, HI, HB, HKB⟩ := hrel
      have HG0 := Aside0.mk HI.out.base
      obtain ⟨A0, c0, hg, hg0, hC, hcc⟩ := HI.out
      have hc0 := (blk_cell hg) 0
      have hc1 := (blk_cell hg) 1
      have hc2 := (blk_cell hg) 2
      have hz := free_of hg 1
      have HC := Aside0.mk hC
      clear hg hC hg0 hcc
      by_cases hk6 : k = 6
      · subst hk6
        have hr := HP6.out rfl
        subst hr
        have KF := Aside0.mk (R_fail_calls g B (j : Int) 0 12 w0 wr HI.out HB.out)
        rw [if_pos rfl] at KF
        go_wp2_with (fail)
        refine KF.out.mono ?_
        rintro e w2 ⟨rfl, hi, hb, hk⟩
        have HI1 := Aside0.mk hi
        have HB1 := Aside0.mk hb
        have HK1 := Aside0.mk (HKB.out.trans hk)
        clear hi hb hk
        go_wp2
        go_ret
        exact ⟨rfl, ⟨j, HJ.out, rfl, HI1.out⟩, HB1.out, HK1.out⟩
      · have hk5 : k ≤ 5 := by have := HK.out; omega
        have hP := HP.out hk5
        have hnn := HNN.out hk5
        have d6 : decide ((k : Int) < 6) = true := decide_eq_true (by omega)
        by_cases hjl : j < B.length
        · have g1 : decide (B.length ≤ j) = false := decide_eq_false (by omega)
          have g1' : decide ((B.length : Int) ≤ (j : Int)) = false := decide_eq_false (by omega)
          have hjd := rd_dropB hjl
          obtain ⟨hb0, hb1⟩ := HBY.out (rd B (j : Int)) (by have := List.mem_of_mem_drop (i := j) (l := B) (a := rd B (j : Int)) (by rw [hjd]; exact List.mem_cons_self ..); exact this)
          obtain ⟨ad, ea, hx⟩ := Kd.at_int (Kd.C_below HC.out HB.out) (j : Int) (by omega) (by omega)
          cases ea
          rw [Int.toNat_natCast] at hx
          rw [hjd] at hP
          generalize rd B (j : Int) = b at hx hP hb0 hb1
          have hsw := shl7w (b % 128) k (by omega) (by omega) hk5
          have hsh := shl7 (P := Try.prog) (b % 128) k (by omega) (by omega) hk5
          have hp := pow128 k hk5
          have hnext : 0 ≤ n + b % 128 * 128 ^ k ∧ n + b % 128 * 128 ^ k < 128 ^ (k + 1) ∧ n + b % 128 * 128 ^ k < 4611686018427387904 := by
            have h2 : 0 ≤ b % 128 ∧ b % 128 ≤ 127 := by omega
            have hpl := hp.2.1
            rw [Int.pow_succ]
            rw [hp.1] at hnn ⊢
            have hpl' : ((128 ^ k : Nat) : Int) ≤ 34359738368 := Int.ofNat_le.2 hpl
            generalize ((128 ^ k : Nat) : Int) = p at hnn hpl' ⊢
            obtain ⟨h2a, h2b⟩ := h2
            generalize b % 128 = y at h2a h2b ⊢
            have h3 : y * p ≤ 127 * p := Int.mul_le_mul_of_nonneg_right h2b (by omega)
            have h4 : 0 ≤ y * p := Int.mul_nonneg h2a (by omega)
            omega
          rw [dn] at hP
          obtain ⟨Y, hY⟩ : ∃ Y, b % 128 * 128 ^ k = Y := ⟨_, rfl⟩
          rw [hY] at hsw hP hnext
          simp only [hY] at hsh
          have hY0 : 0 ≤ Y := by
            rw [← hY]
            exact Int.mul_nonneg (by omega) (Int.pow_nonneg (by omega))
          obtain ⟨N', hN'⟩ : ∃ N', n + Y = N' := ⟨_, rfl⟩
          rw [hN'] at hP hnext
          have HNX : Aside0 (0 ≤ N' ∧ N' < 128 ^ (k + 1)) := ⟨⟨hnext.1, hnext.2.1⟩⟩
          have hN0 := hnext.1
          have hN4 := hnext.2.2
          clear hnext
          have eJ : wrap64 ((j : Int) + 1) = ((j + 1 : Nat) : Int) := by have := HN.out; unfold wrap64; omega
          have HI1 := Aside0.mk (HI.out.set1 ((j + 1 : Nat) : Int))
          have HB1 := Aside0.mk (HB.out.setCell (p := ⟨g, 1, none⟩) HG0.out (.int .i64 ((j + 1 : Nat) : Int)))
          have HJ1 : Aside0 (j + 1 ≤ B.length) := ⟨Nat.succ_le_of_lt hjl⟩
          have eN : wrap64 (n + Y) = N' := by rw [hN']; unfold wrap64; clear hY hp hjd hnn hP HNX HP HP6 HNN; omega
          clear hY hp hjd hnn
          obtain ⟨kk, hkk⟩ : ∃ kk : Int, (k : Int) = kk := ⟨_, rfl⟩
          have e7 : wrap64 (7 * kk) = 7 * kk := by unfold wrap64; omega
          have e8 : wrap64 (kk + 1) = ((k + 1 : Nat) : Int) := by unfold wrap64; omega
          rw [hkk] at hsw d6 ⊢
          simp only [hkk] at hsh
          have eT : Int.tmod b 128 = b % 128 := Int.tmod_eq_emod_of_nonneg hb0
          by_cases cb : b < 128
          · have d1 : decide (b < 128) = true := decide_eq_true cb
            by_cases cN : N' > 1099511627776
            · rw [if_pos (.inl ⟨cb, .inl cN⟩)] at hP
              subst hP
              have d2 : decide (1099511627776 < N') = true := decide_eq_true cN
              clear cb cN hkk hk5
              go_wp2
              repeat (go_quiet (fail); go_wp2_with (fail))
              refine (R_fail_calls g B ((j + 1 : Nat) : Int) 0 12 w0 _ (RM.set1 (show RM w0 (wr.drewN _) g B (j : Int) 0 from HI.out) _) ((pw_below_drewN HB.out _).setCell (p := ⟨g, 1, none⟩) HG0.out _)).mono ?_
              rintro e w2 ⟨rfl, hi, hb, hk⟩
              rw [if_pos rfl] at hi
              have HI2 := Aside0.mk hi
              have HB2 := Aside0.mk hb
              have HK2 := Aside0.mk ((show Only w (wr.drewN _) g from HKB.out).trans ((Only.set _ _ 1 _).trans hk))
              clear hi hb hk
              go_wp2
              go_ret
              exact ⟨rfl, ⟨j + 1, HJ1.out, rfl, HI2.out⟩, HB2.out, HK2.out⟩
            · have d2 : decide (1099511627776 < N') = false := decide_eq_false cN
              by_cases ck : 0 < kk
              · have d3 : decide (0 < kk) = true := decide_eq_true ck
                by_cases c0' : b = 0
                · rw [if_pos (.inl ⟨cb, .inr ⟨by omega, c0'⟩⟩)] at hP
                  subst hP
                  have d4 : (b == 0) = true := beq_iff_eq.2 c0'
                  clear cb cN hkk hk5 ck c0'
                  go_wp2
                  repeat (go_quiet (fail); go_wp2_with (fail))
                  refine (R_fail_calls g B ((j + 1 : Nat) : Int) 0 12 w0 _ (RM.set1 (show RM w0 (wr.drewN _) g B (j : Int) 0 from HI.out) _) ((pw_below_drewN HB.out _).setCell (p := ⟨g, 1, none⟩) HG0.out _)).mono ?_
                  rintro e w2 ⟨rfl, hi, hb, hk⟩
                  rw [if_pos rfl] at hi
                  have HI2 := Aside0.mk hi
                  have HB2 := Aside0.mk hb
                  have HK2 := Aside0.mk ((show Only w (wr.drewN _) g from HKB.out).trans ((Only.set _ _ 1 _).trans hk))
                  clear hi hb hk
                  go_wp2
                  go_ret
                  exact ⟨rfl, ⟨j + 1, HJ1.out, rfl, HI2.out⟩, HB2.out, HK2.out⟩
                · rw [if_neg (by omega), if_pos cb] at hP
                  subst hP
                  have d4 : (b == 0) = false := beq_eq_false_iff_ne.2 c0'
                  clear cb cN hkk hk5 ck c0'
                  go_wp2
                  repeat (go_quiet (fail); go_wp2)
                  go_ret
                  exact ⟨rfl, ⟨j + 1, HJ1.out, rfl, RM.set1 (show RM w0 (wr.drewN _) g B (j : Int) 0 from HI.out) _⟩, (pw_below_drewN HB.out _).setCell (p := ⟨g, 1, none⟩) HG0.out _, (show Only w (wr.drewN _) g from HKB.out).trans (Only.set _ _ 1 _)⟩
              · rw [if_neg (by omega), if_pos cb] at hP
                subst hP
                have d3 : decide (0 < kk) = false := decide_eq_false ck
                clear cb cN hkk hk5 ck
                go_wp2
                repeat (go_quiet (fail); go_wp2)
                go_ret
                exact ⟨rfl, ⟨j + 1, HJ1.out, rfl, RM.set1 (show RM w0 (wr.drewN _) g B (j : Int) 0 from HI.out) _⟩, (pw_below_drewN HB.out _).setCell (p := ⟨g, 1, none⟩) HG0.out _, (show Only w (wr.drewN _) g from HKB.out).trans (Only.set _ _ 1 _)⟩
          · have d1 : decide (b < 128) = false := decide_eq_false cb
            by_cases ck : kk = 5
            · rw [if_pos (.inr ⟨by omega, by omega⟩)] at hP
              have HP6' : Aside0 (k + 1 = 6 → r = (0, B.drop (j + 1), 12)) := ⟨fun _ => hP.symm⟩
              have HPn : Aside0 (k + 1 ≤ 5 → dn (k + 1) N' (B.drop (j + 1)) = r) := ⟨fun h => by omega⟩
              have HNX' : Aside0 (k + 1 ≤ 5 → 0 ≤ N' ∧ N' < 128 ^ (k + 1)) := ⟨fun h => by omega⟩
              clear cb ck hkk hk5 hP HP HP6 HNN HNX
              go_wp2
              repeat (go_quiet (fail); go_wp2)
              go_roundg (gk - 1)
              case measure => have := HK.out; omega
              case rel => exact ⟨k + 1, N', j + 1, rfl, congrArg _ e8, ⟨by have := HK.out; omega⟩, HNX', HJ1, HPn, HP6', ⟨RM.set1 (show RM w0 (wr.drewN _) g B (j : Int) 0 from HI.out) _⟩, ⟨(pw_below_drewN HB.out _).setCell (p := ⟨g, 1, none⟩) HG0.out _⟩, ⟨(show Only w (wr.drewN _) g from HKB.out).trans (Only.set _ _ 1 _)⟩⟩
            · rw [if_neg (by omega), if_neg cb] at hP
              have HP6' : Aside0 (k + 1 = 6 → r = (0, B.drop (j + 1), 12)) := ⟨fun h => by omega⟩
              have HPn : Aside0 (k + 1 ≤ 5 → dn (k + 1) N' (B.drop (j + 1)) = r) := ⟨fun _ => hP⟩
              have HNX' : Aside0 (k + 1 ≤ 5 → 0 ≤ N' ∧ N' < 128 ^ (k + 1)) := ⟨fun _ => HNX.out⟩
              clear cb ck hkk hk5 hP HP HP6 HNN HNX
              go_wp2
              repeat (go_quiet (fail); go_wp2)
              go_roundg (gk - 1)
              case measure => have := HK.out; omega
              case rel => exact ⟨k + 1, N', j + 1, rfl, congrArg _ e8, ⟨by have := HK.out; omega⟩, HNX', HJ1, HPn, HP6', ⟨RM.set1 (show RM w0 (wr.drewN _) g B (j : Int) 0 from HI.out) _⟩, ⟨(pw_below_drewN HB.out _).setCell (p := ⟨g, 1, none⟩) HG0.out _⟩, ⟨(show Only w (wr.drewN _) g from HKB.out).trans (Only.set _ _ 1 _)⟩⟩
        · obtain rfl : j = B.length := by have := HJ.out; omega
          have g1 : decide (B.length ≤ B.length) = true := decide_eq_true (Nat.le_refl _)
          rw [List.drop_length, dn] at hP
          subst hP
          obtain ⟨kk, hkk⟩ : ∃ kk : Int, (k : Int) = kk := ⟨_, rfl⟩
          rw [hkk] at d6 ⊢
          clear hkk hnn
          go_wp2
          repeat (go_quiet (fail); go_wp2_with (fail))
          refine (R_fail_calls g B ((B.length : Nat) : Int) 0 13 w0 _ (show RM w0 (wr.drewN _) g B (B.length : Int) 0 from HI.out) (pw_below_drewN HB.out _)).mono ?_
          rintro e w2 ⟨rfl, hi, hb, hk⟩
          rw [if_pos rfl] at hi
          have HI2 := Aside0.mk hi
          have HB2 := Aside0.mk hb
          have HK2 := Aside0.mk ((show Only w (wr.drewN _) g from HKB.out).trans hk)
          clear hi hb hk
          go_wp2
          go_ret
          exact ⟨rfl, ⟨B.length, Nat.le_refl _, (List.drop_length ..).symm, HI2.out⟩, HB2.out, HK2.out⟩
  · have h1 : (e == 0) = false := beq_eq_false_iff_ne.2 he
    rw [dnum, if_neg he] at hr
    subst hr
    obtain ⟨A0, c0, hg, hg0, hC, hcc⟩ := HI.out
    have hc1 := (blk_cell hg) 2
    have KF := Aside0.mk (R_fail_calls g B (i : Int) e 12 w0 w HI.out HB.out)
    rw [if_neg he] at KF
    clear hg hg0 hC hcc he
    go_enter Try.func41, Try.ntmps41
    go_wp2
    go_loopg [4] 1 (fun kq v4 w' => v4 = .int .i64 0 ∧ Aside0 (w' = w))
    case atStart => exact ⟨rfl, ⟨rfl⟩⟩
    case round =>
      obtain ⟨rfl, ⟨rfl⟩⟩ := hrel
      go_wp2_with (fail)
      refine KF.out.mono ?_
      rintro e2 w2 ⟨rfl, hi, hb, hk⟩
      have HI2 := Aside0.mk hi
      have HB2 := Aside0.mk hb
      have HK2 := Aside0.mk hk
      clear hi hb hk
      go_wp2
      go_ret
      exact ⟨rfl, ⟨i, HIL.out, rfl, HI2.out⟩, HB2.out, HK2.out⟩
end Go.Proofs.Ythefbeekcjchcaa.P
