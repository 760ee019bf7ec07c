import Derived.Test.YthefbeekcjchcaaPutAll
namespace Go.Proofs.Ythefbeekcjchcaa.P
open Go Go.RowKit Go.Proofs.YthefbeekcjchcaaW.PrintWords Go.Proofs.YthefbeekcjchcaaW.PrintLast Go.Proofs.YthefbeekcjchcaaW.PrintMore
set_option linter.unusedVariables false
set_option linter.unusedSimpArgs false
theorem and127 (b : Int) (h0 : 0 ≤ b) (h1 : b < 256) : Go.bits .and .u8 b 127 = b % 128 := by
  obtain ⟨m, rfl⟩ : ∃ m : Nat, b = (m : Int) := ⟨b.toNat, by omega⟩
  have h := u8_and_nat m 127 (by omega) (by decide)
  rw [show (127 : Nat) = 2 ^ 7 - 1 by decide, Nat.and_two_pow_sub_one_eq_mod, show ((2 ^ 7 - 1 : Nat) : Int) = 127 by decide] at h
  rw [h]
  omega
theorem pow128 (k : Nat) (hk : k ≤ 5) : (128 : Int) ^ k = ((128 ^ k : Nat) : Int) ∧ 128 ^ k ≤ 34359738368 ∧ 128 ^ k = 2 ^ (7 * k) := by
  refine ⟨by push_cast; rfl, ?_, by rw [Nat.pow_mul]⟩
  exact Nat.le_trans (Nat.pow_le_pow_right (by decide) hk) (by decide)
theorem shl7 {P : Program} (c : Int) (k : Nat) (h0 : 0 ≤ c) (h1 : c < 128) (hk : k ≤ 5) (w : World) : (Op.shift .shl .i64 c .i64 (7 * (k : Int))).run P w = .ok (.int .i64 (c * 128 ^ k)) w := by
  unfold Op.shift
  rw [if_neg (by omega), show (7 * (k : Int)).toNat = 7 * k by omega, show min (7 * k) IntKind.i64.bits = 7 * k from Nat.min_eq_left (Nat.le_trans (Nat.mul_le_mul_left 7 hk) (by decide))]
  have hp := pow128 k hk
  have e : c * (2 : Int) ^ (7 * k) = c * 128 ^ k := by rw [hp.1, hp.2.2]; push_cast; rfl
  dsimp only
  rw [e]
  obtain ⟨m, rfl⟩ : ∃ m : Nat, c = (m : Int) := ⟨c.toNat, by omega⟩
  rw [hp.1]
  have hm : m * 128 ^ k ≤ 128 * 34359738368 := Nat.mul_le_mul (by omega) hp.2.1
  have : IntKind.i64.wrap ((m : Int) * ((128 ^ k : Nat) : Int)) = (m : Int) * ((128 ^ k : Nat) : Int) := by
    rw [← Int.natCast_mul]
    exact IntWalk.i64_in _ (by omega)
  rw [this]
  rfl
theorem or_add (n c : Int) (k : Nat) (hn : 0 ≤ n) (hn1 : n < 128 ^ k) (h0 : 0 ≤ c) (h1 : c < 128) (hk : k ≤ 5) : Go.bits .or .i64 n (c * 128 ^ k) = n + c * 128 ^ k := by
  have hp := pow128 k hk
  rw [hp.1] at hn1 ⊢
  obtain ⟨a, rfl⟩ : ∃ a : Nat, n = (a : Int) := ⟨n.toNat, by omega⟩
  obtain ⟨m, rfl⟩ : ∃ m : Nat, c = (m : Int) := ⟨c.toNat, by omega⟩
  have ha : a < 128 ^ k := by omega
  have hm : m * 128 ^ k ≤ 128 * 34359738368 := Nat.mul_le_mul (by omega) hp.2.1
  have hor : a ||| m * 128 ^ k = a + m * 128 ^ k := by
    rw [hp.2.2] at ha ⊢
    have := Nat.two_pow_add_eq_or_of_lt ha m
    rw [Nat.or_comm, Nat.mul_comm m, ← this, Nat.add_comm]
  have hbits := (bits_nat .i64 62 (by decide) (fun n h0 h1 => by rw [IntKind.wrap_i64]; omega) a (m * 128 ^ k) (by omega) (by omega)).2
  rw [← Int.natCast_mul, hbits, hor]
  push_cast
  rfl
/-- Bytes that are read: what is left of them, the first error. -/
def IN (w0 w : World) (g : Nat) (bs : List Int) (e : Int) : Prop := ∃ A c, w.heap[g]? = some (.cells #[.slice A bs.length c, .int .i64 e] 98 (0, 0)) ∧ w0.heap.size ≤ g ∧ Kd.C (Kd.int .u8) w0 A bs.length bs ∧ bs.length ≤ c
theorem IN.set1 {w0 w : World} {g : Nat} {bs : List Int} {e : Int} (h : IN w0 w g bs e) (x : Int) : IN w0 (w.setCell ⟨g, 1, none⟩ (.int .i64 x)) g bs x := by
  obtain ⟨A, c, hg, r⟩ := h
  refine ⟨A, c, ?_, r⟩
  obtain ⟨hlt, hv⟩ := Array.getElem?_eq_some_iff.1 hg
  simp [World.setCell, Array.getElem?_modify, hg]
theorem IN.below {w0 w w1 : World} {g : Nat} {bs : List Int} {e : Int} (h : IN w0 w g bs e) (hb : Below w.heap.size w w1) : IN w0 w1 g bs e := by
  obtain ⟨A, c, hg, r⟩ := h
  exact ⟨A, c, (hb.block g (blk_lt hg)).trans hg, r⟩
def Only (w w' : World) (g : Nat) : Prop := w.heap.size ≤ w'.heap.size ∧ ∀ k, k < w.heap.size → k ≠ g → w'.heap[k]? = w.heap[k]?
theorem Only.refl (w : World) (g : Nat) : Only w w g := ⟨Nat.le_refl _, fun _ _ _ => rfl⟩
theorem Only.trans {w w1 w2 : World} {g : Nat} (h : Only w w1 g) (h2 : Only w1 w2 g) : Only w w2 g := ⟨Nat.le_trans h.1 h2.1, fun k hk hg => (h2.2 k (Nat.lt_of_lt_of_le hk h.1) hg).trans (h.2 k hk hg)⟩
theorem Only.set (w : World) (g o : Nat) (v : Value) : Only w (w.setCell ⟨g, o, none⟩ v) g := ⟨by simp [World.setCell], fun k _ hg => Below.heap_setCell w ⟨g, o, none⟩ v k hg⟩
theorem Only.below {w w1 : World} (g : Nat) (h : Below w.heap.size w w1) : Only w w1 g := ⟨h.size, fun k hk _ => h.block k hk⟩
theorem fail_calls (g : Nat) (bs : List Int) (e x : Int) (w0 w : World) (hI : IN w0 w g bs e) (hB : Below w0.heap.size w0 w) :
    Calls Try.prog 90 #[.pointer (some ⟨g, 0, none⟩), .int .i64 x] w fun e' w' => e' = .returned (.tuple #[]) ∧ IN w0 w' g bs (if e = 0 then x else e) ∧ Below w0.heap.size w0 w' ∧ Only w w' g := by
  have HI := Aside0.mk hI
  have HB := Aside0.mk hB
  obtain ⟨A, c, hg, hg0, hC, hc⟩ := hI
  have hc1 := (blk_cell hg) 1
  have hz := free_of hg 1
  have HG0 := Aside0.mk hg0
  clear hg hC hc hB hg0
  by_cases h : e = 0
  · have h1 : (e == 0) = true := beq_iff_eq.2 h
    rw [if_pos h]
    clear h
    go_enter Try.func90, Try.ntmps90
    go_wp2
    go_end0
    exact ⟨rfl, HI.out.set1 x, HB.out.setCell (p := ⟨g, 1, none⟩) HG0.out _, Only.set _ _ _ _⟩
  · have h1 : (e == 0) = false := beq_eq_false_iff_ne.2 h
    rw [if_neg h]
    clear h
    go_enter Try.func90, Try.ntmps90
    go_wp2
    go_end0
    exact ⟨rfl, HI.out, HB.out, Only.refl _ _⟩
set_option maxHeartbeats 8000000 in
set_option maxRecDepth 20000 in
theorem in_num_calls (g : Nat) (bs : List Int) (e : Int) (w0 w : World) (hI : IN w0 w g bs e) (hB : Below w0.heap.size w0 w) (hb : Bytes bs) (hlen : bs.length ≤ 1000000000) :
    Calls Try.prog 49 #[.pointer (some ⟨g, 0, none⟩)] w fun e' w' => e' = .returned (.int .i64 (dnum bs e).1) ∧ IN w0 w' g (dnum bs e).2.1 (dnum bs e).2.2 ∧ Below w0.heap.size w0 w' ∧ Only w w' g := by
  have HI := Aside0.mk hI
  have HB := Aside0.mk hB
  have HBY := Aside0.mk hb
  have HN := Aside0.mk hlen
  clear hI hB hb hlen
  obtain ⟨r, hr⟩ : ∃ r, dnum bs e = r := ⟨_, rfl⟩
  rw [hr]
  by_cases he : e = 0
  · subst he
    rw [dnum, if_pos rfl] at hr
    have HP := Aside0.mk hr
    clear hr
    go_enter Try.func49, Try.ntmps49
    go_wp2
    go_loopg [2, 3, 4, 5] 6 (fun kq v2 v3 v4 v5 w' => ∃ (k : Nat) (n : Int) (xs : List Int), v3 = .int .i64 n ∧ v4 = .int .i64 (k : Int) ∧ Aside0 (k + kq = 6 ∧ k ≤ 5) ∧ Aside0 (0 ≤ n ∧ n < 128 ^ k) ∧ Aside0 (dn k n xs = r) ∧ Aside0 (Bytes xs) ∧ Aside0 (xs.length ≤ 1000000000) ∧ Aside0 (IN w0 w' g xs 0) ∧ Aside0 (Below w0.heap.size w0 w') ∧ Aside0 (Only w w' g))
    case atStart => exact ⟨0, 0, bs, rfl, rfl, ⟨by omega, by omega⟩, ⟨by simp⟩, HP, HBY, HN, HI, HB, ⟨Only.refl _ _⟩⟩
    case round =>
      clear HI HB HP HBY HN
      obtain ⟨k, n, xs, rfl, rfl, HK, HNN, HP, HBY, HN, HI, HB, HKB⟩ := hrel
      obtain ⟨A0, c0, hg, hg0, hC, hcc⟩ := HI.out
      have hc0 := (blk_cell hg) 0
      have hc1 := (blk_cell hg) 1
      have hz := free_of hg 0
      have HG := Aside0.mk hg
      have HC := Aside0.mk hC
      have HG0 := Aside0.mk hg0
      have HCC := Aside0.mk hcc
      clear hg hC hg0 hcc
      cases xs with
      | nil =>
        have hP := HP.out
        rw [dn] at hP
        subst hP
        have KF := Aside0.mk (fail_calls g [] 0 13 w0 wr HI.out HB.out)
        rw [if_pos rfl] at KF
        go_wp2_with (fail)
        refine KF.out.mono ?_
        rintro e w2 ⟨rfl, hi, hb, hk⟩
        have HI1 := Aside0.mk hi
        have HB1 := Aside0.mk hb
        have HK1 := Aside0.mk (HKB.out.trans hk)
        clear hi hb hk
        go_wp2
        go_ret
        exact ⟨rfl, HI1.out, HB1.out, HK1.out⟩
      | cons b xs =>
        obtain ⟨hb0, hb1⟩ := HBY.out b (List.mem_cons_self ..)
        obtain ⟨ad, ea, hx⟩ := Kd.at_int (Kd.C_below HC.out HB.out) 0 (by omega) (by simp)
        cases ea
        replace hx : wr.cell? ad = some (.int .u8 b) := hx
        obtain ⟨i08, hi08, _, hsz8, _⟩ := info_parts infoB5
        obtain ⟨A8, hcut8, hA8, hC8⟩ := print_drop_of (P := Try.prog) (Value.int .u8) 0 25 5 .i64 Try.underlying25 hi08 hsz8 (some ad) c0 (b :: xs) 1 (by omega) (by simp; omega) HCC.out
        replace hcut8 : ∀ W : World, (Instr.slice 25 (.slice (some ad) (xs.length + 1) c0) (some (.int .i64 1)) none none).run Try.prog W = .ok (.slice A8 xs.length (c0 - 1)) W := hcut8
        replace hA8 := fun w h => Kd.C_of_reads (h1 := fun _ => rfl) (hA8 w (Kd.reads_of_C (h1 := fun _ => rfl) h))
        have HC8 := Aside0.mk (show Kd.C (Kd.int .u8) w0 A8 xs.length xs from hA8 _ HC.out)
        have HL8 := Aside0.mk (show xs.length ≤ c0 - 1 from hC8)
        clear hA8 hC8 hi08 hsz8
        have hk5 := HK.out.2
        have eA := and127 b hb0 hb1
        have eW : wrap64 (b % 128) = b % 128 := by unfold wrap64; omega
        have hsh := shl7 (P := Try.prog) (b % 128) k (by omega) (by omega) hk5
        have hor := or_add n (b % 128) k HNN.out.1 HNN.out.2 (by omega) (by omega) hk5
        have hp := pow128 k hk5
        have hnext : 0 ≤ n + b % 128 * 128 ^ k ∧ n + b % 128 * 128 ^ k < 128 ^ (k + 1) := by
          have h1 := HNN.out
          have h2 : 0 ≤ b % 128 ∧ b % 128 ≤ 127 := by omega
          rw [Int.pow_succ]
          rw [hp.1] at h1 ⊢
          generalize ((128 ^ k : Nat) : Int) = p at h1 ⊢
          obtain ⟨h2a, h2b⟩ := h2
          generalize b % 128 = y at h2a h2b ⊢
          have h3 : y * p ≤ 127 * p := Int.mul_le_mul_of_nonneg_right h2b (by omega)
          have h4 : 0 ≤ y * p := Int.mul_nonneg h2a (by omega)
          omega
        have HNX := Aside0.mk hnext
        have hP := HP.out
        rw [dn] at hP
        have HI1 := Aside0.mk (show IN w0 (wr.setCell ⟨g, 0, none⟩ (.slice A8 xs.length (c0 - 1))) g xs 0 from ⟨A8, c0 - 1, by
          obtain ⟨hlt, hv⟩ := Array.getElem?_eq_some_iff.1 HG.out
          simp [World.setCell, Array.getElem?_modify, HG.out], HG0.out, HC8.out, HL8.out⟩)
        have HB1 := Aside0.mk (HB.out.setCell (p := ⟨g, 0, none⟩) HG0.out (.slice A8 xs.length (c0 - 1)))
        obtain ⟨N', hN'⟩ : ∃ N', n + b % 128 * 128 ^ k = N' := ⟨_, rfl⟩
        rw [hN'] at hor HNX hP
        clear hnext hN' hp
        obtain ⟨kk, hkk⟩ : ∃ kk : Int, (k : Int) = kk := ⟨_, rfl⟩
        have e7 : wrap64 (7 * kk) = 7 * kk := by unfold wrap64; omega
        have e8 : wrap64 (kk + 1) = ((k + 1 : Nat) : Int) := by unfold wrap64; omega
        rw [hkk] at hsh ⊢
        by_cases cb : b < 128
        · have d1 : decide (b < 128) = true := decide_eq_true cb
          by_cases cN : N' > 1099511627776
          · rw [if_pos (.inl ⟨cb, .inl cN⟩)] at hP
            subst hP
            have d2 : decide (1099511627776 < N') = true := decide_eq_true cN
            clear cb cN hkk hk5
            go_wp2_with (fail)
            refine (fail_calls g xs 0 12 w0 _ HI1.out HB1.out).mono ?_
            rintro e w2 ⟨rfl, hi, hb, hk⟩
            rw [if_pos rfl] at hi
            have HI2 := Aside0.mk hi
            have HB2 := Aside0.mk hb
            have HK2 := Aside0.mk (HKB.out.trans ((Only.set _ _ 0 _).trans hk))
            clear hi hb hk
            go_wp2
            go_ret
            exact ⟨rfl, HI2.out, HB2.out, HK2.out⟩
          · have d2 : decide (1099511627776 < N') = false := decide_eq_false cN
            by_cases ck : 0 < kk
            · have d3 : decide (0 < kk) = true := decide_eq_true ck
              by_cases c0' : b = 0
              · rw [if_pos (.inl ⟨cb, .inr ⟨by omega, c0'⟩⟩)] at hP
                subst hP
                have d4 : (b == 0) = true := beq_iff_eq.2 c0'
                clear cb cN hkk hk5 ck c0'
                go_wp2_with (fail)
                refine (fail_calls g xs 0 12 w0 _ HI1.out HB1.out).mono ?_
                rintro e w2 ⟨rfl, hi, hb, hk⟩
                rw [if_pos rfl] at hi
                have HI2 := Aside0.mk hi
                have HB2 := Aside0.mk hb
                have HK2 := Aside0.mk (HKB.out.trans ((Only.set _ _ 0 _).trans hk))
                clear hi hb hk
                go_wp2
                go_ret
                exact ⟨rfl, HI2.out, HB2.out, HK2.out⟩
              · rw [if_neg (by omega), if_pos cb] at hP
                subst hP
                have d4 : (b == 0) = false := beq_eq_false_iff_ne.2 c0'
                have d5 : decide (128 ≤ b) = false := decide_eq_false (by omega)
                clear cb cN hkk hk5 ck c0'
                go_wp2
                go_ret
                exact ⟨rfl, HI1.out, HB1.out, HKB.out.trans (Only.set _ _ 0 _)⟩
            · rw [if_neg (by omega), if_pos cb] at hP
              subst hP
              have d3 : decide (0 < kk) = false := decide_eq_false ck
              have d5 : decide (128 ≤ b) = false := decide_eq_false (by omega)
              clear cb cN hkk hk5 ck
              go_wp2
              go_ret
              exact ⟨rfl, HI1.out, HB1.out, HKB.out.trans (Only.set _ _ 0 _)⟩
        · have d1 : decide (b < 128) = false := decide_eq_false cb
          have d5 : decide (128 ≤ b) = true := decide_eq_true (by omega)
          by_cases ck : kk = 5
          · rw [if_pos (.inr ⟨by omega, by omega⟩)] at hP
            subst hP
            have d6 : (kk == 5) = true := beq_iff_eq.2 ck
            clear cb hkk hk5 ck
            go_wp2_with (fail)
            refine (fail_calls g xs 0 12 w0 _ HI1.out HB1.out).mono ?_
            rintro e w2 ⟨rfl, hi, hb, hk⟩
            rw [if_pos rfl] at hi
            have HI2 := Aside0.mk hi
            have HB2 := Aside0.mk hb
            have HK2 := Aside0.mk (HKB.out.trans ((Only.set _ _ 0 _).trans hk))
            clear hi hb hk
            go_wp2
            go_ret
            exact ⟨rfl, HI2.out, HB2.out, HK2.out⟩
          · rw [if_neg (by omega), if_neg cb] at hP
            have d6 : (kk == 5) = false := beq_eq_false_iff_ne.2 ck
            have HK1 : Aside0 (k + 1 ≤ 5) := ⟨by omega⟩
            have HP1 := Aside0.mk hP
            clear cb hkk hk5 ck hP
            go_wp2
            go_roundg (gk - 1)
            case measure => have := HK.out; omega
            case rel => exact ⟨k + 1, N', xs, rfl, congrArg _ e8, ⟨by have := HK.out; omega, HK1.out⟩, HNX, HP1, ⟨fun x hx => HBY.out x (List.mem_cons_of_mem _ hx)⟩, ⟨by have := HN.out; simp at this; omega⟩, HI1, HB1, ⟨HKB.out.trans (Only.set _ _ 0 _)⟩⟩
  · have h1 : (e == 0) = false := beq_eq_false_iff_ne.2 he
    rw [dnum, if_neg he] at hr
    subst hr
    obtain ⟨A0, c0, hg, hg0, hC, hcc⟩ := HI.out
    have hc1 := (blk_cell hg) 1
    clear hg hg0 hC hcc he
    go_enter Try.func49, Try.ntmps49
    go_wp2
    go_loopg [4] 1 (fun kq v4 w' => v4 = .int .i64 0 ∧ Aside0 (w' = w))
    case atStart => exact ⟨rfl, ⟨rfl⟩⟩
    case round =>
      obtain ⟨rfl, ⟨rfl⟩⟩ := hrel
      go_wp2
      go_ret
      exact ⟨rfl, HI.out, HB.out, Only.refl _ _⟩
end Go.Proofs.Ythefbeekcjchcaa.P
