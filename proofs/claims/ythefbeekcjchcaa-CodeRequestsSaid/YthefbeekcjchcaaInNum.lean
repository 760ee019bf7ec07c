import Derived.Test.YthefbeekcjchcaaOutNum
namespace Go.Proofs.Ythefbeekcjchcaa.P
open Go Go.RowKit Go.Proofs.YthefbeekcjchcaaW.PrintWords Go.Proofs.YthefbeekcjchcaaW.PrintLast Go.Proofs.YthefbeekcjchcaaW.PrintMore
set_option linter.unusedVariables false
set_option linter.unusedSimpArgs false
theorem and127 (b : Int) (h0 : 0 ≤ b) (h1 : b < 256) : Go.bits .and .u8 b 127 = b % 128 := by
  obtain ⟨m, rfl⟩ : ∃ m : Nat, b = (m : Int) := ⟨b.toNat, by omega⟩
  have h := u8_and_nat m 127 (by omega) (by decide)
  rw [show (127 : Nat) = 2 ^ 7 - 1 by decide, Nat.and_two_pow_sub_one_eq_mod, show ((2 ^ 7 - 1 : Nat) : Int) = 127 by decide] at h
  rw [h]
  omega
theorem pow128 (k : Nat) (hk : k ≤ 5) : (128 : Int) ^ k = ((128 ^ k : Nat) : Int) ∧ 128 ^ k ≤ 34359738368 ∧ 128 ^ k = 2 ^ (7 * k) := by
  refine ⟨by push_cast; rfl, ?_, by rw [Nat.pow_mul]⟩
  exact Nat.le_trans (Nat.pow_le_pow_right (by decide) hk) (by decide)
theorem shl7 {P : Program} (c : Int) (k : Nat) (h0 : 0 ≤ c) (h1 : c < 128) (hk : k ≤ 5) (w : World) : (Op.shift .shl .i64 c .i64 (7 * (k : Int))).run P w = .ok (.int .i64 (c * 128 ^ k)) w := by
  unfold Op.shift
  rw [if_neg (by omega), show (7 * (k : Int)).toNat = 7 * k by omega, show min (7 * k) IntKind.i64.bits = 7 * k from Nat.min_eq_left (Nat.le_trans (Nat.mul_le_mul_left 7 hk) (by decide))]
  have hp := pow128 k hk
  have e : c * (2 : Int) ^ (7 * k) = c * 128 ^ k := by rw [hp.1, hp.2.2]; push_cast; rfl
  dsimp only
  rw [e]
  obtain ⟨m, rfl⟩ : ∃ m : Nat, c = (m : Int) := ⟨c.toNat, by omega⟩
  rw [hp.1]
  have hm : m * 128 ^ k ≤ 128 * 34359738368 := Nat.mul_le_mul (by omega) hp.2.1
  have : IntKind.i64.wrap ((m : Int) * ((128 ^ k : Nat) : Int)) = (m : Int) * ((128 ^ k : Nat) : Int) := by
    rw [← Int.natCast_mul]
    exact IntWalk.i64_in _ (by omega)
  rw [this]
  rfl
theorem or_add (n c : Int) (k : Nat) (hn : 0 ≤ n) (hn1 : n < 128 ^ k) (h0 : 0 ≤ c) (h1 : c < 128) (hk : k ≤ 5) : Go.bits .or .i64 n (c * 128 ^ k) = n + c * 128 ^ k := by
  have hp := pow128 k hk
  rw [hp.1] at hn1 ⊢
  obtain ⟨a, rfl⟩ : ∃ a : Nat, n = (a : Int) := ⟨n.toNat, by omega⟩
  obtain ⟨m, rfl⟩ : ∃ m : Nat, c = (m : Int) := ⟨c.toNat, by omega⟩
  have ha : a < 128 ^ k := by omega
  have hm : m * 128 ^ k ≤ 128 * 34359738368 := Nat.mul_le_mul (by omega) hp.2.1
  have hor : a ||| m * 128 ^ k = a + m * 128 ^ k := by
    rw [hp.2.2] at ha ⊢
    have := Nat.two_pow_add_eq_or_of_lt ha m
    rw [Nat.or_comm, Nat.mul_comm m, ← this, Nat.add_comm]
  have hbits := (bits_nat .i64 62 (by decide) (fun n h0 h1 => by rw [IntKind.wrap_i64]; omega) a (m * 128 ^ k) (by omega) (by omega)).2
  rw [← Int.natCast_mul, hbits, hor]
  push_cast
  rfl
/-- Bytes that are read: what is left of them, the first error. -/
def IN (w0 w : World) (g : Nat) (bs : List Int) (e : Int) : Prop := ∃ A c, w.heap[g]? = some (.cells #[.slice A bs.length c, .int .i64 e] 98 (0, 0)) ∧ w0.heap.size ≤ g ∧ Kd.C (Kd.int .u8) w0 A bs.length bs ∧ bs.length ≤ c
theorem IN.set1 {w0 w : World} {g : Nat} {bs : List Int} {e : Int} (h : IN w0 w g bs e) (x : Int) : IN w0 (w.setCell ⟨g, 1, none⟩ (.int .i64 x)) g bs x := by
  obtain ⟨A, c, hg, r⟩ := h
  refine ⟨A, c, ?_, r⟩
  obtain ⟨hlt, hv⟩ := Array.getElem?_eq_some_iff.1 hg
  simp [World.setCell, Array.getElem?_modify, hg]
theorem IN.below {w0 w w1 : World} {g : Nat} {bs : List Int} {e : Int} (h : IN w0 w g bs e) (hb : Below w.heap.size w w1) : IN w0 w1 g bs e := by
  obtain ⟨A, c, hg, r⟩ := h
  exact ⟨A, c, (hb.block g (blk_lt hg)).trans hg, r⟩
def Only (w w' : World) (g : Nat) : Prop := w.heap.size ≤ w'.heap.size ∧ ∀ k, k < w.heap.size → k ≠ g → w'.heap[k]? = w.heap[k]?
theorem Only.refl (w : World) (g : Nat) : Only w w g := ⟨Nat.le_refl _, fun _ _ _ => rfl⟩
theorem Only.trans {w w1 w2 : World} {g : Nat} (h : Only w w1 g) (h2 : Only w1 w2 g) : Only w w2 g := ⟨Nat.le_trans h.1 h2.1, fun k hk hg => (h2.2 k (Nat.lt_of_lt_of_le hk h.1) hg).trans (h.2 k hk hg)⟩
theorem Only.set (w : World) (g o : Nat) (v : Value) : Only w (w.setCell ⟨g, o, none⟩ v) g := ⟨by simp [World.setCell], fun k _ hg => Below.heap_setCell w ⟨g, o, none⟩ v k hg⟩
theorem Only.below {w w1 : World} (g : Nat) (h : Below w.heap.size w w1) : Only w w1 g := ⟨h.size, fun k hk _ => h.block k hk⟩
theorem fail_calls (g : Nat) (bs : List Int) (e x : Int) (w0 w : World) (hI : IN w0 w g bs e) (hB : Below w0.heap.size w0 w) :
    Calls Try.prog 90 #[.pointer (some ⟨g, 0, none⟩), .int .i64 x] w fun e' w' => e' = .returned (.tuple #[]) ∧ IN w0 w' g bs (if e = 0 then x else e) ∧ Below w0.heap.size w0 w' ∧ Only w w' g := by
  have HI := Aside0.mk hI
  have HB := Aside0.mk hB
  obtain ⟨A, c, hg, hg0, hC, hc⟩ := hI
  have hc1 := (blk_cell hg) 1
  have hz := free_of hg 1
  have HG0 := Aside0.mk hg0
  clear hg hC hc hB hg0
  by_cases h : e = 0
  · have h1 : (e == 0) = true := beq_iff_eq.2 h
    rw [if_pos h]
    clear h
    go_enter Try.func90, Try.ntmps90
    go_wp2
    go_end0
    exact ⟨rfl, HI.out.set1 x, HB.out.setCell (p := ⟨g, 1, none⟩) HG0.out _, Only.set _ _ _ _⟩
  · have h1 : (e == 0) = false := beq_eq_false_iff_ne.2 h
    rw [if_neg h]
    clear h
    go_enter Try.func90, Try.ntmps90
    go_wp2
    go_end0
    exact ⟨rfl, HI.out, HB.out, Only.refl _ _⟩
set_option maxHeartbeats 8000000 in
set_option maxRecDepth 20000 in
theorem in_num_calls (g : Nat) (bs : List Int) (e : Int) (w0 w : World) (hI : IN w0 w g bs e) (hB : Below w0.heap.size w0 w) (hb : Bytes bs) (hlen : bs.length ≤ 1000000000) :
    Calls Try.prog 49 #[.pointer (some ⟨g, 0, none⟩)] w fun e' w' => e' = .returned (.int .i64 (dnum bs e).1) ∧ IN w0 w' g (dnum bs e).2.1 (dnum bs e).2.2 ∧ Below w0.heap.size w0 w' ∧ Only w w' g := by
  have HI := Aside0.mk hI
  have HB := Aside0.mk hB
  have HBY := Aside0.mk hb
  have HN := Aside0.mk hlen
  clear hI hB hb hlen
  obtain ⟨r, hr⟩ : ∃ r, dnum bs e = r := ⟨_, rfl⟩
  rw [hr]
  by_cases he : e = 0
  · subst he
    rw [dnum, if_pos rfl] at hr
    have HP := Aside0.mk hr
    clear hr
    go_enter Try.func49, Try.ntmps49
    go_wp2
    go_loopg [2, 3, 4, 5] 6 (fun kq v2 v3 v4 v5 w' => ∃ (k : Nat) (n : Int) (xs : List Int), v3 = .int .i64 n ∧ v4 = .int .i64 (k : Int) ∧ Aside0 (k + kq = 6 ∧ k ≤ 5) ∧ Aside0 (0 ≤ n ∧ n < 128 ^ k) ∧ Aside0 (dn k n xs = r) ∧ Aside0 (Bytes xs) ∧ Aside0 (xs.length ≤ 1000000000) ∧ Aside0 (IN w0 w' g xs 0) ∧ Aside0 (Below w0.heap.size w0 w') ∧ Aside0 (Only w w' g))
    case atStart => exact ⟨0, 0, bs, rfl, rfl, ⟨by omega, by omega⟩, ⟨by simp⟩, HP, HBY, HN, HI, HB, ⟨Only.refl _ _⟩⟩
    case round =>
      clear HI HB HP HBY HN
      obtain ⟨k, n, xs, rfl, rfl, HK, HNN, HP, HBY, HN, HI, HB, HKB⟩ := hrel
      obtain ⟨A0, c0, hg, hg0, hC, hcc⟩ := HI.out
      have hc0 := (blk_cell hg) 0
      have hc1 := (blk_cell hg) 1
      have hz := free_of hg 0
      have HG := Aside0.mk hg
      have HC := Aside0.mk hC
      have HG0 := Aside0.mk hg0
      have HCC := Aside0.mk hcc
      clear hg hC hg0 hcc
      cases xs with
      | nil =>
        have hP := HP.out
        rw [dn] at hP
        subst hP
        have KF := Aside0.mk (fail_calls g [] 0 13 w0 wr HI.out HB.out)
        rw [if_pos rfl] at KF
        go_wp2_with (fail)
        refine KF.out.mono ?_
        rintro e w2 ⟨rfl, hi, hb, hk⟩
        have HI1 := Aside0.mk hi
        have HB1 := Aside0.mk hb
        have HK1 := Aside0.mk (HKB.out.trans hk)
        clear hi hb hk
        go_wp2
        go_ret
        exact ⟨rfl, HI1.out, HB1.out, HK1.out⟩
      | cons b xs =>
        obtain ⟨hb0, hb1⟩ := HBY.out b (List.mem_cons_self ..)
        obtain ⟨ad, ea, hx⟩ := Kd.at_int (Kd.C_below HC.out HB.out) 0 (by omega) (by simp)
        cases ea
        replace hx : wr.cell? ad = some (.int .u8 b) := hx
        obtain ⟨i08, hi08, _, hsz8, _⟩ := info_parts infoB5
        obtain ⟨A8, hcut8, hA8, hC8⟩ := print_drop_of (P := Try.prog) (Value.int .u8) 0 25 5 .i64 Try.underlying25 hi08 hsz8 (some ad) c0 (b :: xs) 1 (by omega) (by simp; omega) HCC.out
        replace hcut8 : ∀ W : World, (Instr.slice 25 (.slice (some ad) (xs.length + 1) c0) (some (.int .i64 1)) none none).run Try.prog W = .ok (.slice A8 xs.length (c0 - 1)) W := hcut8
        replace hA8 := fun w h => Kd.C_of_reads (h1 := fun _ => rfl) (hA8 w (Kd.reads_of_C (h1 := fun _ => rfl) h))
        have HC8 := Aside0.mk (show Kd.C (Kd.int .u8) w0 A8 xs.length xs from hA8 _ HC.out)
        have HL8 := Aside0.mk (show xs.length ≤ c0 - 1 from hC8)
        clear hA8 hC8 hi08 hsz8
        have hk5 := HK.out.2
        have eA := and127 b hb0 hb1
        have eW : wrap64 (b % 128) = b % 128 := by unfold wrap64; omega
        have hsh := shl7 (P := Try.prog) (b % 128) k (by omega) (by omega) hk5
        have hor := or_add n (b % 128) k HNN.out.1 HNN.out.2 (by omega) (by omega) hk5
        have hp := pow128 k hk5
        have hnext : 0 ≤ n + b % 128 * 128 ^ k ∧ n + b % 128 * 128 ^ k < 128 ^ (k + 1) := by
          have h1 := HNN.out
          have h2 : 0 ≤ b % 128 ∧ b % 128 ≤ 127 := by omega
          rw [Int.pow_succ]
          rw [hp.1] at h1 ⊢
          generalize ((128 ^ k : Nat) : Int) = p at h1 ⊢
          obtain ⟨h2a, h2b⟩ := h2
          generalize b % 128 = y at h2a h2b ⊢
          have h3 : y * p ≤ 127 * p := Int.mul_le_mul_of_nonneg_right h2b (by omega)
          have h4 : 0 ≤ y * p := Int.mul_nonneg h2a (by omega)
          omega
        have HNX := Aside0.mk hnext
        have hP := HP.out
        rw [dn] at hP
        have HI1 := Aside0.mk (show IN w0 (wr.setCell ⟨g, 0, none⟩ (.slice A8 xs.length (c0 - 1))) g xs 0 from ⟨A8, c0 - 1, by
          obtain ⟨hlt, hv⟩ := Array.getElem?_eq_some_iff.1 HG.out
          simp [World.setCell, Array.getElem?_modify, HG.out], HG0.out, HC8.out, HL8.out⟩)
        have HB1 := Aside0.mk (HB.out.setCell (p := ⟨g, 0, none⟩) HG0.out (.slice A8 xs.length (c0 - 1)))
        obtain ⟨N', hN'⟩ : ∃ N', n + b % 128 * 128 ^ k = N' := ⟨_, rfl⟩
        rw [hN'] at hor HNX hP
        clear hnext hN' hp
        obtain ⟨kk, hkk⟩ : ∃ kk : Int, (k : Int) = kk := ⟨_, rfl⟩
        have e7 : wrap64 (7 * kk) = 7 * kk := by unfold wrap64; omega
        have e8 : wrap64 (kk + 1) = ((k + 1 : Nat) : Int) := by unfold wrap64; omega
        rw [hkk] at hsh ⊢
        by_cases cb : b < 128
        · have d1 : decide (b < 128) = true := decide_eq_true cb
          by_cases cN : N' > 1099511627776
          · rw [if_pos (.inl ⟨cb, .inl cN⟩)] at hP
            subst hP
            have d2 : decide (1099511627776 < N') = true := decide_eq_true cN
            clear cb cN hkk hk5
            go_wp2_with (fail)
            refine (fail_calls g xs 0 12 w0 _ HI1.out HB1.out).mono ?_
            rintro e w2 ⟨rfl, hi, hb, hk⟩
            rw [if_pos rfl] at hi
            have HI2 := Aside0.mk hi
            have HB2 := Aside0.mk hb
            have HK2 := Aside0.mk (HKB.out.trans ((Only.set _ _ 0 _).trans hk))
            clear hi hb hk
            go_wp2
            go_ret
            exact ⟨rfl, HI2.out, HB2.out, HK2.out⟩
          · have d2 : decide (1099511627776 < N') = false := decide_eq_false cN
            by_cases ck : 0 < kk
            · have d3 : decide (0 < kk) = true := decide_eq_true ck
              by_cases c0' : b = 0
              · rw [if_pos (.inl ⟨cb, .inr ⟨by omega, c0'⟩⟩)] at hP
                subst hP
                have d4 : (b == 0) = true := beq_iff_eq.2 c0'
                clear cb cN hkk hk5 ck c0'
                go_wp2_with (fail)
                refine (fail_calls g xs 0 12 w0 _ HI1.out HB1.out).mono ?_
                rintro e w2 ⟨rfl, hi, hb, hk⟩
                rw [if_pos rfl] at hi
                have HI2 := Aside0.mk hi
                have HB2 := Aside0.mk hb
                have HK2 := Aside0.mk (HKB.out.trans ((Only.set _ _ 0 _).trans hk))
                clear hi hb hk
                go_wp2
                go_ret
                exact ⟨rfl, HI2.out, HB2.out, HK2.out⟩
              · rw [if_neg (by omega), if_pos cb] at hP
                subst hP
                have d4 : (b == 0) = false := beq_eq_false_iff_ne.2 c0'
                have d5 : decide (128 ≤ b) = false := decide_eq_false (by omega)
                clear cb cN hkk hk5 ck c0'
                go_wp2
                go_ret
                exact ⟨rfl, HI1.out, HB1.out, HKB.out.trans (Only.set _ _ 0 _)⟩
            · rw [if_neg (by omega), if_pos cb] at hP
              subst hP
              have d3 : decide (0 < kk) = false := decide_eq_false ck
              have d5 : decide (128 ≤ b) = false := decide_eq_false (by omega)
              clear cb cN hkk hk5 ck
              go_wp2
              go_ret
              exact ⟨rfl, HI1.out, HB1.out, HKB.out.trans (Only.set _ _ 0 _)⟩
        · have d1 : decide (b < 128) = false := decide_eq_false cb
          have d5 : decide (128 ≤ b) = true := decide_eq_true (by omega)
          by_cases ck : kk = 5
          · rw [if_pos (.inr ⟨by omega, by omega⟩)] at hP
            subst hP
            have d6 : (kk == 5) = true := beq_iff_eq.2 ck
            clear cb hkk hk5 ck
            go_wp2_with (fail)
            refine (fail_calls g xs 0 12 w0 _ HI1.out HB1.out).mono ?_
            rintro e w2 ⟨rfl, hi, hb, hk⟩
            rw [if_pos rfl] at hi
            have HI2 := Aside0.mk hi
            have HB2 := Aside0.mk hb
            have HK2 := Aside0.mk (HKB.out.trans ((Only.set _ _ 0 _).trans hk))
            clear hi hb hk
            go_wp2
            go_ret
            exact ⟨rfl, HI2.out, HB2.out, HK2.out⟩
          · rw [if_neg (by omega), if_neg cb] at hP
            have d6 : (kk == 5) = false := beq_eq_false_iff_ne.2 ck
            have HK1 : Aside0 (k + 1 ≤ 5) := ⟨by omega⟩
            have HP1 := Aside0.mk hP
            clear cb hkk hk5 ck hP
            go_wp2
            go_roundg (gk - 1)
            case measure => have := HK.out; omega
            case rel => exact ⟨k + 1, N', xs, rfl, congrArg _ e8, ⟨by have := HK.out; omega, HK1.out⟩, HNX, HP1, ⟨fun x hx => HBY.out x (List.mem_cons_of_mem _ hx)⟩, ⟨by have := HN.out; simp at this; omega⟩, HI1, HB1, ⟨HKB.out.trans (Only.set _ _ 0 _)⟩⟩
  · have h1 : (e == 0) = false := beq_eq_false_iff_ne.2 he
    rw [dnum, if_neg he] at hr
    subst hr
    obtain ⟨A0, c0, hg, hg0, hC, hcc⟩ := HI.out
    have hc1 := (blk_cell hg) 1
    clear hg hg0 hC hcc he
    go_enter Try.func49, Try.ntmps49
    go_wp2
    go_loopg [4] 1 (fun kq v4 w' => v4 = .int .i64 0 ∧ Aside0 (w' = w))
    case atStart => exact ⟨rfl, ⟨rfl⟩⟩
    case round =>
      obtain ⟨rfl, ⟨rfl⟩⟩ := hrel
      go_wp2
      go_ret
      exact ⟨rfl, HI.out, HB.out, Only.refl _ _⟩
end Go.Proofs.Ythefbeekcjchcaa.P
namespace Go.Proofs.Ythefbeekcjchcaa.P
open Go Go.RowKit Go.Proofs.YthefbeekcjchcaaW.PrintWords Go.Proofs.YthefbeekcjchcaaW.PrintLast Go.Proofs.YthefbeekcjchcaaW.PrintMore
set_option linter.unusedVariables false
set_option linter.unusedSimpArgs false
theorem infoI3 : (Try.prog.info? 3).map (fun i => (i.zero, i.size, i.bytes)) = some (some (.int .i64 0), 1, 8) := by kernel_rfl
/-- What is left never grows, and stays bytes; the number is from nothing to 2 to the 40th. -/
theorem dn_left : ∀ (bs : List Int) (k : Nat) (n : Int), 0 ≤ n → Bytes bs → (0 ≤ (dn k n bs).1 ∧ (dn k n bs).1 ≤ 1099511627776) ∧ (dn k n bs).2.1.length ≤ bs.length ∧ Bytes (dn k n bs).2.1
  | [], k, n, hn, h => by rw [dn]; exact ⟨⟨by simp, by simp⟩, Nat.le_refl _, h⟩
  | c :: bs, k, n, hn, h => by
    have hc := h c (List.mem_cons_self ..)
    have ht : Bytes bs := fun x hx => h x (List.mem_cons_of_mem _ hx)
    have hp : (0 : Int) ≤ c % 128 * 128 ^ k := Int.mul_nonneg (by omega) (Int.pow_nonneg (by omega))
    rw [dn]
    split
    · exact ⟨⟨by simp, by simp⟩, by simp, ht⟩
    · rename_i h1
      split
      · exact ⟨⟨by dsimp only; omega, by dsimp only; omega⟩, by simp, ht⟩
      · have := dn_left bs (k + 1) (n + c % 128 * 128 ^ k) (by omega) ht
        exact ⟨this.1, by simp; omega, this.2.2⟩
theorem dnum_left (bs : List Int) (e : Int) (h : Bytes bs) : (0 ≤ (dnum bs e).1 ∧ (dnum bs e).1 ≤ 1099511627776) ∧ (dnum bs e).2.1.length ≤ bs.length ∧ Bytes (dnum bs e).2.1 := by
  unfold dnum
  split
  · exact dn_left bs 0 0 (by omega) h
  · exact ⟨⟨by simp, by simp⟩, Nat.le_refl _, h⟩
/-- How many come. -/
def dsize (bs : List Int) (e : Int) : Int × List Int × Int :=
  if (dnum bs e).1 > ((dnum bs e).2.1.length : Int) then (0, (dnum bs e).2.1, if (dnum bs e).2.2 = 0 then 13 else (dnum bs e).2.2) else dnum bs e
theorem dsize_left (bs : List Int) (e : Int) (h : Bytes bs) : (0 ≤ (dsize bs e).1 ∧ (dsize bs e).1 ≤ ((dsize bs e).2.1.length : Int)) ∧ (dsize bs e).2.1.length ≤ bs.length ∧ Bytes (dsize bs e).2.1 := by
  have := dnum_left bs e h
  unfold dsize
  split
  · exact ⟨⟨by simp, by simp⟩, this.2.1, this.2.2⟩
  · exact ⟨⟨this.1.1, by omega⟩, this.2.1, this.2.2⟩
set_option maxHeartbeats 4000000 in
set_option maxRecDepth 20000 in
theorem in_size_calls (g : Nat) (bs : List Int) (e : Int) (w0 w : World) (hI : IN w0 w g bs e) (hB : Below w0.heap.size w0 w) (hb : Bytes bs) (hlen : bs.length ≤ 1000000000) :
    Calls Try.prog 91 #[.pointer (some ⟨g, 0, none⟩)] w fun e' w' => e' = .returned (.int .i64 (dsize bs e).1) ∧ IN w0 w' g (dsize bs e).2.1 (dsize bs e).2.2 ∧ Below w0.heap.size w0 w' ∧ Only w w' g := by
  have K := Aside0.mk (in_num_calls g bs e w0 w hI hB hb hlen)
  unfold dsize
  generalize dnum bs e = r at K ⊢
  obtain ⟨n, xs, e1⟩ := r
  dsimp only at K ⊢
  clear hI hB hb hlen
  by_cases c : n > (xs.length : Int)
  · rw [if_pos c]
    have d : decide ((xs.length : Int) < n) = true := decide_eq_true c
    clear c
    obtain ⟨e2, he2⟩ : ∃ e2, (if e1 = 0 then 13 else e1) = e2 := ⟨_, rfl⟩
    dsimp only
    rw [he2]
    have HE2 := Aside0.mk he2
    clear he2
    go_enter Try.func91, Try.ntmps91
    go_wp2_with (fail)
    refine K.out.mono ?_
    rintro e w1 ⟨rfl, hi, hb, hk⟩
    have HI := Aside0.mk hi
    have HB := Aside0.mk hb
    have HK := Aside0.mk hk
    obtain ⟨A, c0, hg, _⟩ := hi
    have hc0 := (blk_cell hg) 0
    clear hb hk hg
    go_wp2_with (fail)
    refine (fail_calls g xs e1 13 w0 w1 HI.out HB.out).mono ?_
    rintro e w2 ⟨rfl, hi, hb, hk⟩
    rw [HE2.out] at hi
    have HI2 := Aside0.mk hi
    have HB2 := Aside0.mk hb
    have HK2 := Aside0.mk (HK.out.trans hk)
    clear hi hb hk
    go_wp2
    go_ret
    exact ⟨rfl, HI2.out, HB2.out, HK2.out⟩
  · rw [if_neg c]
    have d : decide ((xs.length : Int) < n) = false := decide_eq_false c
    clear c
    go_enter Try.func91, Try.ntmps91
    go_wp2_with (fail)
    refine K.out.mono ?_
    rintro e w1 ⟨rfl, hi, hb, hk⟩
    have HI := Aside0.mk hi
    have HB := Aside0.mk hb
    have HK := Aside0.mk hk
    obtain ⟨A, c0, hg, _⟩ := hi
    have hc0 := (blk_cell hg) 0
    clear hb hk hg
    go_wp2
    go_ret
    exact ⟨rfl, HI.out, HB.out, HK.out⟩
/-- So many numbers. -/
def tloop : Nat → List Int → List Int → Int → List Int × List Int × Int
  | 0, out, bs, e => (out, bs, e)
  | k + 1, out, bs, e => if e = 0 then tloop k (out ++ [(dnum bs e).1]) (dnum bs e).2.1 (dnum bs e).2.2 else ([], bs, e)
def gets (bs : List Int) (e : Int) : List Int × List Int × Int := tloop (dsize bs e).1.toNat [] (dsize bs e).2.1 (dsize bs e).2.2
theorem IN.grown {w0 w w1 : World} {g : Nat} {bs : List Int} {e : Int} (h : IN w0 w g bs e) {row : Option Nat} (hg : w.grownBy w1 row) (hne : some g ≠ row) : IN w0 w1 g bs e := by
  obtain ⟨A, c, hb, r⟩ := h
  exact ⟨A, c, (hg.block g (blk_lt hb) hne).trans hb, r⟩
theorem R_only {w w1 : World} {g e base : Nat} {α : Type} {d : Kd α} {v : Value} {xs : List α} (h : d.R e w base (fun k => k ≠ g) v xs) (hk : Only w w1 g) : d.R e w1 base (fun k => k ≠ g) v xs := Kd.R_step h (fun k ho hlt => hk.2 k hlt ho)
set_option maxHeartbeats 8000000 in
set_option maxRecDepth 20000 in
theorem things_int_calls (g : Nat) (bs : List Int) (e : Int) (w0 w : World) (hI : IN w0 w g bs e) (hB : Below w0.heap.size w0 w) (hb : Bytes bs) (hlen : bs.length ≤ 1000000000) :
    Calls Try.prog 89 #[.pointer (some ⟨g, 0, none⟩), .func (.func 49) #[.pointer (some ⟨g, 0, none⟩)] #[]] w fun e' w' => ∃ v, e' = .returned v ∧ Kd.R (Kd.int .i64) 3 w' w0.heap.size (fun k => k ≠ g) v (gets bs e).1 ∧ IN w0 w' g (gets bs e).2.1 (gets bs e).2.2 ∧ Below w0.heap.size w0 w' := by
  have K := Aside0.mk (in_size_calls g bs e w0 w hI hB hb hlen)
  have hs := dsize_left bs e hb
  obtain ⟨r, hr⟩ : ∃ r, gets bs e = r := ⟨_, rfl⟩
  rw [hr]
  unfold gets at hr
  generalize dsize bs e = s at K hs hr
  obtain ⟨n, ys, e1⟩ := s
  dsimp only at K hs hr
  obtain ⟨m, rfl⟩ : ∃ m : Nat, n = (m : Int) := ⟨n.toNat, by omega⟩
  rw [Int.toNat_natCast] at hr
  have HP := Aside0.mk hr
  have HY := Aside0.mk hs.2.2
  have HN : Aside0 (m ≤ 1000000000 ∧ ys.length ≤ 1000000000) := ⟨by omega, by omega⟩
  clear hI hB hb hlen hs hr
  go_enter Try.func89, Try.ntmps89
  go_wp2_with (fail)
  refine K.out.mono ?_
  rintro e w1 ⟨rfl, hi, hb, hk⟩
  have HI := Aside0.mk hi
  have HB := Aside0.mk hb
  clear hi hb hk
  go_wp2
  go_loopg [5, 8] m (fun kq v5 v8 w' => ∃ (i : Nat) (out xs : List Int) (ee : Int), v8 = .int .i64 (i : Int) ∧ Aside0 (i + kq = m) ∧ Aside0 (out.length = i) ∧ Aside0 (tloop kq out xs ee = r) ∧ Aside0 (Bytes xs) ∧ Aside0 (xs.length ≤ 1000000000) ∧ Aside0 (IN w0 w' g xs ee) ∧ Aside0 (Kd.R (Kd.int .i64) 3 w' w0.heap.size (fun k => k ≠ g) v5 out) ∧ Aside0 (Below w0.heap.size w0 w'))
  case atStart => exact ⟨0, [], ys, e1, rfl, ⟨by omega⟩, ⟨rfl⟩, HP, HY, ⟨HN.out.2⟩, HI, ⟨Kd.R_nil _ _ _ _ _⟩, HB⟩
  case round =>
    clear HI HB HP HY
    obtain ⟨i, out, xs, ee, rfl, HK, HOL, HP, HY, HXL, HI, HO, HB⟩ := hrel
    obtain ⟨A0, c0, hg, hg0, hC, hcc⟩ := HI.out
    have hc1 := (blk_cell hg) 1
    clear hg hC hcc
    have HG0 := Aside0.mk hg0
    clear hg0
    cases gk with
    | zero =>
      have e1 : decide (i < m) = false := decide_eq_false (by have := HK.out; omega)
      have hP := HP.out
      rw [tloop] at hP
      subst hP
      go_wp2
      go_ret
      exact ⟨_, rfl, HO.out, HI.out, HB.out⟩
    | succ gk =>
      have e1 : decide (i < m) = true := decide_eq_true (by have := HK.out; omega)
      have e5 : wrap64 ((i : Int) + 1) = ((i + 1 : Nat) : Int) := by have := HK.out; have := HN.out; unfold wrap64; omega
      have hP := HP.out
      rw [tloop] at hP
      by_cases he : ee = 0
      · rw [if_pos he] at hP
        have h0 : (ee == 0) = true := beq_iff_eq.2 he
        have h1 : (ee != 0) = false := bne_eq_false_iff_eq.2 he
        have K := Aside0.mk (in_num_calls g xs ee w0 wr HI.out HB.out HY.out HXL.out)
        have hl := dnum_left xs ee HY.out
        generalize dnum xs ee = t at K hP hl
        obtain ⟨x, zs, e2⟩ := t
        dsimp only at K hP hl
        have HP1 := Aside0.mk hP
        have HL := Aside0.mk hl
        clear he hP hl
        go_wp2_with (fail)
        refine K.out.mono ?_
        rintro e w2 ⟨rfl, hi, hb, hk⟩
        have HI1 := Aside0.mk hi
        have HB1 := Aside0.mk hb
        have HO1 := Aside0.mk (R_only HO.out hk)
        clear hi hb hk K
        go_wp2_with (first | ((with_reducible refine gate_dst (N := 18) rfl ?_); refine Kd.R_lit (Kd.int .i64) w2.heap.size 3 ?hg (N := 18) ?hd (xs := [x]) (inner := [.int .i64 x]) (ok := fun _ => True) (okp := fun _ => True) ?hr ?hp (fun _ hk => hk) trivial (Below.refl _ _) (Nat.le_refl _) (by simp) ?_; (case hd => rfl); (case hg => rfl); (case hr => first | (go_simp; done) | (go_simp; rfl)); (case hp => exact (Reps.one (show Kd.M (Kd.int .i64) _ _ _ x [.int .i64 x] from rfl) (Reps.none _ _))); intro v43 w7 ho hb hg_ hnew_; clear hg_ hnew_; obtain ⟨A43, c43, rfl, hcl43, hC43⟩ := Kd.R_reads ho; have HC43 := Aside0.mk hC43; have HO2 := Aside0.mk (Kd.R_below HO1.out hb); have HI2 := Aside0.mk (HI1.out.below hb); have HB2 := Aside0.mk (below_step HB1.out hb); clear ho hb hC43 hcl43) | ((with_reducible refine gate_builtin (b := .append) (xs := #[.tmp 15, .tmp 18]) rfl ?_); at_builtin; refine Kd.R_append_row (Value.int .i64) 0 (h1 := fun _ => rfl) (w0 := w0) w0.heap.size rfl (.tmp 15) (.tmp 18) 22 3 (.int .i64 0) 8 rfl Try.underlying22 infoI3 rfl (by decide) u5 out [x] A43 1 c43 (fun k => k ≠ g) rfl rfl (fun k hk => by obtain ⟨_, _, hgg, _⟩ := HI2.out; have := blk_lt hgg; omega) HO2.out HC43.out HB2.out (below_size HB2.out) (by have := HOL.out; have := HK.out; have := HN.out; omega) ?_; intro v44 w8 ho hb hgr hat; have HO3 := Aside0.mk ho; have HB3 := Aside0.mk hb; have HI3 := Aside0.mk (HI2.out.grown hgr (Kd.R_away HO2.out (fun k hk => hk))); clear ho hb hgr hat))
        go_roundg gk
        case measure => omega
        case rel => exact ⟨i + 1, out ++ [x], zs, e2, congrArg _ e5, ⟨by have := HK.out; omega⟩, ⟨by simp [HOL.out]⟩, HP1, ⟨HL.out.2.2⟩, ⟨by have := HL.out.2.1; have := HXL.out; omega⟩, HI3, HO3, HB3⟩
      · rw [if_neg he] at hP
        subst hP
        have h0 : (ee == 0) = false := beq_eq_false_iff_ne.2 he
        have h1 : (ee != 0) = true := bne_iff_ne.2 he
        clear he
        go_wp2
        go_ret
        exact ⟨_, rfl, Kd.R_nil _ _ _ _ _, HI.out, HB.out⟩
end Go.Proofs.Ythefbeekcjchcaa.P
