import Derived.Test.YthefbeekcjchcaaOutNum
namespace Go.Proofs.Ythefbeekcjchcaa.P
open Go Go.RowKit Go.Proofs.YthefbeekcjchcaaW.PrintWords Go.Proofs.YthefbeekcjchcaaW.PrintLast Go.Proofs.YthefbeekcjchcaaW.PrintMore
set_option linter.unusedVariables false
set_option linter.unusedSimpArgs false
theorem putn_len (n : Int) (s : List Int × Bool) : (putn n s).1.length ≤ s.1.length + 6 := by
  unfold putn
  split
  · rename_i h
    simp only [fits, Bool.and_eq_true, decide_eq_true_eq] at h
    have h2 := enc_len 5 n.toNat (by rw [show (128 : Nat) ^ (5 + 1) = 4398046511104 by decide]; omega)
    simp
    omega
  · simp
/-- Numbers one by one, whatever can't be written passed over. -/
def putf (l : List Int) (s : List Int × Bool) : List Int × Bool := l.foldl (fun s n => putn n s) s
theorem putf_nil (s : List Int × Bool) : putf [] s = s := rfl
theorem putf_cons (n : Int) (l : List Int) (s : List Int × Bool) : putf (n :: l) s = putf l (putn n s) := rfl
def puts (l : List Int) (s : List Int × Bool) : List Int × Bool := putf l (putn (l.length : Int) s)
theorem drop_rd {l : List Int} {i : Nat} (c1 : i < l.length) : l.drop i = rd l (i : Int) :: l.drop (i + 1) := by
  rw [List.drop_eq_getElem_cons c1]
  congr 1
  unfold rd
  rw [Int.toNat_natCast, List.getD_eq_getElem?_getD, List.getElem?_eq_getElem c1]
  rfl
set_option maxHeartbeats 4000000 in
set_option maxRecDepth 20000 in
theorem W_Ints_calls (g : Nat) (bs : List Int) (bad : Bool) (A : Option Addr) (c : Nat) (l : List Int) (w0 w : World) (hO : OW 27 w0 w g bs bad) (hB : Below w0.heap.size w0 w) (hr : Kd.C (Kd.int .i64) w0 A l.length l) (hlen : bs.length + 6 + 6 * l.length ≤ 1000000000) :
    Calls Try.prog 12 #[.pointer (some ⟨g, 0, none⟩), .slice A l.length c] w fun e w' => e = .returned (.tuple #[]) ∧ OW 27 w0 w' g (puts l (bs, bad)).1 (puts l (bs, bad)).2 ∧ Below w0.heap.size w0 w' ∧ Keeps w w' g := by
  have HR := Aside0.mk hr
  have HN := Aside0.mk hlen
  have HLEN : Aside0 (l.length ≤ 1000000000) := ⟨by omega⟩
  have K := Aside0.mk (W_num_calls g bs bad (l.length : Int) w0 w hO hB (by omega))
  obtain ⟨r, hr⟩ : ∃ r, puts l (bs, bad) = r := ⟨_, rfl⟩
  rw [hr]
  have HP := Aside0.mk hr
  have hpl := putn_len (l.length : Int) (bs, bad)
  unfold puts at HP
  generalize putn (l.length : Int) (bs, bad) = s0 at *
  have HN0 : Aside0 (s0.1.length + 6 * l.length ≤ 1000000000) := ⟨by have := HN.out; simp at hpl; omega⟩
  clear hO hB hlen hr hpl
  go_enter Try.func12, Try.ntmps12
  go_wp2_with (fail)
  refine K.out.mono ?_
  rintro e w1 ⟨rfl, ho, hb, hk⟩
  have HO := Aside0.mk ho
  have HB := Aside0.mk hb
  have HKP := Aside0.mk hk
  clear ho hb hk K HN
  go_wp2
  go_loopg [4] l.length (fun kq v4 w' => ∃ (i : Nat) (s : List Int × Bool), v4 = .int .i64 (i : Int) ∧ Aside0 (i + kq = l.length) ∧ Aside0 (s.1.length + 6 * kq ≤ 1000000000) ∧ Aside0 (putf (l.drop i) s = r) ∧ Aside0 (OW 27 w0 w' g s.1 s.2) ∧ Aside0 (Below w0.heap.size w0 w') ∧ Aside0 (Keeps w w' g))
  case atStart => exact ⟨0, s0, rfl, ⟨by omega⟩, HN0, HP, HO, HB, HKP⟩
  case round =>
    clear HO HB HP HN0 HKP
    obtain ⟨i, s, rfl, HI, HN, HP, HO, HB, HKP⟩ := hrel
    by_cases c1 : i < l.length
    · have e1 : decide (i < l.length) = true := decide_eq_true c1
      have e5 : wrap64 ((i : Int) + 1) = ((i + 1 : Nat) : Int) := by have := HLEN.out; unfold wrap64; omega
      obtain ⟨ad, ea, hx⟩ := Kd.at_int (Kd.C_below HR.out HB.out) (i : Int) (by omega) (by omega)
      cases ea
      rw [Int.toNat_natCast] at hx
      have hP := HP.out
      rw [drop_rd c1, putf_cons] at hP
      generalize rd l (i : Int) = n at hx hP
      have hpl := putn_len n s
      have K := Aside0.mk (W_num_calls g s.1 s.2 n w0 wr HO.out HB.out (by have := HN.out; omega))
      change Aside0 (Calls Try.prog 35 _ _ fun e w' => _ ∧ OW 27 w0 w' g (putn n s).1 (putn n s).2 ∧ _) at K
      generalize putn n s = s1 at *
      have HP1 := Aside0.mk hP
      have HPL := Aside0.mk hpl
      clear hP hpl
      go_wp2_with (fail)
      refine K.out.mono ?_
      rintro e w2 ⟨rfl, ho, hb, hk⟩
      have HO1 := Aside0.mk ho
      have HB1 := Aside0.mk hb
      have HK1 := Aside0.mk (HKP.out.trans hk)
      clear ho hb hk K hx
      go_wp2
      go_roundg (gk - 1)
      case measure => have := HI.out; omega
      case rel => exact ⟨i + 1, s1, congrArg _ e5, ⟨by have := HI.out; omega⟩, ⟨by have := HN.out; have := HPL.out; have := HI.out; omega⟩, HP1, HO1, HB1, HK1⟩
    · have e1 : decide (i < l.length) = false := decide_eq_false c1
      have hP := HP.out
      rw [List.drop_eq_nil_of_le (by omega), putf_nil] at hP
      subst hP
      go_wp2
      go_end0
      exact ⟨rfl, HO.out, HB.out, HKP.out⟩
/-- A variable that a literal holds, with the place of what is written. -/
def BX (w : World) (gb g : Nat) : Prop := w.heap[gb]? = some (.cells #[.pointer (some ⟨g, 0, none⟩)] 92 (0, 0)) ∧ gb ≠ g
theorem BX.keep {w w1 : World} {gb g : Nat} (h : BX w gb g) (hk : Keeps w w1 g) : BX w1 gb g := ⟨hk gb _ h.1 h.2 (fun cs m e => by cases e), h.2⟩
theorem lit_R (W : World) (base : Nat) (hb : base ≤ W.heap.size) (n : Int) : Kd.R (Kd.int .i64) 3 (W.alloc (.cells #[.int .i64 n] 3)) base (fun _ => True) (.slice (some ⟨W.heap.size, 0, none⟩) 1 1) [n] := by
  have h2 := World.ownsRow_lit (base := base) (e := 3) (size := 1) W #[.int .i64 n] 1 hb (by simp [maxLen]) (by simp)
  exact Kd.R_of_own (h1 := fun _ => rfl) (by simpa [encs] using h2) (fun _ _ => trivial)
set_option maxHeartbeats 4000000 in
set_option maxRecDepth 20000 in
theorem ints1_calls (g gb : Nat) (bs : List Int) (bad : Bool) (n : Int) (w0 w : World) (hO : OW 94 w0 w g bs bad) (hX : BX w gb g) (hB : Below w0.heap.size w0 w) (hlen : bs.length + 6 ≤ 1000000000) :
    Calls Try.prog 87 #[.int .i64 n, .pointer (some ⟨gb, 0, none⟩)] w fun e w' => e = .returned (.tuple #[]) ∧ OW 94 w0 w' g (putn n (bs, bad)).1 (putn n (bs, bad)).2 ∧ Below w0.heap.size w0 w' ∧ Keeps w w' g := by
  have hc0 := (blk_cell hX.1) 0
  have HO := Aside0.mk (hO.below (below_alloc (Below.refl w.heap.size w) (Obj.cells #[.int .i64 n] 3)))
  have HB := Aside0.mk (below_alloc hB (Obj.cells #[.int .i64 n] 3))
  have HK := Aside0.mk (Keeps.below (g := g) (below_alloc (Below.refl w.heap.size w) (Obj.cells #[.int .i64 n] 3)))
  have HL := Aside0.mk (lit_R w w.heap.size (Nat.le_refl _) n)
  have HN := Aside0.mk hlen
  clear hO hB hX hlen
  go_enter Try.func87, Try.ntmps87
  go_wp2_with (fail)
  refine (out_num_calls g bs bad w.heap.size _ [n] w0 _ HO.out HB.out HL.out (by have := HN.out; simp; omega)).mono ?_
  rintro e w1 ⟨rfl, ho, hb, hk⟩
  rw [putl_one] at ho
  have HO1 := Aside0.mk ho
  have HB1 := Aside0.mk hb
  have HK1 := Aside0.mk (HK.out.trans hk)
  clear ho hb hk
  go_wp2
  go_end0
  exact ⟨rfl, HO1.out, HB1.out, HK1.out⟩
set_option maxHeartbeats 4000000 in
set_option maxRecDepth 20000 in
theorem list_int_calls (g gb : Nat) (bs : List Int) (bad : Bool) (A : Option Addr) (c : Nat) (l : List Int) (w0 w : World) (hO : OW 94 w0 w g bs bad) (hX : BX w gb g) (hB : Below w0.heap.size w0 w) (hr : Kd.C (Kd.int .i64) w0 A l.length l) (hlen : bs.length + 6 + 6 * l.length ≤ 1000000000) :
    Calls Try.prog 86 #[.pointer (some ⟨g, 0, none⟩), .slice A l.length c, .func (.func 87) #[] #[.pointer (some ⟨gb, 0, none⟩)]] w fun e w' => e = .returned (.tuple #[]) ∧ OW 94 w0 w' g (puts l (bs, bad)).1 (puts l (bs, bad)).2 ∧ Below w0.heap.size w0 w' ∧ Keeps w w' g := by
  have HR := Aside0.mk hr
  have HN := Aside0.mk hlen
  have HLEN : Aside0 (l.length ≤ 1000000000) := ⟨by omega⟩
  have HX := Aside0.mk hX
  have K := Aside0.mk (out_num_calls g bs bad w.heap.size _ [(l.length : Int)] w0 _ (hO.below (below_alloc (Below.refl w.heap.size w) (Obj.cells #[.int .i64 (l.length : Int)] 3))) (below_alloc hB _) (lit_R w w.heap.size (Nat.le_refl _) (l.length : Int)) (by simp; omega))
  have HK0 := Aside0.mk (Keeps.below (g := g) (below_alloc (Below.refl w.heap.size w) (Obj.cells #[.int .i64 (l.length : Int)] 3)))
  rw [putl_one] at K
  obtain ⟨r, hr⟩ : ∃ r, puts l (bs, bad) = r := ⟨_, rfl⟩
  rw [hr]
  have HP := Aside0.mk hr
  have hpl := putn_len (l.length : Int) (bs, bad)
  unfold puts at HP
  generalize putn (l.length : Int) (bs, bad) = s0 at *
  have HN0 : Aside0 (s0.1.length + 6 * l.length ≤ 1000000000) := ⟨by have := HN.out; simp at hpl; omega⟩
  clear hO hB hlen hr hpl hX
  go_enter Try.func86, Try.ntmps86
  go_wp2_with (fail)
  refine K.out.mono ?_
  rintro e w1 ⟨rfl, ho, hb, hk⟩
  have HO := Aside0.mk ho
  have HB := Aside0.mk hb
  have HKP := Aside0.mk (HK0.out.trans hk)
  clear ho hb hk K HN
  go_wp2
  go_loopg [7, 15] l.length (fun kq v7 v15 w' => ∃ (i : Nat) (s : List Int × Bool), v15 = .int .i64 (i : Int) ∧ Aside0 (i + kq = l.length) ∧ Aside0 (s.1.length + 6 * kq ≤ 1000000000) ∧ Aside0 (putf (l.drop i) s = r) ∧ Aside0 (OW 94 w0 w' g s.1 s.2) ∧ Aside0 (Below w0.heap.size w0 w') ∧ Aside0 (Keeps w w' g))
  case atStart => exact ⟨0, s0, rfl, ⟨by omega⟩, HN0, HP, HO, HB, HKP⟩
  case round =>
    clear HO HB HP HN0 HKP
    obtain ⟨i, s, rfl, HI, HN, HP, HO, HB, HKP⟩ := hrel
    by_cases c1 : i < l.length
    · have e1 : decide (i < l.length) = true := decide_eq_true c1
      have e5 : wrap64 ((i : Int) + 1) = ((i + 1 : Nat) : Int) := by have := HLEN.out; unfold wrap64; omega
      obtain ⟨ad, ea, hx⟩ := Kd.at_int (Kd.C_below HR.out HB.out) (i : Int) (by omega) (by omega)
      cases ea
      rw [Int.toNat_natCast] at hx
      have hP := HP.out
      rw [drop_rd c1, putf_cons] at hP
      generalize rd l (i : Int) = n at hx hP
      have hpl := putn_len n s
      have K := Aside0.mk (ints1_calls g gb s.1 s.2 n w0 wr HO.out (HX.out.keep HKP.out) HB.out (by have := HN.out; have := HI.out; omega))
      change Aside0 (Calls Try.prog 87 _ _ fun e w' => _ ∧ OW 94 w0 w' g (putn n s).1 (putn n s).2 ∧ _) at K
      generalize putn n s = s1 at *
      have HP1 := Aside0.mk hP
      have HPL := Aside0.mk hpl
      clear hP hpl
      go_wp2_with (fail)
      refine K.out.mono ?_
      rintro e w2 ⟨rfl, ho, hb, hk⟩
      have HO1 := Aside0.mk ho
      have HB1 := Aside0.mk hb
      have HK1 := Aside0.mk (HKP.out.trans hk)
      clear ho hb hk K hx
      go_wp2
      go_roundg (gk - 1)
      case measure => have := HI.out; omega
      case rel => exact ⟨i + 1, s1, congrArg _ e5, ⟨by have := HI.out; omega⟩, ⟨by have := HN.out; have := HPL.out; have := HI.out; omega⟩, HP1, HO1, HB1, HK1⟩
    · have e1 : decide (i < l.length) = false := decide_eq_false c1
      have hP := HP.out
      rw [List.drop_eq_nil_of_le (by omega), putf_nil] at hP
      subst hP
      go_wp2
      go_end0
      exact ⟨rfl, HO.out, HB.out, HKP.out⟩
end Go.Proofs.Ythefbeekcjchcaa.P
