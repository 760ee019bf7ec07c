import Derived.Test.YthefbeekcjchcaaInNum
namespace Go.Proofs.Ythefbeekcjchcaa.P
open Go Go.RowKit Go.Proofs.YthefbeekcjchcaaW.PrintWords Go.Proofs.YthefbeekcjchcaaW.PrintLast Go.Proofs.YthefbeekcjchcaaW.PrintMore
set_option linter.unusedVariables false
set_option linter.unusedSimpArgs false
set_option maxHeartbeats 4000000 in
set_option maxRecDepth 20000 in
theorem in_ints_calls (g : Nat) (bs : List Int) (e : Int) (w0 w : World) (hI : IN w0 w g bs e) (hB : Below w0.heap.size w0 w) (hb : Bytes bs) (hlen : bs.length ≤ 1000000000) :
    Calls Try.prog 39 #[.pointer (some ⟨g, 0, none⟩)] w fun e' w' => ∃ v, e' = .returned v ∧ Kd.R (Kd.int .i64) 3 w' w0.heap.size (fun k => k ≠ g) v (gets bs e).1 ∧ IN w0 w' g (gets bs e).2.1 (gets bs e).2.2 ∧ Below w0.heap.size w0 w' := by
  have hmf : ∀ (fn : Fn) (first cap : Array Value) (w : World), (Instr.makeFunc fn first cap).run Try.prog w = .ok (.func fn first cap) w := fun _ _ _ _ => rfl
  have K := Aside0.mk (things_int_calls g bs e w0 w hI hB hb hlen)
  clear hI hB hb hlen
  go_enter Try.func39, Try.ntmps39
  go_wp2_with (fail)
  refine K.out.mono ?_
  rintro e' w1 ⟨v, rfl, hr, hi, hb⟩
  have HR := Aside0.mk hr
  have HI := Aside0.mk hi
  have HB := Aside0.mk hb
  clear hr hi hb K
  go_wp2
  go_ret
  exact ⟨v, rfl, HR.out, HI.out, HB.out⟩
/-- The first error; bytes that are left are one too. -/
def dend (bs : List Int) (e : Int) : Int := if (bs.length : Int) > 0 then (if e = 0 then 12 else e) else e
theorem in_end_calls (g : Nat) (bs : List Int) (e : Int) (w0 w : World) (hI : IN w0 w g bs e) (hB : Below w0.heap.size w0 w) :
    Calls Try.prog 88 #[.pointer (some ⟨g, 0, none⟩)] w fun e' w' => e' = .returned (.int .i64 (dend bs e)) ∧ IN w0 w' g bs (dend bs e) ∧ Below w0.heap.size w0 w' ∧ Only w w' g := by
  have HI := Aside0.mk hI
  have HB := Aside0.mk hB
  obtain ⟨A, c0, hg, _⟩ := hI
  have hc0 := (blk_cell hg) 0
  have hc1 := (blk_cell hg) 1
  clear hg hB
  unfold dend
  by_cases c : (bs.length : Int) > 0
  · rw [if_pos c]
    have d : decide (0 < (bs.length : Int)) = true := decide_eq_true c
    have d' : decide (0 < bs.length) = true := decide_eq_true (by omega)
    obtain ⟨e2, he2⟩ : ∃ e2, (if e = 0 then 12 else e) = e2 := ⟨_, rfl⟩
    rw [he2]
    have HE2 := Aside0.mk he2
    have hne : bs ≠ [] := by intro h; subst h; simp at c
    clear he2 c
    go_enter Try.func88, Try.ntmps88
    go_wp2_with (fail)
    refine (fail_calls g bs e 12 w0 w HI.out HB.out).mono ?_
    rintro e' w2 ⟨rfl, hi, hb, hk⟩
    rw [HE2.out] at hi
    have HI2 := Aside0.mk hi
    have HB2 := Aside0.mk hb
    have HK2 := Aside0.mk hk
    obtain ⟨A2, c2, hg2, _⟩ := hi
    have hc2 := (blk_cell hg2) 1
    clear hb hk hg2
    go_wp2
    go_ret
    exact ⟨rfl, HI2.out, HB2.out, HK2.out⟩
  · rw [if_neg c]
    have hne : bs = [] := List.eq_nil_of_length_eq_zero (by omega)
    subst hne
    clear c
    go_enter Try.func88, Try.ntmps88
    go_wp2
    go_ret
    exact ⟨rfl, HI.out, HB.out, Only.refl _ _⟩
theorem got_int_calls (g : Nat) (bs : List Int) (e : Int) (v : Value) (l : List Int) (w0 w : World) (hI : IN w0 w g bs e) (hB : Below w0.heap.size w0 w) (hR : Kd.R (Kd.int .i64) 3 w w0.heap.size (fun k => k ≠ g) v l) :
    Calls Try.prog 38 #[.pointer (some ⟨g, 0, none⟩), v] w fun e' w' => ∃ v', e' = .returned (.tuple #[v', .int .i64 (dend bs e)]) ∧ Kd.R (Kd.int .i64) 3 w' w0.heap.size (fun _ => True) v' (if dend bs e = 0 then l else []) ∧ Below w0.heap.size w0 w' := by
  have K := Aside0.mk (in_end_calls g bs e w0 w hI hB)
  have HR := Aside0.mk hR
  generalize dend bs e = x at K ⊢
  clear hI hB hR
  by_cases h : x = 0
  · rw [if_pos h]
    have h1 : (x == 0) = true := beq_iff_eq.2 h
    have h2 : (x != 0) = false := bne_eq_false_iff_eq.2 h
    have H := Aside0.mk h
    clear h
    go_enter Try.func38, Try.ntmps38
    go_wp2_with (fail)
    refine K.out.mono ?_
    rintro e' w2 ⟨rfl, hi, hb, hk⟩
    have HB2 := Aside0.mk hb
    have HR2 := Aside0.mk (R_only HR.out hk)
    clear hi hb hk
    go_wp2
    go_ret2
    exact ⟨v, by rw [H.out]; rfl, Kd.R_mono HR2.out (fun _ _ => trivial), HB2.out⟩
  · rw [if_neg h]
    have h1 : (x == 0) = false := beq_eq_false_iff_ne.2 h
    have h2 : (x != 0) = true := bne_iff_ne.2 h
    clear h
    go_enter Try.func38, Try.ntmps38
    go_wp2_with (fail)
    refine K.out.mono ?_
    rintro e' w2 ⟨rfl, hi, hb, hk⟩
    have HB2 := Aside0.mk hb
    clear hi hb hk
    go_wp2
    go_ret2
    exact ⟨_, rfl, Kd.R_nil _ _ _ _ _, HB2.out⟩
/-- What GetNumbers gives. -/
def readE (bs : List Int) : Int := dend (gets bs 0).2.1 (gets bs 0).2.2
def readL (bs : List Int) : List Int := if readE bs = 0 then (gets bs 0).1 else []
set_option maxHeartbeats 4000000 in
set_option maxRecDepth 20000 in
theorem GetNumbers_calls (A : Option Addr) (c : Nat) (bs : List Int) (w : World) (hr : Kd.C (Kd.int .u8) w A bs.length bs) (hc : bs.length ≤ c) (hb : Bytes bs) (hlen : bs.length ≤ 1000000000) :
    Calls Try.prog 14 #[.slice A bs.length c] w fun e w' => ∃ v, e = .returned (.tuple #[v, .int .i64 (readE bs)]) ∧ Kd.R (Kd.int .i64) 3 w' w.heap.size (fun _ => True) v (readL bs) ∧ Below w.heap.size w w' := by
  have hI : IN w (w.alloc (.cells #[.slice A bs.length c, .int .i64 0] 98)) w.heap.size bs 0 := ⟨A, c, by show (w.heap.push _)[w.heap.size]? = _; simp, Nat.le_refl _, hr, hc⟩
  have K := Aside0.mk (in_ints_calls w.heap.size bs 0 w _ hI (below_alloc (Below.refl _ _) _) hb hlen)
  clear hI hr hlen hb hc
  unfold readL readE
  generalize gets bs 0 = r at K ⊢
  obtain ⟨l, xs, e1⟩ := r
  dsimp only at K ⊢
  obtain ⟨E, hE⟩ : ∃ E, dend xs e1 = E := ⟨_, rfl⟩
  rw [hE]
  obtain ⟨L, hL⟩ : ∃ L, (if E = 0 then l else []) = L := ⟨_, rfl⟩
  rw [hL]
  have HE := Aside0.mk hE
  have HL := Aside0.mk hL
  clear hE hL
  go_enter Try.func14, Try.ntmps14
  go_wp2_with (fail)
  refine K.out.mono ?_
  rintro e w1 ⟨v, rfl, hr, hi, hb⟩
  have KD := Aside0.mk (got_int_calls _ _ _ v l w w1 hi hb hr)
  rw [HE.out, HL.out] at KD
  clear hr hi hb K
  go_wp2_with (fail)
  refine KD.out.mono ?_
  rintro e w2 ⟨v', rfl, hR, hb⟩
  have HR := Aside0.mk hR
  have HB := Aside0.mk hb
  clear hR hb
  go_wp2
  go_ret2
  exact ⟨v', rfl, HR.out, HB.out⟩
end Go.Proofs.Ythefbeekcjchcaa.P
