import Derived.Test.YthefbeekcjchcaaPutPlan
namespace Go.Proofs.Ythefbeekcjchcaa.P
open Go Go.RowKit Go.Proofs.YthefbeekcjchcaaW.PrintWords Go.Proofs.YthefbeekcjchcaaW.PrintLast Go.Proofs.YthefbeekcjchcaaW.PrintMore
set_option linter.unusedVariables false
set_option linter.unusedSimpArgs false
theorem at_stp {w : World} {A : Option Addr} {l : List Stp} (h : Kd.C (Kd.pair (Kd.int .i64) (Kd.int .i64)) w A l.length l) (i : Nat) (hi : i < l.length) :
    ∃ ad, A = some ad ∧ w.cell? (ad.add (i * 2)) = some (.int .i64 (l.getD i (0, 0)).1) ∧ w.cell? ⟨(ad.add (i * 2)).block, (ad.add (i * 2)).off + 1, none⟩ = some (.int .i64 (l.getD i (0, 0)).2) := by
  obtain ⟨ad, cs, ea, hcl, hK, hcc⟩ := Kd.C_get h (0, 0) (i : Int) (by omega) (by omega)
  rw [Int.toNat_natCast] at hK hcc
  obtain ⟨z0, z1, rfl, y0, y1⟩ := hK
  cases y0
  cases y1
  refine ⟨ad, ea, hcc 0 _ rfl, ?_⟩
  have := (show w.cell? (ad.add (i * 2 + 1)) = _ from hcc 1 _ rfl)
  rw [show ad.add (i * 2 + 1) = (ad.add (i * 2)).add 1 from (Addr.add_add _ _ _).symm] at this
  exact this
theorem len_step (l : List Stp) (i : Nat) (h : i < l.length) : (l.drop i).flatMap tStp = tStp (l.getD i (0, 0)) ++ (l.drop (i + 1)).flatMap tStp ∧ costT ((l.drop i).flatMap tStp) = 12 + costT ((l.drop (i + 1)).flatMap tStp) := by
  have e := flat_stp_ l i h (0, 0)
  refine ⟨e, ?_⟩
  rw [e, costT_app]
  rfl
set_option maxHeartbeats 8000000 in
set_option maxRecDepth 20000 in
theorem W_Plan_T (g : Nat) (p : Pln) (A0 A1 A2 A3 : Option Addr) (k0 k1 k2 k3 : Nat) (ts : List Tok) (w0 w : World) (hO : OT 27 w0 w g ts) (hB : Below w0.heap.size w0 w) (h0 : Kd.C (Kd.int .i64) w0 A0 p.1.length p.1) (h1 : Kd.C (Kd.int .i64) w0 A1 p.2.1.length p.2.1) (h2 : Kd.C (Kd.pair (Kd.int .i64) (Kd.int .i64)) w0 A2 p.2.2.1.length p.2.2.1) (h3 : Kd.C (Kd.pair (Kd.int .i64) (Kd.int .i64)) w0 A3 p.2.2.2.length p.2.2.2) (hc : costT ts + costT (tPln p) ≤ 1000000000) :
    Calls Try.prog 19 #[.pointer (some ⟨g, 0, none⟩), .agg #[.slice A0 p.1.length k0, .slice A1 p.2.1.length k1, .slice A2 p.2.2.1.length k2, .slice A3 p.2.2.2.length k3]] w (Wrote 27 w0 w g (ts ++ tPln p)) := by
  obtain ⟨l0, l1, l2, l3⟩ := p
  dsimp only at h0 h1 h2 h3 ⊢
  obtain ⟨us, hus⟩ : ∃ us, ts ++ tPln (l0, l1, l2, l3) = us := ⟨_, rfl⟩
  have HUS := Aside0.mk (show ((((ts ++ listT tNum l0) ++ listT tNum l1) ++ [.num (l2.length : Int)]) ++ l2.flatMap tStp) ++ listT tStp l3 = us by rw [← hus]; simp [tPln, listT])
  have hcc : costT ts + costT (listT tNum l0) + costT (listT tNum l1) + 6 + costT (l2.flatMap tStp) + 6 + costT (l3.flatMap tStp) ≤ 1000000000 := by
    have := hc
    simp only [tPln, costT_app] at this
    have e2 : costT (listT tStp l2) = 6 + costT (l2.flatMap tStp) := costT_num _ _
    have e3 : costT (listT tStp l3) = 6 + costT (l3.flatMap tStp) := costT_num _ _
    omega
  have hl : ∀ l : List Stp, costT (l.flatMap tStp) = 12 * l.length := by
    intro l
    induction l with
    | nil => rfl
    | cons x l ih => rw [List.flatMap_cons, costT_app, ih, List.length_cons]; show 12 + _ = _; omega
  have HL2 : Aside0 (l2.length ≤ 1000000000) := ⟨by have := hl l2; omega⟩
  have HL3 : Aside0 (l3.length ≤ 1000000000) := ⟨by have := hl l3; omega⟩
  have HC := Aside0.mk hcc
  rw [hus]
  have H1 := Aside0.mk h1
  have H2 := Aside0.mk h2
  have H3 := Aside0.mk h3
  have hg := hO.lt
  obtain ⟨B0, hB0⟩ : ∃ o, o = Obj.cells #[.slice A0 l0.length k0, .slice A1 l1.length k1, .slice A2 l2.length k2, .slice A3 l3.length k3] 49 := ⟨_, rfl⟩
  have hbx := below_alloc (Below.refl w.heap.size w) B0
  have HK0 := Aside0.mk (Keeps.below (g := g) hbx)
  have hP := heap_last w B0
  have K := Aside0.mk (W_Ints_T g ts A0 k0 l0 w0 (w.alloc B0) (hO.below hbx) (below_alloc hB B0) h0 (by omega))
  subst hB0
  have HP := Aside0.mk hP
  have hp0 := (blk_cell hP) 0
  have HNE : Aside0 (w.heap.size ≠ g) := ⟨by omega⟩
  clear h0 h1 h2 h3 hc hcc hus hl hO hB hbx hP hg
  go_enter Try.func19, Try.ntmps19
  go_wp2_with (fail)
  refine K.out.mono ?_
  rintro e w1 ⟨rfl, ho, hb, hk⟩
  clear hp0 K
  have HP1 := Aside0.mk (box_keep HP.out hk HNE.out (by decide))
  have HK1 := Aside0.mk (HK0.out.trans hk)
  have K := Aside0.mk (W_Ints_T g _ A1 k1 l1 w0 w1 ho hb H1.out (by have := HC.out; rw [costT_app]; omega))
  have hp0 := (blk_cell HP1.out) 1
  clear ho hb hk HP HK0
  go_wp2_with (fail)
  refine K.out.mono ?_
  rintro e w2 ⟨rfl, ho, hb, hk⟩
  clear hp0 K
  have HP2 := Aside0.mk (box_keep HP1.out hk HNE.out (by decide))
  have HK2 := Aside0.mk (HK1.out.trans hk)
  have K := Aside0.mk (W_num_T g _ (l2.length : Int) w0 w2 ho hb (by have := HC.out; rw [costT_app, costT_app]; omega))
  have hp0 := (blk_cell HP2.out) 2
  clear ho hb hk HP1 HK1
  go_wp2_with (fail)
  refine K.out.mono ?_
  rintro e w3 ⟨rfl, ho, hb, hk⟩
  clear hp0 K
  have HP3 := Aside0.mk (box_keep HP2.out hk HNE.out (by decide))
  have HK3 := Aside0.mk (HK2.out.trans hk)
  have HO3 := Aside0.mk ho
  have HB3 := Aside0.mk hb
  clear ho hb hk HP2 HK2
  obtain ⟨s0, hs0⟩ : ∃ s, ((ts ++ listT tNum l0) ++ listT tNum l1) ++ [.num (l2.length : Int)] = s := ⟨_, rfl⟩
  have HS0 : Aside0 (costT s0 + costT (l2.flatMap tStp) + 6 + costT (l3.flatMap tStp) ≤ 1000000000) := ⟨by have := HC.out; rw [← hs0, costT_app, costT_app, costT_app, costT_num, costT_nil]; omega⟩
  have hU := HUS.out
  rw [hs0] at hU HO3
  have HU := Aside0.mk hU
  clear hU hs0
  go_wp2
  go_loopg [4] l2.length (fun kq v4 w' => ∃ (i : Nat) (s : List Tok), v4 = .int .i64 (i : Int) ∧ Aside0 (i + kq = l2.length) ∧ Aside0 (costT s + costT ((l2.drop i).flatMap tStp) + 6 + costT (l3.flatMap tStp) ≤ 1000000000) ∧ Aside0 ((s ++ (l2.drop i).flatMap tStp) ++ listT tStp l3 = us) ∧ Aside0 (OT 27 w0 w' g s) ∧ Aside0 (Below w0.heap.size w0 w') ∧ Aside0 (Keeps w w' g) ∧ Aside0 (w'.heap[w.heap.size]? = some (.cells #[.slice A0 l0.length k0, .slice A1 l1.length k1, .slice A2 l2.length k2, .slice A3 l3.length k3] 49)))
  case atStart => exact ⟨0, s0, rfl, ⟨by omega⟩, ⟨by rw [List.drop_zero]; exact HS0.out⟩, ⟨by rw [List.drop_zero]; exact HU.out⟩, HO3, HB3, HK3, HP3⟩
  case round =>
    clear HO3 HB3 HK3 HP3 HS0 HU
    obtain ⟨i, s, rfl, HI, HN, HU, HO, HB, HK, HP⟩ := hrel
    have hp2 := (blk_cell HP.out) 2
    by_cases c1 : i < l2.length
    · have e1 : decide (i < l2.length) = true := decide_eq_true c1
      have e5 : wrap64 ((i : Int) + 1) = ((i + 1 : Nat) : Int) := by have := HL2.out; unfold wrap64; omega
      obtain ⟨ad, ea, y0, y1⟩ := at_stp H2.out i c1
      cases ea
      obtain ⟨ef, ec⟩ := len_step l2 i c1
      have hN := HN.out
      have hU := HU.out
      rw [ec] at hN
      rw [ef, ← List.append_assoc] at hU
      generalize l2.getD i (0, 0) = x at y0 y1 hU
      obtain ⟨a, b⟩ := x
      have Y1 := Aside0.mk y1
      have hx0 := pw_cell_below HB.out y0
      have HN1 := Aside0.mk hN
      have HU1 := Aside0.mk hU
      have K := Aside0.mk (W_num_T g s a w0 wr HO.out HB.out (by have := HN1.out; omega))
      clear hN hU ef ec y0 y1
      go_wp2_with (fail)
      refine K.out.mono ?_
      rintro e w4 ⟨rfl, ho, hb, hk⟩
      have HP4 := Aside0.mk (box_keep HP.out hk HNE.out (by decide))
      have HK4 := Aside0.mk (HK.out.trans hk)
      have hp4 := (blk_cell HP4.out) 2
      have hx1 := pw_cell_below hb Y1.out
      clear K hx0 hp2
      have K := Aside0.mk (W_num_T g _ b w0 w4 ho hb (by have := HN1.out; rw [costT_app, costT_num, costT_nil]; omega))
      clear ho hb hk
      go_wp2_with (fail)
      refine K.out.mono ?_
      rintro e w5 ⟨rfl, ho, hb, hk⟩
      have HP5 := Aside0.mk (box_keep HP4.out hk HNE.out (by decide))
      have HK5 := Aside0.mk (HK4.out.trans hk)
      have HO5 := Aside0.mk ho
      have HB5 := Aside0.mk hb
      clear K hx1 hp4 ho hb hk
      go_wp2
      go_roundg (gk - 1)
      case measure => have := HI.out; omega
      case rel => exact ⟨i + 1, s ++ [.num a] ++ [.num b], (by first | exact congrArg _ e5 | rfl), ⟨by have := HI.out; omega⟩, ⟨by have := HN1.out; rw [costT_app, costT_app, costT_num, costT_num, costT_nil]; omega⟩, ⟨by have := HU1.out; simpa [tStp] using this⟩, HO5, HB5, HK5, HP5⟩
    · have e1 : decide (i < l2.length) = false := decide_eq_false c1
      have hU := HU.out
      rw [List.drop_eq_nil_of_le (by omega), List.flatMap_nil, List.append_nil] at hU
      have HN2 : Aside0 (costT s + 6 + costT (l3.flatMap tStp) ≤ 1000000000) := ⟨by have := HN.out; omega⟩
      have HU2 := Aside0.mk hU
      have K := Aside0.mk (W_num_T g s (l3.length : Int) w0 wr HO.out HB.out (by have := HN2.out; omega))
      have hp3 := (blk_cell HP.out) 3
      clear hU
      go_wp2_with (fail)
      refine K.out.mono ?_
      rintro e w4 ⟨rfl, ho, hb, hk⟩
      have HP4 := Aside0.mk (box_keep HP.out hk HNE.out (by decide))
      have HK4 := Aside0.mk (HK.out.trans hk)
      have HO4 := Aside0.mk ho
      have HB4 := Aside0.mk hb
      clear K hp2 hp3 ho hb hk
      have HT : Aside0 (costT (s ++ [.num (l3.length : Int)]) + costT (l3.flatMap tStp) ≤ 1000000000) := ⟨by have := HN2.out; rw [costT_app, costT_num, costT_nil]; omega⟩
      have HV : Aside0 ((s ++ [.num (l3.length : Int)]) ++ l3.flatMap tStp = us) := ⟨by rw [← HU2.out, listT, List.append_assoc]; rfl⟩
      generalize s ++ [.num (l3.length : Int)] = s1 at HO4 HT HV
      clear HN2 HU2 HN HU HO HB HI HK HP e1
      obtain ⟨wo, hwo⟩ : ∃ wo : World, wo = wr := ⟨_, rfl⟩
      go_wp2
      go_loopg [5] l3.length (fun kq v5 w' => ∃ (i : Nat) (s : List Tok), v5 = .int .i64 (i : Int) ∧ Aside0 (i + kq = l3.length) ∧ Aside0 (costT s + costT ((l3.drop i).flatMap tStp) ≤ 1000000000) ∧ Aside0 (s ++ (l3.drop i).flatMap tStp = us) ∧ Aside0 (OT 27 w0 w' g s) ∧ Aside0 (Below w0.heap.size w0 w') ∧ Aside0 (Keeps w w' g) ∧ Aside0 (w'.heap[w.heap.size]? = some (.cells #[.slice A0 l0.length k0, .slice A1 l1.length k1, .slice A2 l2.length k2, .slice A3 l3.length k3] 49)))
      case atStart => exact ⟨0, s1, rfl, ⟨by omega⟩, ⟨by rw [List.drop_zero]; exact HT.out⟩, ⟨by rw [List.drop_zero]; exact HV.out⟩, HO4, HB4, HK4, HP4⟩
      case round =>
        clear HO4 HB4 HK4 HP4 HT HV
        obtain ⟨i, s, rfl, HI, HN, HU, HO, HB, HK, HP⟩ := hrel
        have hp2 := (blk_cell HP.out) 3
        by_cases c1 : i < l3.length
        · have e1 : decide (i < l3.length) = true := decide_eq_true c1
          have e5 : wrap64 ((i : Int) + 1) = ((i + 1 : Nat) : Int) := by have := HL3.out; unfold wrap64; omega
          obtain ⟨ad, ea, y0, y1⟩ := at_stp H3.out i c1
          cases ea
          obtain ⟨ef, ec⟩ := len_step l3 i c1
          have hN := HN.out
          have hU := HU.out
          rw [ec] at hN
          rw [ef, ← List.append_assoc] at hU
          generalize l3.getD i (0, 0) = x at y0 y1 hU
          obtain ⟨a, b⟩ := x
          have Y1 := Aside0.mk y1
          have hx0 := pw_cell_below HB.out y0
          have HN1 := Aside0.mk hN
          have HU1 := Aside0.mk hU
          have K := Aside0.mk (W_num_T g s a w0 wr HO.out HB.out (by have := HN1.out; omega))
          clear hN hU ef ec y0 y1
          go_wp2_with (fail)
          refine K.out.mono ?_
          rintro e w4 ⟨rfl, ho, hb, hk⟩
          have HP4 := Aside0.mk (box_keep HP.out hk HNE.out (by decide))
          have HK4 := Aside0.mk (HK.out.trans hk)
          have hp4 := (blk_cell HP4.out) 3
          have hx1 := pw_cell_below hb Y1.out
          clear K hx0 hp2
          have K := Aside0.mk (W_num_T g _ b w0 w4 ho hb (by have := HN1.out; rw [costT_app, costT_num, costT_nil]; omega))
          clear ho hb hk
          go_wp2_with (fail)
          refine K.out.mono ?_
          rintro e w5 ⟨rfl, ho, hb, hk⟩
          have HP5 := Aside0.mk (box_keep HP4.out hk HNE.out (by decide))
          have HK5 := Aside0.mk (HK4.out.trans hk)
          have HO5 := Aside0.mk ho
          have HB5 := Aside0.mk hb
          clear K hx1 hp4 ho hb hk
          go_wp2
          go_roundg (gk - 1)
          case measure => have := HI.out; omega
          case rel => exact ⟨i + 1, s ++ [.num a] ++ [.num b], (by first | exact congrArg _ e5 | rfl), ⟨by have := HI.out; omega⟩, ⟨by have := HN1.out; rw [costT_app, costT_app, costT_num, costT_num, costT_nil]; omega⟩, ⟨by have := HU1.out; simpa [tStp] using this⟩, HO5, HB5, HK5, HP5⟩
        · have e1 : decide (i < l3.length) = false := decide_eq_false c1
          have hU := HU.out
          rw [List.drop_eq_nil_of_le (by omega), List.flatMap_nil, List.append_nil] at hU
          subst hU
          go_wp2
          go_end0
          exact ⟨rfl, HO.out, HB.out, HK.out⟩
end Go.Proofs.Ythefbeekcjchcaa.P
