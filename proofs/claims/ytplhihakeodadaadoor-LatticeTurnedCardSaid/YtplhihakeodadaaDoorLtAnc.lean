/- lattice: the document's example (slipwaylaw09.anchor), walked. -/
import Derived.Test.YtplhihakeodadaaDoorLtWys
import Derived.Test.YtplhihakeodadaaDoorLtRef
namespace Go.Proofs.YtplhihakeodadaaDoor.Sg
open Go Go.RowKit Go.MapKept Go.Proofs Go.Proofs.YtplhihakeodadaaDoor.IMap Go.Proofs.YtplhihakeodadaaDoorW.PrintWords Go.Proofs.YtplhihakeodadaaDoorW.PrintLast Go.Proofs.YtplhihakeodadaaDoorW.PrintMore
set_option linter.unusedVariables false
set_option linter.unusedSimpArgs false
def eA : List Stp := [(0, 1), (0, 2)]
theorem right_A : rightG (3 : Nat) eA = true := by decide +kernel
theorem order_A : orderErr (3 : Nat) eA = 0 := by decide +kernel
theorem okc_A : okCount eA 3 = true := by decide +kernel
theorem cnt_A : countM eA 3 = [(0, 1), (1, 1), (3, 1), (5, 1), (7, 2)] := by decide +kernel
theorem all_A : (keys (countM eA 3)).mergeSort (fun x y => decide (x ≤ y)) = [0, 1, 3, 5, 7] := by
  rw [cnt_A]
  exact List.mergeSort_of_pairwise (by decide)
theorem way_A : wayOf (countM eA 3) ((2 ^ 3 - 1 : Nat) : Int) = 2 := by rw [cnt_A]; decide +kernel
theorem inside_A : insideE (3 : Nat) eA 4 = 0 := by decide +kernel
theorem least_A {d : Nat} (h : Least Prod.snd Prod.fst eA 4 d) : d = 5 := by
  have h5 : Cl Prod.snd Prod.fst eA 5 := by
    intro e he
    simp only [eA, List.mem_cons, List.not_mem_nil, or_false] at he
    rcases he with rfl | rfl <;> decide
  have hs : Sub 4 5 := fun i hi => by
    rw [show (4 : Nat) = 2 ^ 2 from rfl, Nat.testBit_two_pow, decide_eq_true_eq] at hi
    subst hi
    decide
  have h1 := h.least 5 h5 hs
  have b2 : d.testBit 2 = true := h.sub 2 (by decide)
  have b0 : d.testBit 0 = true := h.cl (0, 2) (by simp [eA]) b2
  refine Nat.eq_of_testBit_eq fun i => ?_
  cases hd : d.testBit i with
  | true => exact (h1 i hd).symm
  | false =>
    cases h5 : Nat.testBit 5 i with
    | false => rfl
    | true =>
      exfalso
      have hi : i < 3 := by
        rcases Nat.lt_or_ge i 3 with c | c
        · exact c
        · rw [Nat.testBit_lt_two_pow (Nat.lt_of_lt_of_le (by decide : 5 < 2 ^ 3) (Nat.pow_le_pow_right (by decide) c))] at h5
          cases h5
      have : i = 0 ∨ i = 1 ∨ i = 2 := by omega
      rcases this with rfl | rfl | rfl
      · rw [b0] at hd; cases hd
      · cases h5
      · rw [b2] at hd; cases hd
theorem edges_A {w : World} {b t : Nat} (h : w.heap[b]? = some (.cells #[.int .i64 0, .int .i64 1, .int .i64 0, .int .i64 2] t (0, 0))) : Kd.C kP w (some ⟨b, 0, none⟩) 2 eA := by
  refine ⟨rfl, by decide, fun _ => ⟨_, rfl, fun j p hj => ?_⟩⟩
  match j with
  | 0 =>
    cases hj
    exact ⟨[.int .i64 0, .int .i64 1], rfl, ⟨[.int .i64 0], [.int .i64 1], rfl, rfl, rfl⟩, fun i u hi => by
      match i with
      | 0 => cases hi; exact (blk_cell h) 0
      | 1 => cases hi; exact (blk_cell h) 1
      | i + 2 => simp at hi⟩
  | 1 =>
    cases hj
    exact ⟨[.int .i64 0, .int .i64 2], rfl, ⟨[.int .i64 0], [.int .i64 2], rfl, rfl, rfl⟩, fun i u hi => by
      match i with
      | 0 => cases hi; exact (blk_cell h) 2
      | 1 => cases hi; exact (blk_cell h) 3
      | i + 2 => simp at hi⟩
  | j + 2 => simp [eA] at hj
set_option maxHeartbeats 16000000 in
set_option maxRecDepth 20000 in
theorem Anchor_T (w : World) (hT : TabW w) : Calls Tryd.prog 30 #[] w fun e w' => e = .returned (.bool true) ∧ Below w.heap.size w w' := by
  have hb1 := below_alloc (Below.refl w.heap.size w) (.cells #[.int .i64 0, .int .i64 1, .int .i64 0, .int .i64 2] 74)
  have hb2 := below_alloc hb1 (.cells #[.int .i64 3, .slice (some ⟨w.heap.size, 0, none⟩) 2 2] 62)
  have hE := edges_A (blk_alloc (heap_last w (.cells #[.int .i64 0, .int .i64 1, .int .i64 0, .int .i64 2] 74)) (.cells #[.int .i64 3, .slice (some ⟨w.heap.size, 0, none⟩) 2 2] 62))
  have hx := heap_last (w.alloc (.cells #[.int .i64 0, .int .i64 1, .int .i64 0, .int .i64 2] 74)) (.cells #[.int .i64 3, .slice (some ⟨w.heap.size, 0, none⟩) 2 2] 62)
  rw [World.size_alloc] at hx
  have HB := Aside0.mk hb2
  have HX := Aside0.mk hx
  have HE := Aside0.mk hE
  have HT := Aside0.mk hT
  clear hb1 hb2 hE hx hT
  go_enter Tryd.func30, Tryd.ntmps30
  obtain ⟨wa, hwa⟩ : ∃ W, (w.alloc (.cells #[.int .i64 0, .int .i64 1, .int .i64 0, .int .i64 2] 74)).alloc (.cells #[.int .i64 3, .slice (some ⟨w.heap.size, 0, none⟩) 2 2] 62) = W := ⟨_, rfl⟩
  have hB := HB.out
  have hX := HX.out
  have hE := HE.out
  rw [hwa] at hB hX hE
  clear HB HX HE
  have HB := Aside0.mk hB
  have HX := Aside0.mk hX
  have HE := Aside0.mk hE
  have h0 := (blk_cell hX) 0
  have h1 := (blk_cell hX) 1
  have K := Aside0.mk (All_T 3 eA (some ⟨w.heap.size, 0, none⟩) 2 wa (HT.out.below hB) hE right_A order_A okc_A (by rw [cnt_A]; decide) (by rw [cnt_A]; decide) (SortOK_small (by rw [cnt_A]; decide)))
  rw [all_A, show (countM eA 3).length = 5 by rw [cnt_A]; rfl] at K
  have HWA := Aside0.mk hwa
  clear hB hX hE hwa
  go_wp2_with (fail)
  rw [HWA.out]
  refine K.out.mono ?_
  rintro e w1 ⟨A1, c1, rfl, hC, hb⟩
  have HC1 := Aside0.mk hC
  have HB1 := Aside0.mk (below_step HB.out hb)
  have HX1 := Aside0.mk (blk_below HX.out hb)
  have HE1 := Aside0.mk (Kd.C_below HE.out hb)
  have g0 := (blk_cell HX1.out) 0
  have g1 := (blk_cell HX1.out) 1
  have K2 := Aside0.mk (Ways_T 3 eA (some ⟨w.heap.size, 0, none⟩) 2 w1 (HT.out.below HB1.out) HE1.out right_A order_A okc_A (by decide) (by rw [way_A]; decide))
  rw [way_A] at K2
  clear K hC hb h0 h1 HB HX HE
  go_wp2_with (fail)
  refine K2.out.mono ?_
  rintro e w2 ⟨rfl, hb⟩
  have HC2 := Aside0.mk (Kd.C_below HC1.out hb)
  have HB2 := Aside0.mk (below_step HB1.out hb)
  have HX2 := Aside0.mk (blk_below HX1.out hb)
  have HE2 := Aside0.mk (Kd.C_below HE1.out hb)
  have h0 := (blk_cell HX2.out) 0
  have h1 := (blk_cell HX2.out) 1
  have K3 := Aside0.mk (Down_T (3 : Nat) eA (some ⟨w.heap.size, 0, none⟩) 2 4 w2 (by decide) HE2.out (by decide) (by decide) (by decide))
  rw [inside_A] at K3
  clear K2 hb g0 g1 HB1 HX1 HE1 HC1
  go_wp2_with (fail)
  refine K3.out.mono ?_
  rintro e w3 ⟨d, rfl, hd, _, hb⟩
  obtain rfl := least_A (hd (by trivial))
  have hC3 := Kd.C_below HC2.out hb
  have HB3 := Aside0.mk (below_step HB2.out hb)
  obtain ⟨ad, ea, hx⟩ := at_u64 hC3 2 (by decide)
  cases ea
  have hx' : w3.cell? (ad.add 2) = some (.int .u64 3) := hx
  simp [Addr.add] at hx'
  clear K3 hd hb hC3 hx h0 h1 HB2 HX2 HE2 HC2
  go_wp2
  go_ret
  exact ⟨by simp, HB3.out⟩
end Go.Proofs.YtplhihakeodadaaDoor.Sg
