import Derived.Test.YthefbeekcjchcaaCodeP
import Derived.Test.YthefbeekcjchcaaRead
namespace Go.Proofs.Ythefbeekcjchcaa.P
open Go Go.RowKit Go.Proofs.YthefbeekcjchcaaW.PrintWords Go.Proofs.YthefbeekcjchcaaW.PrintLast Go.Proofs.YthefbeekcjchcaaW.PrintMore Go.Proofs.Ythefbeekcjchcaa.Pure
set_option linter.unusedVariables false
set_option linter.unusedSimpArgs false
theorem lit_C (W : World) (k : IntKind) (e : TypeId) (xs : List Int) (h : xs.length ≤ 9223372036854775807) : Kd.C (Kd.int k) (W.alloc (.cells (xs.map (Value.int k)).toArray e)) (some ⟨W.heap.size, 0, none⟩) xs.length xs := by
  have h2 := World.ownsRow_lit (base := 0) (e := e) (size := 1) W (xs.map (Value.int k)).toArray xs.length (Nat.zero_le _) (by simpa [maxLen] using h) (by simp)
  have hR : Kd.R (Kd.int k) e (W.alloc (.cells (xs.map (Value.int k)).toArray e)) 0 (fun _ => True) (.slice (some ⟨W.heap.size, 0, none⟩) xs.length xs.length) xs := Kd.R_of_own (h1 := fun _ => rfl) (by simpa [encs] using h2) (fun _ _ => trivial)
  exact (Kd.R_reads' hR).2.2
theorem anchor_coded : coded [1, 128] = [2, 1, 128, 1] ∧ codedE [1, 128] = 0 := by
  have h1 : enc 128 = [128, 1] := by rw [enc_big (by omega), show 128 / 128 = 1 by decide, enc_small (by omega)]; rfl
  have h : puts [1, 128] ([], false) = ([2, 1, 128, 1], false) := by
    unfold puts putf putn
    simp [fits, h1, enc_small (show 2 < 128 by omega), enc_small (show 1 < 128 by omega)]
  unfold coded codedE
  rw [h]
  exact ⟨rfl, rfl⟩
theorem anchor_read : readE [1, 128, 0] = 12 := by decide
set_option maxHeartbeats 4000000 in
set_option maxRecDepth 20000 in
theorem anchor_calls (w : World) : Calls Try.prog 11 #[] w fun e w' => e = .returned (.bool true) ∧ Below w.heap.size w w' := by
  have K := Aside0.mk (PutNumbers_calls (some ⟨w.heap.size, 0, none⟩) 2 [1, 128] _ (lit_C w .i64 3 [1, 128] (by simp)) (by simp))
  rw [anchor_coded.1, anchor_coded.2] at K
  have HB0 := Aside0.mk (below_alloc (Below.refl w.heap.size w) (Obj.cells #[.int .i64 1, .int .i64 128] 3))
  go_enter Try.func11, Try.ntmps11
  go_wp2_with (fail)
  refine K.out.mono ?_
  rintro e w1 ⟨v, rfl, hr, hb⟩
  obtain ⟨A1, c1, rfl, hc, hC⟩ := Kd.R_reads hr
  have HC := Aside0.mk hC
  have HCC := Aside0.mk hc
  have HB := Aside0.mk (below_step HB0.out hb)
  clear hr hb hC hc K HB0
  have K2 := Aside0.mk (GetNumbers_calls (some ⟨w1.heap.size, 0, none⟩) 3 [1, 128, 0] _ (lit_C w1 .u8 5 [1, 128, 0] (by simp)) (by simp) (by unfold Bytes; decide) (by simp))
  rw [anchor_read] at K2
  have HB1 := Aside0.mk (below_alloc HB.out (Obj.cells #[.int .u8 1, .int .u8 128, .int .u8 0] 5))
  have HB1' := Aside0.mk (below_alloc (Below.refl w1.heap.size w1) (Obj.cells #[.int .u8 1, .int .u8 128, .int .u8 0] 5))
  go_wp2_with (fail)
  refine K2.out.mono ?_
  rintro e w2 ⟨v, rfl, hr, hb⟩
  have HB2 := Aside0.mk (below_step HB1.out hb)
  have HC2 := Aside0.mk (Kd.C_below HC.out (below_step HB1'.out hb))
  clear hr hb K2 HB1 HB1'
  obtain ⟨ks, hs⟩ := same_self [2, 1, 128, 1] (by simp)
  have K3 := Aside0.mk (slipwayref11_Same.calls ks A1 c1 [2, 1, 128, 1] (some ⟨w2.heap.size, 0, none⟩) 4 [2, 1, 128, 1] true _ (Kd.C_alloc HC2.out _) HCC.out (lit_C w2 .u8 5 [2, 1, 128, 1] (by simp)) (by simp) hs)
  have HB3 := Aside0.mk (below_alloc HB2.out (Obj.cells #[.int .u8 2, .int .u8 1, .int .u8 128, .int .u8 1] 5))
  clear hs
  go_wp2_with (fail)
  refine K3.out.mono ?_
  rintro e w3 ⟨rfl, ⟨⟨n3, rfl⟩⟩⟩
  go_wp2
  go_ret
  exact ⟨rfl, pw_below_drewN HB3.out n3⟩
set_option maxHeartbeats 8000000 in
set_option maxRecDepth 20000 in
theorem CodeNumbers_calls (A : Option Addr) (c : Nat) (l : List Int) (w : World) (hr : Kd.C (Kd.int .i64) w A l.length l) (hc : l.length ≤ c) :
    Calls Try.prog 3 #[.slice A l.length c] w fun e w' => e = .returned (.bool true) ∧ Below w.heap.size w w' := by
  have HR := Aside0.mk hr
  have HC := Aside0.mk hc
  clear hr hc
  by_cases h3 : l.length > 300
  · have d : decide (300 < (l.length : Int)) = true := decide_eq_true (by omega)
    have d' : decide (300 < l.length) = true := decide_eq_true h3
    go_enter Try.func3, Try.ntmps3
    go_wp2_with (fail)
    refine (anchor_calls _).mono ?_
    rintro e w1 ⟨rfl, HB⟩
    replace HB := Aside0.mk HB
    go_wp2
    go_ret
    exact ⟨rfl, HB.out⟩
  · have d : decide (300 < (l.length : Int)) = false := decide_eq_false (by omega)
    have d' : decide (300 < l.length) = false := decide_eq_false h3
    have HLEN : Aside0 (l.length ≤ 300) := ⟨by omega⟩
    go_enter Try.func3, Try.ntmps3
    go_wp2_with (fail)
    refine (anchor_calls _).mono ?_
    rintro e w1 ⟨rfl, hb⟩
    have HB := Aside0.mk hb
    have HR1 := Aside0.mk (Kd.C_below HR.out hb)
    clear hb
    have hO : OW 27 w1 (w1.alloc (.cells #[.slice none 0 0, .bool false] 27)) w1.heap.size [] false := ⟨_, by show (w1.heap.push _)[w1.heap.size]? = _; simp, Nat.le_refl _, Kd.R_nil _ _ _ _ _⟩
    have K := Aside0.mk (W_Ints_calls w1.heap.size [] false A c l w1 _ hO (below_alloc (Below.refl _ _) _) HR1.out (by have := HLEN.out; simp; omega))
    clear hO
    go_wp2_with (fail)
    refine K.out.mono ?_
    rintro e w2 ⟨rfl, ho, hb, hk⟩
    have HO := Aside0.mk ho
    have HB1 := Aside0.mk hb
    have HB2 := Aside0.mk (below_step HB.out hb)
    have HR2 := Aside0.mk (Kd.C_below HR1.out hb)
    clear ho hb hk K
    have K := Aside0.mk (PutNumbers_calls A c l w2 HR2.out (by have := HLEN.out; omega))
    have hcE : codedE l = if (puts l ([], false)).2 = true then 12 else 0 := rfl
    have hcL : coded l = if (puts l ([], false)).2 = true then [] else (puts l ([], false)).1 := rfl
    have hrb := read_back l HLEN.out
    have hcb := coded_bytes l HLEN.out
    have hcl := coded_len l
    generalize hps : puts l ([], false) = ps at HO hcE hcL hrb
    obtain ⟨bs, bad⟩ := ps
    dsimp only at HO hcE hcL hrb
    cases bad
    · rw [if_neg (by decide)] at hcE hcL
      rw [hcE, hcL] at K
      rw [hcL] at hcb hcl
      obtain ⟨hr1, hr2⟩ := hrb rfl
      have HBS := Aside0.mk hcb
      have HBL : Aside0 (bs.length ≤ 1000000000) := ⟨by have := HLEN.out; omega⟩
      have HE := Aside0.mk hr1
      have HL := Aside0.mk hr2
      clear hcE hcL hrb hcb hcl hps hr1 hr2
      go_wp2_with (fail)
      refine K.out.mono ?_
      rintro e w3 ⟨v, rfl, hr, hb⟩
      obtain ⟨Ab, cb, rfl, hcc, hCb⟩ := Kd.R_reads hr
      have HCb := Aside0.mk hCb
      have HCc := Aside0.mk hcc
      have HB3 := Aside0.mk (below_step HB2.out hb)
      have HR3 := Aside0.mk (Kd.C_below HR2.out hb)
      have HO3 := Aside0.mk (HO.out.below hb)
      obtain ⟨v1, hg, hg0, hRv⟩ := HO3.out
      obtain ⟨Aw, cw, rfl, hcw, hCw⟩ := Kd.R_reads hRv
      have hc1 := (blk_cell hg) 1
      have HG := Aside0.mk hg
      have HCw := Aside0.mk hCw
      have HCWc := Aside0.mk hcw
      clear hr hb hcc hCb hg hg0 hRv hcw hCw K HO
      have K := Aside0.mk (GetNumbers_calls Ab cb bs w3 HCb.out HCc.out HBS.out HBL.out)
      rw [HE.out, HL.out] at K
      go_wp2_with (fail)
      refine K.out.mono ?_
      rintro e w4 ⟨v, rfl, hr, hb⟩
      obtain ⟨Am, cm, rfl, hcm, hCm⟩ := Kd.R_reads hr
      have HCm := Aside0.mk hCm
      have HCmc := Aside0.mk hcm
      have HB4 := Aside0.mk (below_step HB3.out hb)
      have HR4 := Aside0.mk (Kd.C_below HR3.out hb)
      have HCb4 := Aside0.mk (Kd.C_below HCb.out hb)
      have HCw4 := Aside0.mk (Kd.C_below HCw.out hb)
      have hc0 := (blk_cell ((hb.block _ (blk_lt HG.out)).trans HG.out)) 0
      clear hr hb hcm hCm K hc1
      obtain ⟨ks, hs⟩ := same_self bs HBL.out
      obtain ⟨ki, hi⟩ := ints_self l (by have := HLEN.out; omega)
      have K1 := Aside0.mk (slipwayref11_Same.calls ks Ab cb bs Aw cw bs true w4 HCb4.out HCc.out HCw4.out HCWc.out hs)
      clear hs
      go_wp2_with (fail)
      refine K1.out.mono ?_
      rintro e w5 ⟨rfl, ⟨⟨n5, rfl⟩⟩⟩
      have K2 := Aside0.mk (slipwaymade_Ints.calls ki A c l Am cm l true (w4.drewN n5) (Kd.C_drewN HR4.out n5) HC.out (Kd.C_drewN HCm.out n5) HCmc.out hi)
      clear hi
      go_wp2_with (fail)
      refine K2.out.mono ?_
      rintro e w6 ⟨rfl, ⟨⟨n6, rfl⟩⟩⟩
      go_wp2
      go_ret
      exact ⟨rfl, pw_below_drewN HB4.out (n5 + n6)⟩
    · rw [if_pos rfl] at hcE hcL
      rw [hcE, hcL] at K
      clear hcE hcL hrb hcb hcl hps
      go_wp2_with (fail)
      refine K.out.mono ?_
      rintro e w3 ⟨v, rfl, hr, hb⟩
      obtain ⟨Ab, cb, rfl, hcc, hCb⟩ := Kd.R_reads hr
      have HB3 := Aside0.mk (below_step HB2.out hb)
      have HO3 := Aside0.mk (HO.out.below hb)
      obtain ⟨v1, hg, hg0, hRv⟩ := HO3.out
      have hc1 := (blk_cell hg) 1
      clear hr hb hcc hCb hg hg0 hRv K
      go_wp2
      go_ret
      exact ⟨rfl, HB3.out⟩
def slipwaylaw12_CodeNumbers.f (_k : Nat) (_l : List Int) : Option Bool := some true
theorem slipwaylaw12_CodeNumbers.calls (k : Nat) (A0 : Option Addr) (c0 : Nat) (l0 : List Int) (r : Bool) (w : World) (hr0 : Kd.C (Kd.int .i64) w A0 l0.length l0) (hc0 : l0.length ≤ c0) (h : slipwaylaw12_CodeNumbers.f k l0 = some r) :
    Calls Try.prog 3 #[.slice A0 l0.length c0] w fun e w' => e = .returned (.bool r) ∧ Below w.heap.size w w' := by
  obtain rfl := Option.some.inj h
  exact CodeNumbers_calls A0 c0 l0 w hr0 hc0
end Go.Proofs.Ythefbeekcjchcaa.P
namespace Go.Proofs.Ythefbeekcjchcaa.Pure
open Go Go.Proofs.Ythefbeekcjchcaa.P Go.Proofs.Ythefbeekcjchcaa.Read
set_option linter.unusedVariables false
theorem CodeNumbers {good : Int → Prop} (l : List Int) (g : goodList good l) : ∃ k, slipwaylaw12_CodeNumbers.f k l = some true := ⟨0, rfl⟩
end Go.Proofs.Ythefbeekcjchcaa.Pure
