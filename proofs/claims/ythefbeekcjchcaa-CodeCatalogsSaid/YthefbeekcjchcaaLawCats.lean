/- The law CodeCatalogs, walked. -/
import Derived.Test.YthefbeekcjchcaaLawCuts
import Derived.Test.YthefbeekcjchcaaAlikes
namespace Go.Proofs.Ythefbeekcjchcaa.P
open Go Go.RowKit Go.Proofs.YthefbeekcjchcaaW.PrintWords Go.Proofs.YthefbeekcjchcaaW.PrintLast Go.Proofs.YthefbeekcjchcaaW.PrintMore Go.Proofs.Ythefbeekcjchcaa.Pure
set_option linter.unusedVariables false
set_option linter.unusedSimpArgs false
set_option maxHeartbeats 8000000 in
set_option maxRecDepth 20000 in
theorem CodeCatalogs_main (x : List Svc) (A : Option Addr) (c : Nat) (w : World) (h0 : Kd.C kSvc w A x.length x) :
    Calls Try.prog 8 #[.agg #[.slice A x.length c]] w fun e w' => e = .returned (.bool true) ∧ Below w.heap.size w w' := by
  have HC := Aside0.mk h0
  obtain ⟨R, hR⟩ : ∃ r, okCat x = r := ⟨_, rfl⟩
  have HR := Aside0.mk hR
  have hbx := below_alloc (Below.refl w.heap.size w) (Obj.cells #[.slice A x.length c] 61)
  have HBX := Aside0.mk hbx
  have HBOX := Aside0.mk (heap_last w (Obj.cells #[.slice A x.length c] 61))
  clear h0 hR hbx
  go_enter Try.func8, Try.ntmps8
  go_wp2_with (fail)
  refine (anchor_calls _).mono ?_
  rintro e w1 ⟨rfl, hb⟩
  have HB := Aside0.mk (below_step HBX.out hb)
  have HP := Aside0.mk ((hb.block _ (blk_lt HBOX.out)).trans HBOX.out)
  have hp0 := (blk_cell HP.out) 0
  have K := Aside0.mk (Catalog_T x A c w1 (Kd.C_below HC.out HB.out))
  rw [HR.out] at K
  clear hb HBX HBOX
  go_wp2_with (fail)
  refine K.out.mono ?_
  rintro e w2 ⟨Au, nu, cu, rfl, hok, hb⟩
  have hb3 := below_alloc (Below.refl w2.heap.size w2) (Obj.cells #[.slice Au nu cu] 64)
  have HB3 := Aside0.mk (below_step (below_step HB.out hb) hb3)
  have HP3 := Aside0.mk ((hb3.block _ (by have := hb.size; have := blk_lt HP.out; omega)).trans ((hb.block _ (blk_lt HP.out)).trans HP.out))
  cases R with
  | false =>
    clear hok hb hb3 K hp0
    go_wp2
    go_ret
    exact ⟨rfl, HB3.out⟩
  | true =>
    have hr := hok rfl
    obtain ⟨Au', cu', hv⟩ := Kd.R_slice hr
    cases hv
    obtain ⟨_, hcu, hCu⟩ := Kd.R_reads' hr
    have HX := Aside0.mk (heap_last w2 (Obj.cells #[.slice Au x.length cu] 64))
    obtain ⟨W3, hW3⟩ : ∃ W, w2.alloc (Obj.cells #[.slice Au x.length cu] 64) = W := ⟨_, rfl⟩
    have hS3 : W3.heap.size = w2.heap.size + 1 := by rw [← hW3, World.size_alloc]
    rw [hW3] at hb3 HB3 HP3 HX
    have HCU := Aside0.mk (Kd.C_below hCu hb3)
    have hOT := OT.new 27 W3
    rw [hS3] at hOT
    have hbW := below_alloc (Below.refl W3.heap.size W3) (Obj.cells #[.slice none 0 0, .bool false] 27)
    have HCO := Aside0.mk (cost_cat_le x HR.out)
    clear K
    have KW := Aside0.mk (W_Catalog_T (w2.heap.size + 1) [] x Au cu W3 _ hOT hbW HCU.out (by rw [costT_nil]; have := HCO.out; omega))
    rw [List.nil_append] at KW
    have hx0 := (blk_cell ((hbW.block _ (blk_lt HX.out)).trans HX.out)) 0
    subst hW3
    clear hok hb hb3 hr hCu hcu hOT hbW hS3 hp0
    go_wp2_with (fail)
    refine KW.out.mono ?_
    rintro e w4 ⟨rfl, ho, hb, hk⟩
    have HOT4 := Aside0.mk ho
    have HB4 := Aside0.mk (below_step HB3.out hb)
    have HP4 := Aside0.mk ((hb.block _ (blk_lt HP3.out)).trans HP3.out)
    have HX4 := Aside0.mk ((hb.block _ (blk_lt HX.out)).trans HX.out)
    have HCU4 := Aside0.mk (Kd.C_below HCU.out hb)
    have hp0 := (blk_cell HP4.out) 0
    obtain ⟨ok, hok⟩ : ∃ b, okT (tCat x) = b := ⟨_, rfl⟩
    have HOK := Aside0.mk hok
    have K := Aside0.mk (PutCatalog_T x A c w4 (Kd.C_below HC.out HB4.out) (by have := HCO.out; omega))
    rw [endE, endL, hok] at K
    clear hok ho hb hk KW hx0
    obtain ⟨E, hE⟩ : ∃ E : Int, (if ok = true then 0 else 12) = E := ⟨_, rfl⟩
    obtain ⟨L, hL⟩ : ∃ L : List Int, (if ok = true then outT (tCat x) else []) = L := ⟨_, rfl⟩
    rw [hE, hL] at K
    have HE := Aside0.mk hE
    have HLL := Aside0.mk hL
    clear hE hL
    go_wp2_with (fail)
    refine K.out.mono ?_
    rintro e w5 ⟨v, rfl, hr, hb⟩
    obtain ⟨Ab, cb, rfl, hcb, hCb⟩ := Kd.R_reads hr
    have HCB := Aside0.mk hCb
    have HCBc := Aside0.mk hcb
    have HB5 := Aside0.mk (below_step HB4.out hb)
    have HX5 := Aside0.mk ((hb.block _ (blk_lt HX4.out)).trans HX4.out)
    have HCU5 := Aside0.mk (Kd.C_below HCU4.out hb)
    have HOT5 := Aside0.mk (HOT4.out.below hb)
    clear hr hb hcb hCb hp0 K
    obtain ⟨bs, bad, ⟨vB, hgB, hgB0, hRB⟩, hsay⟩ := HOT5.out
    have hB1 := (blk_cell hgB) 1
    have HGB := Aside0.mk hgB
    have HRB := Aside0.mk hRB
    have HSAY := Aside0.mk hsay
    clear hgB hgB0 hRB hsay
    cases ok with
    | false =>
      have hbad : bad = true := by have := HSAY.out.1; rw [HOK.out] at this; exact this
      have hE : E = 12 := HE.out.symm
      have hL : L = [] := HLL.out.symm
      subst hbad
      subst hE
      subst hL
      go_wp2
      go_ret
      exact ⟨rfl, HB5.out⟩
    | true =>
      have hbad : bad = false := by have := HSAY.out.1; rw [HOK.out] at this; exact this
      have hE : E = 0 := HE.out.symm
      have hL : L = outT (tCat x) := HLL.out.symm
      have hbs : bs = outT (tCat x) := HSAY.out.2.1 HOK.out
      rw [← hL] at hbs
      subst hbad
      subst hE
      subst hbs
      obtain ⟨hbk1, hbk2⟩ := fin_back fit_cat x HOK.out
      have hbyt := bo_cat x
      have hlen := outT_cost (tCat x)
      rw [← hL] at hbk1 hbk2 hbyt hlen
      have HBY := Aside0.mk hbyt
      have HLN : Aside0 (bs.length ≤ 60000000) := ⟨by have := HCO.out; omega⟩
      have HF1 := Aside0.mk hbk1
      have HF2 := Aside0.mk hbk2
      clear hL hbk1 hbk2 hbyt hlen HE HLL
      go_wp2_with (fail)
      refine (GetCatalog_T Ab cb bs w5 HCB.out HCBc.out HBY.out (by have := HLN.out; omega)).mono ?_
      rintro e w6 ⟨y, u0, rfl, r0, hy, _, hb⟩
      have hy' := hy HF2.out
      rw [HF1.out] at hy'
      simp only [Except.ok.injEq, Prod.mk.injEq, and_true] at hy'
      subst hy'
      rw [HF2.out]
      obtain ⟨B0, e0, rfl, _, g0⟩ := Kd.R_reads r0
      have hb7 := below_alloc (Below.refl w6.heap.size w6) (Obj.cells #[.slice B0 x.length e0] 61)
      have hb57 := below_step hb hb7
      have HB7 := Aside0.mk (below_step HB5.out hb57)
      have HX7 := Aside0.mk ((hb57.block _ (blk_lt HX5.out)).trans HX5.out)
      have HCU7 := Aside0.mk (Kd.C_below HCU5.out hb57)
      have HCB7 := Aside0.mk (Kd.C_below HCB.out hb57)
      have HGB7 := Aside0.mk ((hb57.block _ (blk_lt HGB.out)).trans HGB.out)
      have HRB7 := Aside0.mk (Kd.R_below HRB.out hb57)
      have K := Aside0.mk (Catalog_T x B0 e0 _ (Kd.C_below g0 hb7))
      rw [HR.out] at K
      clear hb hb7 hb57 r0 g0 hy hB1
      go_wp2_with (fail)
      refine K.out.mono ?_
      rintro e w8 ⟨Av, nv, cv, rfl, hok, hb⟩
      have hr := hok trivial
      obtain ⟨Av', cv', hv⟩ := Kd.R_slice hr
      cases hv
      obtain ⟨_, _, hCv⟩ := Kd.R_reads' hr
      have hb9 := below_alloc (Below.refl w8.heap.size w8) (Obj.cells #[.slice Av x.length cv] 64)
      have hb79 := below_step hb hb9
      have HB9 := Aside0.mk (below_step HB7.out hb79)
      have HX9 := Aside0.mk ((hb79.block _ (blk_lt HX7.out)).trans HX7.out)
      have HY9 := Aside0.mk (heap_last w8 (Obj.cells #[.slice Av x.length cv] 64))
      have HCU9 := Aside0.mk (Kd.C_below HCU7.out hb79)
      have HCV9 := Aside0.mk (Kd.C_below hCv hb9)
      have HCB9 := Aside0.mk (Kd.C_below HCB7.out hb79)
      have HGB9 := Aside0.mk ((hb79.block _ (blk_lt HGB7.out)).trans HGB7.out)
      obtain ⟨AB, cB, hvB, hcB, hCW⟩ := Kd.R_reads (Kd.R_below HRB7.out hb79)
      subst hvB
      have HCW := Aside0.mk hCW
      have HCWc := Aside0.mk hcB
      have hB0 := (blk_cell HGB9.out) 0
      have hx0 := (blk_cell HX9.out) 0
      have hy0 := (blk_cell HY9.out) 0
      clear hok hb hr hCv hb9 hb79 hcB hCW K HX7 HX5 HX4 HGB7 HGB HRB7 HRB
      obtain ⟨ks, hs⟩ := same_self bs (by have := HLN.out; omega)
      have HSM := Aside0.mk hs
      clear hs
      go_wp2_with (fail)
      refine (slipwayref11_Same.calls ks Ab cb bs AB cB bs true _ HCB9.out HCBc.out HCW.out HCWc.out HSM.out).mono ?_
      rintro e w10 ⟨rfl, ⟨⟨n10, rfl⟩⟩⟩
      have K := Aside0.mk (Alike_same x Av Au cv cu _ (Kd.C_drewN HCV9.out n10) (Kd.C_drewN HCU9.out n10) HR.out)
      go_wp2_with (fail)
      refine K.out.mono ?_
      rintro e w11 ⟨rfl, hb⟩
      have HB11 := Aside0.mk (below_step (pw_below_drewN HB9.out n10) hb)
      clear hb K
      go_wp2
      go_ret
      exact ⟨rfl, HB11.out⟩
def slipwaylaw12_CodeCatalogs.f (_k : Nat) (_x : List Svc) : Option Bool := some true
theorem slipwaylaw12_CodeCatalogs.calls (k : Nat) (cs : Array Value) (x : List Svc) (r : Bool) (w : World) (hK : kCatA.K w x cs.toList) (h : slipwaylaw12_CodeCatalogs.f k x = some r) :
    Calls Try.prog 8 #[.agg cs] w fun e w' => e = .returned (.bool r) ∧ Below w.heap.size w w' := by
  obtain rfl := Option.some.inj h
  obtain ⟨A0, k0, hz, _, h0⟩ := hK
  obtain rfl : cs = #[.slice A0 x.length k0] := by
    apply Array.ext'
    exact hz
  exact CodeCatalogs_main x A0 k0 w h0
end Go.Proofs.Ythefbeekcjchcaa.P
namespace Go.Proofs.Ythefbeekcjchcaa.Pure
open Go Go.Proofs.Ythefbeekcjchcaa.P Go.Proofs.Ythefbeekcjchcaa.Read
set_option linter.unusedVariables false
theorem CodeCatalogs (x : List Svc) {G : Prop} (gp : G) : ∃ k, slipwaylaw12_CodeCatalogs.f k x = some true := ⟨0, rfl⟩
end Go.Proofs.Ythefbeekcjchcaa.Pure
