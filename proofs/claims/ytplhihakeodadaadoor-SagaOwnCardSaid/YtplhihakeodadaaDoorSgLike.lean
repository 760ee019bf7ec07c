/- saga: slipwaymade.Ints and LikePlan of equal things are true. (written by gen_like.py) -/
import Derived.Test.YtplhihakeodadaaDoorSgPlan
import Derived.BigQuiet
namespace Go.Proofs.YtplhihakeodadaaDoor.Sg
open Go Go.RowKit Go.Proofs.YtplhihakeodadaaDoorW.PrintWords Go.Proofs.YtplhihakeodadaaDoorW.PrintLast Go.Proofs.YtplhihakeodadaaDoorW.PrintMore
set_option linter.unusedVariables false
set_option linter.unusedSimpArgs false
theorem equal_arr (x y : Int) (W : World) : (Op.equal 74 (.agg #[.int .i64 x, .int .i64 y]) (.agg #[.int .i64 x, .int .i64 y])).run Tryd.prog W = .ok true W := by
  have hi := info_int
  obtain ⟨i0, hi0, hz⟩ := Option.map_eq_some_iff.1 hi
  simp only [Prod.mk.injEq] at hz
  have hs : i0.size = 1 := hz.2.1
  have h3 : ∀ (a b : Int) (w : World), (Op.equalIn 9999 3 (.int .i64 a) (.int .i64 b)).run Tryd.prog w = .ok (a == b) w := fun a b w => by
    show (Op.equalIn (9998 + 1) _ _ _).run _ _ = _
    unfold Op.equalIn
    simp [run_underlying Tryd.underlying3, go_sem]
  have hag : ∀ w : World, (isAgg 3).run Tryd.prog w = .ok false w := fun w => by
    simp [isAgg, run_underlying Tryd.underlying3, go_sem]
  unfold Op.equal
  show (Op.equalIn (9999 + 1) _ _ _).run _ _ = _
  unfold Op.equalIn
  simp [run_underlying Tryd.underlying74, sizeOf, typeInfo, go_sem, hi0, hs, List.range', hag, h3, part]
theorem equal_arr' (x y : Int) (W : World) : (Op.equalIn 10000 74 (.agg #[.int .i64 x, .int .i64 y]) (.agg #[.int .i64 x, .int .i64 y])).run Tryd.prog W = .ok true W := equal_arr x y W
theorem noGuard : Tryd.prog.eqGuardType Tryd.prog.depth 74 = false := by kernel_rfl
set_option maxHeartbeats 4000000 in
set_option maxRecDepth 20000 in
theorem Ints_T (l : List Int) (A B : Option Addr) (c d : Nat) (w : World) (h : Kd.C kI w A l.length l) (h2 : Kd.C kI w B l.length l) (hl : l.length ≤ 1000000000) :
    Calls Tryd.prog 25 #[.slice A l.length c, .slice B l.length d] w fun e w' => e = .returned (.bool true) ∧ w = w' := by
  have HA := Aside0.mk h
  have HB := Aside0.mk h2
  have HL := Aside0.mk hl
  clear h h2 hl
  go_enter Tryd.func25, Tryd.ntmps25
  go_wp2
  go_loopg [14] l.length (fun kq v14 w' => ∃ i : Nat, v14 = .int .i64 (i : Int) ∧ Aside0 (i + kq = l.length) ∧ w' = w)
  case atStart => exact ⟨0, rfl, ⟨by omega⟩, rfl⟩
  case round =>
    obtain ⟨i, rfl, HJ, rfl⟩ := hrel
    by_cases c1 : i < l.length
    · have e1 : decide (i < l.length) = true := decide_eq_true c1
      have HE5 : Aside0 (wrap64 ((i : Int) + 1) = ((i + 1 : Nat) : Int)) := ⟨by have := HL.out; unfold wrap64; omega⟩
      obtain ⟨a1, ea, hx⟩ := at_int HA.out i c1
      cases ea
      obtain ⟨a2, ea, hy⟩ := at_int HB.out i c1
      cases ea
      have HI := Aside0.mk c1
      obtain ⟨x, hxx⟩ : ∃ x, l.getD i 0 = x := ⟨_, rfl⟩
      rw [hxx] at hx hy
      clear hxx
      go_wp2
      go_roundg (gk - 1)
      case measure => have := HJ.out; have := HI.out; omega
      case rel => exact ⟨i + 1, (by first | exact congrArg _ HE5.out | rfl), ⟨by have := HJ.out; have := HI.out; omega⟩, rfl⟩
    · have e1 : decide (i < l.length) = false := decide_eq_false c1
      go_wp2
      go_ret
      exact ⟨rfl, rfl⟩
set_option maxHeartbeats 8000000 in
set_option maxRecDepth 20000 in
theorem LikePlan_T (V U : PV) (p : Pln) (w : World) (h : PlC w V p) (h2 : PlC w U p) (hp : okPlan p = true) :
    Calls Tryd.prog 26 #[.agg (plv V), .agg (plv U)] w fun e w' => e = .returned (.bool true) ∧ Below w.heap.size w w' := by
  obtain ⟨⟨Af, cf, hv1, l1, hA⟩, ⟨At, ct, hv2, l2, hB⟩, ⟨As, cs, hv3, l3, hC⟩, ⟨Ab, cb, hv4, l4, hD⟩⟩ := h
  obtain ⟨⟨Bf, df, hu1, m1, hE⟩, ⟨Bt, dt, hu2, m2, hF⟩, ⟨Bs, ds, hu3, m3, hG⟩, ⟨Bb, db, hu4, m4, hH⟩⟩ := h2
  obtain ⟨v1, v2, v3, v4⟩ := V
  obtain ⟨u1, u2, u3, u4⟩ := U
  dsimp only at hv1 hv2 hv3 hv4 hu1 hu2 hu3 hu4
  subst hv1 hv2 hv3 hv4 hu1 hu2 hu3 hu4
  have HL := Aside0.mk (okPlan_le hp)
  unfold plv
  dsimp only
  have hb0 := below_alloc (below_alloc (Below.refl w.heap.size w) (.cells #[.slice Af p.1.length cf, .slice At p.2.1.length ct, .slice As p.2.2.1.length cs, .slice Ab p.2.2.2.length cb] 26)) (.cells #[.slice Bf p.1.length df, .slice Bt p.2.1.length dt, .slice Bs p.2.2.1.length ds, .slice Bb p.2.2.2.length db] 30)
  have hx := blk_alloc (heap_last w (.cells #[.slice Af p.1.length cf, .slice At p.2.1.length ct, .slice As p.2.2.1.length cs, .slice Ab p.2.2.2.length cb] 26)) (.cells #[.slice Bf p.1.length df, .slice Bt p.2.1.length dt, .slice Bs p.2.2.1.length ds, .slice Bb p.2.2.2.length db] 30)
  have hy := heap_last (w.alloc (.cells #[.slice Af p.1.length cf, .slice At p.2.1.length ct, .slice As p.2.2.1.length cs, .slice Ab p.2.2.2.length cb] 26)) (.cells #[.slice Bf p.1.length df, .slice Bt p.2.1.length dt, .slice Bs p.2.2.1.length ds, .slice Bb p.2.2.2.length db] 30)
  rw [World.size_alloc] at hy
  obtain ⟨W0, hW0⟩ : ∃ W, (w.alloc (.cells #[.slice Af p.1.length cf, .slice At p.2.1.length ct, .slice As p.2.2.1.length cs, .slice Ab p.2.2.2.length cb] 26)).alloc (.cells #[.slice Bf p.1.length df, .slice Bt p.2.1.length dt, .slice Bs p.2.2.1.length ds, .slice Bb p.2.2.2.length db] 30) = W := ⟨_, rfl⟩
  rw [hW0] at hb0 hx hy
  have HX := Aside0.mk hx
  have HY := Aside0.mk hy
  have HB0 := Aside0.mk hb0
  have K1 := Aside0.mk (Ints_T p.1 Af Bf cf df W0 (Kd.C_below hA hb0) (Kd.C_below hE hb0) (by have := HL.out; omega))
  have K2 := Aside0.mk (Ints_T p.2.1 At Bt ct dt W0 (Kd.C_below hB hb0) (Kd.C_below hF hb0) (by have := HL.out; omega))
  have CA := Aside0.mk (Kd.C_below hC hb0)
  have CB := Aside0.mk (Kd.C_below hG hb0)
  have DA := Aside0.mk (Kd.C_below hD hb0)
  have DB := Aside0.mk (Kd.C_below hH hb0)
  have hx0 := (blk_cell hx) 0
  have hx1 := (blk_cell hx) 1
  have hx2 := (blk_cell hx) 2
  have hx3 := (blk_cell hx) 3
  have hy0 := (blk_cell hy) 0
  have hy1 := (blk_cell hy) 1
  have hy2 := (blk_cell hy) 2
  have hy3 := (blk_cell hy) 3
  clear hb0 hx hy hA hB hC hD hE hF hG hH
  go_enter Tryd.func26, Tryd.ntmps26
  go_upto_region 1 with (fail)
  clear hW0
  go_wp2_with (fail)
  refine K1.out.mono ?_
  rintro e w1 ⟨rfl, rfl⟩
  clear K1
  go_wp2_with (fail)
  refine K2.out.mono ?_
  rintro e w1 ⟨rfl, rfl⟩
  clear K2
  go_wp2_with (fail)
  clear hx0 hx1 hx2 hx3 hy0 hy1 hy2 hy3
  go_loopg [44] p.2.2.1.length (fun kq v44 w' => ∃ i : Nat, v44 = .int .i64 (i : Int) ∧ Aside0 (i + kq = p.2.2.1.length) ∧ Aside0 (Below W0.heap.size W0 w'))
  case atStart => exact ⟨0, rfl, ⟨by omega⟩, ⟨Below.refl _ _⟩⟩
  case round =>
    obtain ⟨i, rfl, HJ, HBI⟩ := hrel
    by_cases c1 : i < p.2.2.1.length
    · have e1 : decide (i < p.2.2.1.length) = true := decide_eq_true c1
      have HE5 : Aside0 (wrap64 ((i : Int) + 1) = ((i + 1 : Nat) : Int)) := ⟨by have := HL.out; unfold wrap64; omega⟩
      obtain ⟨a1, ea, hx, hx'⟩ := at_stp CA.out i c1
      cases ea
      obtain ⟨a2, ea, hy, hy'⟩ := at_stp CB.out i c1
      cases ea
      obtain ⟨x, hxx⟩ : ∃ x, p.2.2.1.getD i (0, 0) = x := ⟨_, rfl⟩
      rw [hxx] at hx hx' hy hy'
      obtain ⟨x, y⟩ := x
      dsimp only at hx hx' hy hy'
      have HI := Aside0.mk c1
      clear hxx
      replace hx := pw_cell_below HBI.out hx
      replace hx' := pw_cell_below HBI.out hx'
      have hb2 := below_alloc (Below.refl wr.heap.size wr) (.cells #[.int .i64 x, .int .i64 y] 50)
      have HBA := Aside0.mk (below_step HBI.out hb2)
      have hz := heap_last wr (.cells #[.int .i64 x, .int .i64 y] 50)
      replace hy := pw_cell_below HBA.out hy
      replace hy' := pw_cell_below HBA.out hy'
      have HYB := Aside0.mk (blk_below HY.out HBA.out)
      obtain ⟨W2, hW2⟩ : ∃ W, wr.alloc (.cells #[.int .i64 x, .int .i64 y] 50) = W := ⟨_, rfl⟩
      rw [hW2] at hy hy' hz HYB HBA
      have hz0 := (blk_cell hz) 0
      have hz1 := (blk_cell hz) 1
      have hyb := (blk_cell HYB.out) 2
      clear hz hb2
      go_upto_region 6 with (fail)
      clear hW2 hx hx'
      have heqa := equal_arr' x y
      have hgd := noGuard
      go_quiet (fail)
      clear heqa hgd
      go_wp2
      go_roundg (gk - 1)
      case measure => have := HJ.out; have := HI.out; omega
      case rel => exact ⟨i + 1, (by first | exact congrArg _ HE5.out | rfl), ⟨by have := HJ.out; have := HI.out; omega⟩, ⟨pw_below_drewN HBA.out _⟩⟩
    · have e1 : decide (i < p.2.2.1.length) = false := decide_eq_false c1
      clear c1
      have hx3 := (blk_cell (blk_below HX.out HBI.out)) 3
      go_wp2_with (fail)
      clear hx3 e1
      obtain ⟨wo, rfl⟩ : ∃ W, W = wr := ⟨_, rfl⟩
      go_loopg [60] p.2.2.2.length (fun kq v60 w' => ∃ i : Nat, v60 = .int .i64 (i : Int) ∧ Aside0 (i + kq = p.2.2.2.length) ∧ Aside0 (Below W0.heap.size W0 w'))
      case atStart => exact ⟨0, rfl, ⟨by omega⟩, HBI⟩
      case round =>
        obtain ⟨i, rfl, HJ, HBI⟩ := hrel
        by_cases c1 : i < p.2.2.2.length
        · have e1 : decide (i < p.2.2.2.length) = true := decide_eq_true c1
          have HE5 : Aside0 (wrap64 ((i : Int) + 1) = ((i + 1 : Nat) : Int)) := ⟨by have := HL.out; unfold wrap64; omega⟩
          obtain ⟨a1, ea, hx, hx'⟩ := at_stp DA.out i c1
          cases ea
          obtain ⟨a2, ea, hy, hy'⟩ := at_stp DB.out i c1
          cases ea
          obtain ⟨x, hxx⟩ : ∃ x, p.2.2.2.getD i (0, 0) = x := ⟨_, rfl⟩
          rw [hxx] at hx hx' hy hy'
          obtain ⟨x, y⟩ := x
          dsimp only at hx hx' hy hy'
          have HI := Aside0.mk c1
          clear hxx
          replace hx := pw_cell_below HBI.out hx
          replace hx' := pw_cell_below HBI.out hx'
          have hb2 := below_alloc (Below.refl wr.heap.size wr) (.cells #[.int .i64 x, .int .i64 y] 74)
          have HBA := Aside0.mk (below_step HBI.out hb2)
          have hz := heap_last wr (.cells #[.int .i64 x, .int .i64 y] 74)
          replace hy := pw_cell_below HBA.out hy
          replace hy' := pw_cell_below HBA.out hy'
          have HYB := Aside0.mk (blk_below HY.out HBA.out)
          obtain ⟨W2, hW2⟩ : ∃ W, wr.alloc (.cells #[.int .i64 x, .int .i64 y] 74) = W := ⟨_, rfl⟩
          rw [hW2] at hy hy' hz HYB HBA
          have hz0 := (blk_cell hz) 0
          have hz1 := (blk_cell hz) 1
          have hyb := (blk_cell HYB.out) 3
          clear hz hb2
          go_upto_region 12 with (fail)
          clear hW2 hx hx'
          have heqa := equal_arr' x y
          have hgd := noGuard
          go_quiet (fail)
          clear heqa hgd
          go_wp2
          go_roundg (gk - 1)
          case measure => have := HJ.out; have := HI.out; omega
          case rel => exact ⟨i + 1, (by first | exact congrArg _ HE5.out | rfl), ⟨by have := HJ.out; have := HI.out; omega⟩, ⟨pw_below_drewN HBA.out _⟩⟩
        · have e1 : decide (i < p.2.2.2.length) = false := decide_eq_false c1
          clear c1
          go_wp2
          go_ret
          exact ⟨rfl, below_step HB0.out HBI.out⟩
end Go.Proofs.YtplhihakeodadaaDoor.Sg
