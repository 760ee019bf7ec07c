import Derived.Test.YthefbeekcjchcaaGetVer
import Derived.Test.YthefbeekcjchcaaPutAllC
namespace Go.Proofs.Ythefbeekcjchcaa.P
open Go Go.RowKit Go.Proofs.YthefbeekcjchcaaW.PrintWords Go.Proofs.YthefbeekcjchcaaW.PrintLast Go.Proofs.YthefbeekcjchcaaW.PrintMore
set_option linter.unusedVariables false
set_option linter.unusedSimpArgs false
def VNd (base g : Nat) (v : Value) (x : Nd) (w : World) : Prop := ∃ A c, v = .agg #[.int .i64 x.1, .slice A x.2.length c] ∧ kCmps.R 174 w base (fun k => k ≠ g) (.slice A x.2.length c) x.2
/-- A variable that holds a literal. -/
def BXF (w : World) (fb : Nat) (F : Value) (T : TypeId) (g : Nat) : Prop := w.heap[fb]? = some (.cells #[F] T (0, 0)) ∧ fb ≠ g
theorem BXF.below {w w1 : World} {fb g : Nat} {F : Value} {T : TypeId} (h : BXF w fb F T g) (hb : Below w.heap.size w w1) : BXF w1 fb F T g := ⟨(hb.block fb (blk_lt h.1)).trans h.1, h.2⟩
theorem BXF.only {w w1 : World} {fb g : Nat} {F : Value} {T : TypeId} (h : BXF w fb F T g) (hk : Only w w1 g) : BXF w1 fb F T g := ⟨(hk.2 fb (blk_lt h.1) h.2).trans h.1, h.2⟩
set_option maxHeartbeats 8000000 in
set_option maxRecDepth 20000 in
theorem need2_T (g gb : Nat) (st : St) (w0 w : World) (hI : IP w0 w g st) (hX : BXI w gb g) (hB : Below w0.heap.size w0 w) :
    Calls Try.prog 75 #[.pointer (some ⟨gb, 0, none⟩)] w (Told rNd (VNd w.heap.size g) w0 w g st) := by
  obtain ⟨B, hB0⟩ : ∃ o, o = Obj.cells #[.int .i64 0, .slice none 0 0] 130 := ⟨_, rfl⟩
  have hbx := below_drew (below_alloc (Below.refl w.heap.size w) B)
  have hx := (blk_cell (hX.below hbx).1) 0
  have HX := Aside0.mk (hX.below hbx)
  have hq : (w.alloc B).drew.heap[w.heap.size]? = some B := heap_last w B
  have HLE := Aside0.mk hB.size
  have HGB : Aside0 (gb ≠ w.heap.size) := ⟨by have := blk_lt hX.1; omega⟩
  have HGN : Aside0 (g ≠ w.heap.size) := ⟨by have := hI.lt; omega⟩
  have HK0 := Aside0.mk (Only.below g hbx)
  have K := Aside0.mk (in_num_T g st w0 (w.alloc B).drew (hI.below hbx) (below_drew (below_alloc hB B)))
  subst hB0
  have HQ := Aside0.mk hq
  clear hI hB hX hbx hq
  go_enter Try.func75, Try.ntmps75
  go_wp2
  go_region_held3 (fun w' => w'.cell? ⟨gb, 0, none⟩ = some (.pointer (some ⟨g, 0, none⟩))) (first | go_keep | exact BXI.set2 HX2.out HGB.out _ _)
    (first
      | (go_at_call 49; refine K.out.mono ?_; rintro e w1 ⟨v, x, st1, rfl, hv, hs, hi, hb, hk⟩; have hv' : v = .int .i64 x := hv; subst hv'; have HX1 := Aside0.mk (HX.out.only hk); have HQ1 := Aside0.mk ((hk.2 _ (blk_lt HQ.out) HGN.out.symm).trans HQ.out); have HK1 := Aside0.mk (HK0.out.trans hk); have HS1 := Aside0.mk hs; have K1 := Aside0.mk (in_ranged_T g st1 w0 w1 hi hb); have hx1 := (blk_cell HX1.out.1) 0; clear K hx HX HQ hv hs hi hb hk)
      | (go_at_call 69; refine K1.out.mono ?_; rintro e w2 ⟨v, y, st2, rfl, ⟨A, c, rfl, hr⟩, hs, hi, hb, hk⟩; have HX2 := Aside0.mk (HX1.out.only hk); have HQ2 := Aside0.mk ((hk.2 _ (blk_lt HQ1.out) HGN.out.symm).trans HQ1.out); have HK2 := Aside0.mk (HK1.out.trans hk); have HS2 := Aside0.mk hs; have HI2 := Aside0.mk hi; have HB2 := Aside0.mk hb; have HR2 := Aside0.mk (Kd.R_lower (base' := w.heap.size) hr HK1.out.1); have hx2 := (blk_cell HX2.out.1) 0; have hq0 := (blk_cell HQ2.out) 0; have hq1 := (blk_cell HQ2.out) 1; have hz0 := free_of HQ2.out 0; have hz1 := free_of HQ2.out 1; clear K1 hx1 HX1 HQ1 hr hs hi hb hk))
  go_wp2
  refine bodyPost_ret (v := .agg #[.int .i64 x, .slice A y.length c]) (by simp [results, Try.results75, go_sem, hq0, hq1]) rfl ?_
  exact ⟨_, (x, y), st2, rfl, ⟨A, c, rfl, Kd.R_turned HR2.out HQ2.out (by decide) (fun k hk => far2 _ hk _ _)⟩, Step.bind HS1.out (Step.map (f := fun b => (x, b)) HS2.out), HI2.out.turned HGN.out (fun k hk => far2 _ hk _ _), (HB2.out.setCell (p := ⟨w.heap.size, 0, none⟩) HLE.out _).setCell (p := ⟨w.heap.size, 1, none⟩) HLE.out _, HK2.out.turned (Nat.le_refl _) (by simp) (fun k hk => far2 _ hk _ _)⟩
theorem info_need : (Try.prog.info? 130).map (fun i => (i.zero, i.size, i.bytes)) = some (some (.agg #[.int .i64 0, .slice none 0 0]), 2, 32) := by kernel_rfl
set_option maxHeartbeats 8000000 in
set_option maxRecDepth 20000 in
theorem things_need_T (g gb : Nat) (st : St) (w0 w : World) (hI : IP w0 w g st) (hX : BXI w gb g) (hB : Below w0.heap.size w0 w) :
    Calls Try.prog 78 #[.pointer (some ⟨g, 0, none⟩), .func (.func 75) #[] #[.pointer (some ⟨gb, 0, none⟩)]] w (Told (rlist rNd) (VRow kNd 130 w.heap.size g) w0 w g st) := by
  have K := Aside0.mk (in_size_T g st w0 w hI hB)
  have HX := Aside0.mk hX
  have HW := Aside0.mk hB.size
  clear hI hB hX
  go_enter Try.func78, Try.ntmps78
  go_wp2_with (fail)
  refine K.out.mono ?_
  rintro e w1 ⟨m, bs1, e1, st1, rfl, hm, hs, hi, hrep, hby, hbl, hb, hk⟩
  have HM : Aside0 (m ≤ 1000000000) := ⟨by omega⟩
  have HS := Aside0.mk hs
  have HI : Aside0 (IP w0 w1 g st1) := ⟨_, _, hi, hrep, hby, hbl⟩
  have HB := Aside0.mk hb
  have HK := Aside0.mk hk
  clear hm hs hi hrep hby hbl hb hk K
  go_wp2
  go_loopg [5, 8] m (fun kq v5 v8 w' => ∃ (i : Nat) (out : List Nd) (s : St), v8 = .int .i64 (i : Int) ∧ Aside0 (i + kq = m) ∧ Aside0 (out.length = i) ∧ Aside0 (Goes rNd m st1 kq out s) ∧ Aside0 (IP w0 w' g s) ∧ Aside0 (Kd.R kNd 130 w' w.heap.size (fun k => k ≠ g) v5 out) ∧ Aside0 (Below w0.heap.size w0 w') ∧ Aside0 (Only w w' g))
  case atStart => exact ⟨0, [], st1, rfl, ⟨by omega⟩, ⟨rfl⟩, ⟨Goes.start _ _ _⟩, HI, ⟨Kd.R_nil _ _ _ _ _⟩, HB, HK⟩
  case round =>
    clear HI HB HK
    obtain ⟨i, out, s, rfl, HJ, HOL, HG, HI, HO, HB, HK⟩ := hrel
    obtain ⟨ee, hc1, hee⟩ := HI.out.ecell
    have HEE := Aside0.mk hee
    clear hee
    cases gk with
    | zero =>
      have e1 : decide (i < m) = false := decide_eq_false (by have := HJ.out; omega)
      go_wp2
      go_ret
      exact ⟨_, out, s, rfl, HO.out, Step.list HS.out (HG.out.done), HI.out, HB.out, HK.out⟩
    | succ gk =>
      have e1 : decide (i < m) = true := decide_eq_true (by have := HJ.out; omega)
      have e5 : wrap64 ((i : Int) + 1) = ((i + 1 : Nat) : Int) := by have := HJ.out; have := HM.out; unfold wrap64; omega
      rcases HEE.out with ⟨he, bs, rfl⟩ | ⟨he, rfl⟩
      · have h0 : (ee == 0) = true := beq_iff_eq.2 he
        have h1 : (ee != 0) = false := bne_eq_false_iff_eq.2 he
        have K := Aside0.mk (need2_T g gb _ w0 wr HI.out (HX.out.only HK.out) HB.out)
        have HLE := Aside0.mk HK.out.1
        clear he
        go_wp2_with (fail)
        refine K.out.mono ?_
        rintro e w2 ⟨v, x, s2, rfl, hv, hs, hi, hb, hk⟩
        have HO1 := Aside0.mk (R_only HO.out hk)
        have HI1 := Aside0.mk hi
        have HB1 := Aside0.mk hb
        have HK1 := Aside0.mk (HK.out.trans hk)
        have HS1 := Aside0.mk hs
        have HFR : Aside0 (∀ k, w2.heap.size ≤ k → k ≠ g) := ⟨fun k hk => by have := hi.lt; omega⟩
        obtain ⟨Ae, ce, rfl, hr⟩ := hv
        have hm : kNd.M w2 w.heap.size (fun k => k ≠ g) x [.int .i64 x.1, .slice Ae x.2.length ce] := ⟨[_], [_], rfl, rfl, ⟨_, rfl, Kd.R_lower hr HLE.out⟩⟩
        clear hr
        have HV := Aside0.mk (Kd.M_apart hm HO1.out (by decide))
        clear hi hb hk hs K hm
        go_wp2_with (first | ((with_reducible refine gate_dst (N := 18) rfl ?_); refine Kd.R_lit kNd (w0 := w2) w.heap.size 130 ?hg (N := 18) ?hd (xs := [x]) (inner := [.int .i64 x.1, .slice Ae x.2.length ce]) (ok := fun k => k ≠ g ∧ some k ≠ u5.ownBlock) (okp := fun k => k ≠ g ∧ some k ≠ u5.ownBlock) ?hr ?hp (fun _ hk => hk) ⟨HFR.out _ (Nat.le_refl _), Kd.R_fresh HO1.out⟩ (Below.refl _ _) HK1.out.1 (by simp) ?_; (case hd => rfl); (case hg => rfl); (case hr => first | (go_simp; done) | (go_simp; rfl)); (case hp => exact reps1 HV.out rfl); intro v43 w7 ho hb hg_ hnew_; obtain ⟨A43, c43, rfl, hcl43, hC43⟩ := OwnRow.reads ho.2; have HC43 := Aside0.mk hC43; have HO2 := Aside0.mk (Kd.R_grown HO1.out hg_ (fun _ _ => by simp)); have HI2 := Aside0.mk (HI1.out.grown hg_ (by simp)); have HB2 := Aside0.mk (HB1.out.trans (hb.mono HW.out)); have HK2 := Aside0.mk (HK1.out.belowG hb hg_.size); have HFR2 : Aside0 (∀ k, w7.heap.size ≤ k → k ≠ g) := ⟨fun k hk => HFR.out k (Nat.le_trans hg_.size hk)⟩; clear ho hb hC43 hcl43 hg_ hnew_) | ((with_reducible refine gate_builtin (b := .append) (xs := #[.tmp 15, .tmp 18]) rfl ?_); at_builtin; refine Kd.R_append_rows kNd (w0 := w7) w.heap.size rfl (.tmp 15) (.tmp 18) 119 130 (.agg #[.int .i64 0, .slice none 0 0]) 32 rfl Try.underlying119 info_need rfl (by decide) (by decide) u5 out [x] A43 1 c43 (fun k => k ≠ g) _ rfl rfl HO2.out HC43.out (fun _ _ h => h) (fun k hk => ⟨hk.1.1, hk.1.2⟩) HFR2.out (Below.refl _ _) HK2.out.1 (by have := HOL.out; have := HJ.out; have := HM.out; omega) ?_; intro v44 w8 ho hb hgr hat; have HO3 := Aside0.mk ho; have HB3 := Aside0.mk (HB2.out.trans (hb.mono HW.out)); have HI3 := Aside0.mk (HI2.out.grown hgr (Kd.R_away HO2.out (fun k hk => hk))); have HK3 := Aside0.mk (HK2.out.belowG hb hgr.size); clear ho hb hgr hat))
        go_roundg gk
        case measure => omega
        case rel => exact ⟨i + 1, out ++ [x], s2, (by first | exact congrArg _ e5 | rfl), ⟨by have := HJ.out; omega⟩, ⟨by simp [HOL.out]⟩, ⟨HG.out.next HS1.out⟩, HI3, HO3, HB3, HK3⟩
      · have h0 : (ee == 0) = false := beq_eq_false_iff_ne.2 he
        have h1 : (ee != 0) = true := bne_iff_ne.2 he
        clear he
        go_wp2
        go_ret
        exact ⟨_, [], _, rfl, Kd.R_nil _ _ _ _ _, Step.list HS.out (HG.out.fails []), HI.out, HB.out, HK.out⟩
set_option maxHeartbeats 8000000 in
set_option maxRecDepth 20000 in
theorem pin2_T (g gb : Nat) (st : St) (w0 w : World) (hI : IP w0 w g st) (hX : BXI w gb g) (hB : Below w0.heap.size w0 w) :
    Calls Try.prog 68 #[.pointer (some ⟨gb, 0, none⟩)] w (Told rNd (VNd w.heap.size g) w0 w g st) := by
  obtain ⟨B, hB0⟩ : ∃ o, o = Obj.cells #[.int .i64 0, .slice none 0 0] 148 := ⟨_, rfl⟩
  have hbx := below_drew (below_alloc (Below.refl w.heap.size w) B)
  have hx := (blk_cell (hX.below hbx).1) 0
  have HX := Aside0.mk (hX.below hbx)
  have hq : (w.alloc B).drew.heap[w.heap.size]? = some B := heap_last w B
  have HLE := Aside0.mk hB.size
  have HGB : Aside0 (gb ≠ w.heap.size) := ⟨by have := blk_lt hX.1; omega⟩
  have HGN : Aside0 (g ≠ w.heap.size) := ⟨by have := hI.lt; omega⟩
  have HK0 := Aside0.mk (Only.below g hbx)
  have K := Aside0.mk (in_num_T g st w0 (w.alloc B).drew (hI.below hbx) (below_drew (below_alloc hB B)))
  subst hB0
  have HQ := Aside0.mk hq
  clear hI hB hX hbx hq
  go_enter Try.func68, Try.ntmps68
  go_wp2
  go_region_held3 (fun w' => w'.cell? ⟨gb, 0, none⟩ = some (.pointer (some ⟨g, 0, none⟩))) (first | go_keep | exact BXI.set2 HX2.out HGB.out _ _)
    (first
      | (go_at_call 49; refine K.out.mono ?_; rintro e w1 ⟨v, x, st1, rfl, hv, hs, hi, hb, hk⟩; have hv' : v = .int .i64 x := hv; subst hv'; have HX1 := Aside0.mk (HX.out.only hk); have HQ1 := Aside0.mk ((hk.2 _ (blk_lt HQ.out) HGN.out.symm).trans HQ.out); have HK1 := Aside0.mk (HK0.out.trans hk); have HS1 := Aside0.mk hs; have K1 := Aside0.mk (in_ranged_T g st1 w0 w1 hi hb); have hx1 := (blk_cell HX1.out.1) 0; clear K hx HX HQ hv hs hi hb hk)
      | (go_at_call 69; refine K1.out.mono ?_; rintro e w2 ⟨v, y, st2, rfl, ⟨A, c, rfl, hr⟩, hs, hi, hb, hk⟩; have HX2 := Aside0.mk (HX1.out.only hk); have HQ2 := Aside0.mk ((hk.2 _ (blk_lt HQ1.out) HGN.out.symm).trans HQ1.out); have HK2 := Aside0.mk (HK1.out.trans hk); have HS2 := Aside0.mk hs; have HI2 := Aside0.mk hi; have HB2 := Aside0.mk hb; have HR2 := Aside0.mk (Kd.R_lower (base' := w.heap.size) hr HK1.out.1); have hx2 := (blk_cell HX2.out.1) 0; have hq0 := (blk_cell HQ2.out) 0; have hq1 := (blk_cell HQ2.out) 1; have hz0 := free_of HQ2.out 0; have hz1 := free_of HQ2.out 1; clear K1 hx1 HX1 HQ1 hr hs hi hb hk))
  go_wp2
  refine bodyPost_ret (v := .agg #[.int .i64 x, .slice A y.length c]) (by simp [results, Try.results68, go_sem, hq0, hq1]) rfl ?_
  exact ⟨_, (x, y), st2, rfl, ⟨A, c, rfl, Kd.R_turned HR2.out HQ2.out (by decide) (fun k hk => far2 _ hk _ _)⟩, Step.bind HS1.out (Step.map (f := fun b => (x, b)) HS2.out), HI2.out.turned HGN.out (fun k hk => far2 _ hk _ _), (HB2.out.setCell (p := ⟨w.heap.size, 0, none⟩) HLE.out _).setCell (p := ⟨w.heap.size, 1, none⟩) HLE.out _, HK2.out.turned (Nat.le_refl _) (by simp) (fun k hk => far2 _ hk _ _)⟩
theorem info_pin : (Try.prog.info? 148).map (fun i => (i.zero, i.size, i.bytes)) = some (some (.agg #[.int .i64 0, .slice none 0 0]), 2, 32) := by kernel_rfl
set_option maxHeartbeats 8000000 in
set_option maxRecDepth 20000 in
theorem things_pin_T (g gb : Nat) (st : St) (w0 w : World) (hI : IP w0 w g st) (hX : BXI w gb g) (hB : Below w0.heap.size w0 w) :
    Calls Try.prog 71 #[.pointer (some ⟨g, 0, none⟩), .func (.func 68) #[] #[.pointer (some ⟨gb, 0, none⟩)]] w (Told (rlist rNd) (VRow kNd 148 w.heap.size g) w0 w g st) := by
  have K := Aside0.mk (in_size_T g st w0 w hI hB)
  have HX := Aside0.mk hX
  have HW := Aside0.mk hB.size
  clear hI hB hX
  go_enter Try.func71, Try.ntmps71
  go_wp2_with (fail)
  refine K.out.mono ?_
  rintro e w1 ⟨m, bs1, e1, st1, rfl, hm, hs, hi, hrep, hby, hbl, hb, hk⟩
  have HM : Aside0 (m ≤ 1000000000) := ⟨by omega⟩
  have HS := Aside0.mk hs
  have HI : Aside0 (IP w0 w1 g st1) := ⟨_, _, hi, hrep, hby, hbl⟩
  have HB := Aside0.mk hb
  have HK := Aside0.mk hk
  clear hm hs hi hrep hby hbl hb hk K
  go_wp2
  go_loopg [5, 8] m (fun kq v5 v8 w' => ∃ (i : Nat) (out : List Nd) (s : St), v8 = .int .i64 (i : Int) ∧ Aside0 (i + kq = m) ∧ Aside0 (out.length = i) ∧ Aside0 (Goes rNd m st1 kq out s) ∧ Aside0 (IP w0 w' g s) ∧ Aside0 (Kd.R kNd 148 w' w.heap.size (fun k => k ≠ g) v5 out) ∧ Aside0 (Below w0.heap.size w0 w') ∧ Aside0 (Only w w' g))
  case atStart => exact ⟨0, [], st1, rfl, ⟨by omega⟩, ⟨rfl⟩, ⟨Goes.start _ _ _⟩, HI, ⟨Kd.R_nil _ _ _ _ _⟩, HB, HK⟩
  case round =>
    clear HI HB HK
    obtain ⟨i, out, s, rfl, HJ, HOL, HG, HI, HO, HB, HK⟩ := hrel
    obtain ⟨ee, hc1, hee⟩ := HI.out.ecell
    have HEE := Aside0.mk hee
    clear hee
    cases gk with
    | zero =>
      have e1 : decide (i < m) = false := decide_eq_false (by have := HJ.out; omega)
      go_wp2
      go_ret
      exact ⟨_, out, s, rfl, HO.out, Step.list HS.out (HG.out.done), HI.out, HB.out, HK.out⟩
    | succ gk =>
      have e1 : decide (i < m) = true := decide_eq_true (by have := HJ.out; omega)
      have e5 : wrap64 ((i : Int) + 1) = ((i + 1 : Nat) : Int) := by have := HJ.out; have := HM.out; unfold wrap64; omega
      rcases HEE.out with ⟨he, bs, rfl⟩ | ⟨he, rfl⟩
      · have h0 : (ee == 0) = true := beq_iff_eq.2 he
        have h1 : (ee != 0) = false := bne_eq_false_iff_eq.2 he
        have K := Aside0.mk (pin2_T g gb _ w0 wr HI.out (HX.out.only HK.out) HB.out)
        have HLE := Aside0.mk HK.out.1
        clear he
        go_wp2_with (fail)
        refine K.out.mono ?_
        rintro e w2 ⟨v, x, s2, rfl, hv, hs, hi, hb, hk⟩
        have HO1 := Aside0.mk (R_only HO.out hk)
        have HI1 := Aside0.mk hi
        have HB1 := Aside0.mk hb
        have HK1 := Aside0.mk (HK.out.trans hk)
        have HS1 := Aside0.mk hs
        have HFR : Aside0 (∀ k, w2.heap.size ≤ k → k ≠ g) := ⟨fun k hk => by have := hi.lt; omega⟩
        obtain ⟨Ae, ce, rfl, hr⟩ := hv
        have hm : kNd.M w2 w.heap.size (fun k => k ≠ g) x [.int .i64 x.1, .slice Ae x.2.length ce] := ⟨[_], [_], rfl, rfl, ⟨_, rfl, Kd.R_lower hr HLE.out⟩⟩
        clear hr
        have HV := Aside0.mk (Kd.M_apart hm HO1.out (by decide))
        clear hi hb hk hs K hm
        go_wp2_with (first | ((with_reducible refine gate_dst (N := 18) rfl ?_); refine Kd.R_lit kNd (w0 := w2) w.heap.size 148 ?hg (N := 18) ?hd (xs := [x]) (inner := [.int .i64 x.1, .slice Ae x.2.length ce]) (ok := fun k => k ≠ g ∧ some k ≠ u5.ownBlock) (okp := fun k => k ≠ g ∧ some k ≠ u5.ownBlock) ?hr ?hp (fun _ hk => hk) ⟨HFR.out _ (Nat.le_refl _), Kd.R_fresh HO1.out⟩ (Below.refl _ _) HK1.out.1 (by simp) ?_; (case hd => rfl); (case hg => rfl); (case hr => first | (go_simp; done) | (go_simp; rfl)); (case hp => exact reps1 HV.out rfl); intro v43 w7 ho hb hg_ hnew_; obtain ⟨A43, c43, rfl, hcl43, hC43⟩ := OwnRow.reads ho.2; have HC43 := Aside0.mk hC43; have HO2 := Aside0.mk (Kd.R_grown HO1.out hg_ (fun _ _ => by simp)); have HI2 := Aside0.mk (HI1.out.grown hg_ (by simp)); have HB2 := Aside0.mk (HB1.out.trans (hb.mono HW.out)); have HK2 := Aside0.mk (HK1.out.belowG hb hg_.size); have HFR2 : Aside0 (∀ k, w7.heap.size ≤ k → k ≠ g) := ⟨fun k hk => HFR.out k (Nat.le_trans hg_.size hk)⟩; clear ho hb hC43 hcl43 hg_ hnew_) | ((with_reducible refine gate_builtin (b := .append) (xs := #[.tmp 15, .tmp 18]) rfl ?_); at_builtin; refine Kd.R_append_rows kNd (w0 := w7) w.heap.size rfl (.tmp 15) (.tmp 18) 70 148 (.agg #[.int .i64 0, .slice none 0 0]) 32 rfl Try.underlying70 info_pin rfl (by decide) (by decide) u5 out [x] A43 1 c43 (fun k => k ≠ g) _ rfl rfl HO2.out HC43.out (fun _ _ h => h) (fun k hk => ⟨hk.1.1, hk.1.2⟩) HFR2.out (Below.refl _ _) HK2.out.1 (by have := HOL.out; have := HJ.out; have := HM.out; omega) ?_; intro v44 w8 ho hb hgr hat; have HO3 := Aside0.mk ho; have HB3 := Aside0.mk (HB2.out.trans (hb.mono HW.out)); have HI3 := Aside0.mk (HI2.out.grown hgr (Kd.R_away HO2.out (fun k hk => hk))); have HK3 := Aside0.mk (HK2.out.belowG hb hgr.size); clear ho hb hgr hat))
        go_roundg gk
        case measure => omega
        case rel => exact ⟨i + 1, out ++ [x], s2, (by first | exact congrArg _ e5 | rfl), ⟨by have := HJ.out; omega⟩, ⟨by simp [HOL.out]⟩, ⟨HG.out.next HS1.out⟩, HI3, HO3, HB3, HK3⟩
      · have h0 : (ee == 0) = false := beq_eq_false_iff_ne.2 he
        have h1 : (ee != 0) = true := bne_iff_ne.2 he
        clear he
        go_wp2
        go_ret
        exact ⟨_, [], _, rfl, Kd.R_nil _ _ _ _ _, Step.list HS.out (HG.out.fails []), HI.out, HB.out, HK.out⟩
def VRel (base g : Nat) (v : Value) (x : Rel) (w : World) : Prop := ∃ A c, v = .agg #[.int .i64 x.1.1, .int .i64 x.1.2.1, .int .i64 x.1.2.2.1, .string x.1.2.2.2, .int .i64 x.2.1, .slice A x.2.2.length c] ∧ kNd.R 130 w base (fun k => k ≠ g) (.slice A x.2.2.length c) x.2.2
set_option maxHeartbeats 8000000 in
set_option maxRecDepth 20000 in
theorem rel2_T (g gb fb : Nat) (st : St) (w0 w : World) (hI : IP w0 w g st) (hX : BXI w gb g) (hF : BXF w fb (.func (.func 75) #[] #[.pointer (some ⟨gb, 0, none⟩)]) 159 g) (hB : Below w0.heap.size w0 w) :
    Calls Try.prog 76 #[.pointer (some ⟨gb, 0, none⟩), .pointer (some ⟨fb, 0, none⟩)] w (Told rRel (VRel w.heap.size g) w0 w g st) := by
  obtain ⟨B, hB0⟩ : ∃ o, o = Obj.cells #[.int .i64 0, .int .i64 0, .int .i64 0, .string ⟨#[]⟩, .int .i64 0, .slice none 0 0] 121 := ⟨_, rfl⟩
  have hbx := below_drew (below_alloc (Below.refl w.heap.size w) B)
  have hx := (blk_cell (hX.below hbx).1) 0
  have hy := (blk_cell (hF.below hbx).1) 0
  have HX := Aside0.mk (hX.below hbx)
  have HF := Aside0.mk (hF.below hbx)
  have hq : (w.alloc B).drew.heap[w.heap.size]? = some B := heap_last w B
  have HLE := Aside0.mk hB.size
  have HGB : Aside0 (gb ≠ w.heap.size) := ⟨by have := blk_lt hX.1; omega⟩
  have HFB : Aside0 (fb ≠ w.heap.size) := ⟨by have := blk_lt hF.1; omega⟩
  have HGN : Aside0 (g ≠ w.heap.size) := ⟨by have := hI.lt; omega⟩
  have HK0 := Aside0.mk (Only.below g hbx)
  have K := Aside0.mk (in_version_T g st w0 (w.alloc B).drew (hI.below hbx) (below_drew (below_alloc hB B)))
  subst hB0
  have HQ := Aside0.mk hq
  clear hI hB hX hF hbx hq
  go_enter Try.func76, Try.ntmps76
  go_wp2
  go_region_held3 (fun w' => w'.cell? ⟨gb, 0, none⟩ = some (.pointer (some ⟨g, 0, none⟩)) ∧ w'.cell? ⟨fb, 0, none⟩ = some (.func (.func 75) #[] #[.pointer (some ⟨gb, 0, none⟩)])) (first | go_keep | exact ⟨(blk_cell ((far6 _ HGB.out _ _ _ _ _ _).trans HX3.out.1)) 0, (blk_cell ((far6 _ HFB.out _ _ _ _ _ _).trans HF3.out.1)) 0⟩)
    (first
      | (go_at_call 77; refine K.out.mono ?_; rintro e w1 ⟨v, ⟨xa, xb, xc, xs⟩, st1, rfl, hv, hs, hi, hb, hk⟩; have hv' : v = .agg #[.int .i64 xa, .int .i64 xb, .int .i64 xc, .string xs] := hv; subst hv'; have HX1 := Aside0.mk (HX.out.only hk); have HF1 := Aside0.mk (HF.out.only hk); have HQ1 := Aside0.mk ((hk.2 _ (blk_lt HQ.out) HGN.out.symm).trans HQ.out); have HK1 := Aside0.mk (HK0.out.trans hk); have HS1 := Aside0.mk hs; have K1 := Aside0.mk (in_num_T g st1 w0 w1 hi hb); have hx1 := (blk_cell HX1.out.1) 0; have hy1 := (blk_cell HF1.out.1) 0; clear K hx hy HX HF HQ hv hs hi hb hk)
      | (go_at_call 49; refine K1.out.mono ?_; rintro e w2 ⟨v, lv, st2, rfl, hv, hs, hi, hb, hk⟩; have hv' : v = .int .i64 lv := hv; subst hv'; have HX2 := Aside0.mk (HX1.out.only hk); have HF2 := Aside0.mk (HF1.out.only hk); have HQ2 := Aside0.mk ((hk.2 _ (blk_lt HQ1.out) HGN.out.symm).trans HQ1.out); have HK2 := Aside0.mk (HK1.out.trans hk); have HS2 := Aside0.mk hs; have K2 := Aside0.mk (things_need_T g gb st2 w0 w2 hi HX2.out hb); have hx2 := (blk_cell HX2.out.1) 0; have hy2 := (blk_cell HF2.out.1) 0; clear K1 hx1 hy1 HX1 HF1 HQ1 hv hs hi hb hk)
      | (go_at_call 78; refine K2.out.mono ?_; rintro e w3 ⟨v, y, st3, rfl, hr, hs, hi, hb, hk⟩; obtain ⟨A, c, rfl⟩ := Kd.R_slice hr; have HX3 := Aside0.mk (HX2.out.only hk); have HF3 := Aside0.mk (HF2.out.only hk); have HQ3 := Aside0.mk ((hk.2 _ (blk_lt HQ2.out) HGN.out.symm).trans HQ2.out); have HK3 := Aside0.mk (HK2.out.trans hk); have HS3 := Aside0.mk hs; have HI3 := Aside0.mk hi; have HB3 := Aside0.mk hb; have HR3 := Aside0.mk (Kd.R_lower (base' := w.heap.size) hr HK2.out.1); have hx3 := (blk_cell HX3.out.1) 0; have hy3 := (blk_cell HF3.out.1) 0; have hq0 := (blk_cell HQ3.out) 0; have hq1 := (blk_cell HQ3.out) 1; have hq2 := (blk_cell HQ3.out) 2; have hq3 := (blk_cell HQ3.out) 3; have hq4 := (blk_cell HQ3.out) 4; have hq5 := (blk_cell HQ3.out) 5; have hz0 := free_of HQ3.out 0; have hz1 := free_of HQ3.out 1; have hz2 := free_of HQ3.out 2; have hz3 := free_of HQ3.out 3; have hz4 := free_of HQ3.out 4; have hz5 := free_of HQ3.out 5; clear K2 hx2 hy2 HX2 HF2 HQ2 hr hs hi hb hk))
  go_wp2
  refine bodyPost_ret (v := .agg #[.int .i64 xa, .int .i64 xb, .int .i64 xc, .string xs, .int .i64 lv, .slice A y.length c]) (by simp [results, Try.results76, go_sem, hq0, hq1, hq2, hq3, hq4, hq5]) rfl ?_
  exact ⟨_, ((xa, xb, xc, xs), lv, y), st3, rfl, ⟨A, c, rfl, Kd.R_turned HR3.out HQ3.out (by decide) (fun k hk => far6 _ hk _ _ _ _ _ _)⟩, Step.bind HS1.out (Step.map (f := fun b => ((xa, xb, xc, xs), b)) (Step.bind HS2.out (Step.map (f := fun b => (lv, b)) HS3.out))), HI3.out.turned HGN.out (fun k hk => far6 _ hk _ _ _ _ _ _), (((((HB3.out.setCell (p := ⟨w.heap.size, 0, none⟩) HLE.out _).setCell (p := ⟨w.heap.size, 1, none⟩) HLE.out _).setCell (p := ⟨w.heap.size, 2, none⟩) HLE.out _).setCell (p := ⟨w.heap.size, 3, none⟩) HLE.out _).setCell (p := ⟨w.heap.size, 4, none⟩) HLE.out _).setCell (p := ⟨w.heap.size, 5, none⟩) HLE.out _, HK3.out.turned (Nat.le_refl _) (by simp) (fun k hk => far6 _ hk _ _ _ _ _ _)⟩
theorem info_rel : (Try.prog.info? 121).map (fun i => (i.zero, i.size, i.bytes)) = some (some (.agg #[.int .i64 0, .int .i64 0, .int .i64 0, .string ⟨#[]⟩, .int .i64 0, .slice none 0 0]), 6, 72) := by kernel_rfl
set_option maxHeartbeats 8000000 in
set_option maxRecDepth 20000 in
theorem things_rel_T (g gb fb : Nat) (st : St) (w0 w : World) (hI : IP w0 w g st) (hX : BXI w gb g) (hF : BXF w fb (.func (.func 75) #[] #[.pointer (some ⟨gb, 0, none⟩)]) 159 g) (hB : Below w0.heap.size w0 w) :
    Calls Try.prog 81 #[.pointer (some ⟨g, 0, none⟩), .func (.func 76) #[] #[.pointer (some ⟨gb, 0, none⟩), .pointer (some ⟨fb, 0, none⟩)]] w (Told (rlist rRel) (VRow kRel 121 w.heap.size g) w0 w g st) := by
  have K := Aside0.mk (in_size_T g st w0 w hI hB)
  have HX := Aside0.mk hX
  have HF := Aside0.mk hF
  have HW := Aside0.mk hB.size
  clear hI hB hX hF
  go_enter Try.func81, Try.ntmps81
  go_wp2_with (fail)
  refine K.out.mono ?_
  rintro e w1 ⟨m, bs1, e1, st1, rfl, hm, hs, hi, hrep, hby, hbl, hb, hk⟩
  have HM : Aside0 (m ≤ 1000000000) := ⟨by omega⟩
  have HS := Aside0.mk hs
  have HI : Aside0 (IP w0 w1 g st1) := ⟨_, _, hi, hrep, hby, hbl⟩
  have HB := Aside0.mk hb
  have HK := Aside0.mk hk
  clear hm hs hi hrep hby hbl hb hk K
  go_wp2
  go_loopg [5, 8] m (fun kq v5 v8 w' => ∃ (i : Nat) (out : List Rel) (s : St), v8 = .int .i64 (i : Int) ∧ Aside0 (i + kq = m) ∧ Aside0 (out.length = i) ∧ Aside0 (Goes rRel m st1 kq out s) ∧ Aside0 (IP w0 w' g s) ∧ Aside0 (Kd.R kRel 121 w' w.heap.size (fun k => k ≠ g) v5 out) ∧ Aside0 (Below w0.heap.size w0 w') ∧ Aside0 (Only w w' g))
  case atStart => exact ⟨0, [], st1, rfl, ⟨by omega⟩, ⟨rfl⟩, ⟨Goes.start _ _ _⟩, HI, ⟨Kd.R_nil _ _ _ _ _⟩, HB, HK⟩
  case round =>
    clear HI HB HK
    obtain ⟨i, out, s, rfl, HJ, HOL, HG, HI, HO, HB, HK⟩ := hrel
    obtain ⟨ee, hc1, hee⟩ := HI.out.ecell
    have HEE := Aside0.mk hee
    clear hee
    cases gk with
    | zero =>
      have e1 : decide (i < m) = false := decide_eq_false (by have := HJ.out; omega)
      go_wp2
      go_ret
      exact ⟨_, out, s, rfl, HO.out, Step.list HS.out (HG.out.done), HI.out, HB.out, HK.out⟩
    | succ gk =>
      have e1 : decide (i < m) = true := decide_eq_true (by have := HJ.out; omega)
      have e5 : wrap64 ((i : Int) + 1) = ((i + 1 : Nat) : Int) := by have := HJ.out; have := HM.out; unfold wrap64; omega
      rcases HEE.out with ⟨he, bs, rfl⟩ | ⟨he, rfl⟩
      · have h0 : (ee == 0) = true := beq_iff_eq.2 he
        have h1 : (ee != 0) = false := bne_eq_false_iff_eq.2 he
        have K := Aside0.mk (rel2_T g gb fb _ w0 wr HI.out (HX.out.only HK.out) (HF.out.only HK.out) HB.out)
        have HLE := Aside0.mk HK.out.1
        clear he
        go_wp2_with (fail)
        refine K.out.mono ?_
        rintro e w2 ⟨v, x, s2, rfl, hv, hs, hi, hb, hk⟩
        have HO1 := Aside0.mk (R_only HO.out hk)
        have HI1 := Aside0.mk hi
        have HB1 := Aside0.mk hb
        have HK1 := Aside0.mk (HK.out.trans hk)
        have HS1 := Aside0.mk hs
        have HFR : Aside0 (∀ k, w2.heap.size ≤ k → k ≠ g) := ⟨fun k hk => by have := hi.lt; omega⟩
        obtain ⟨Ae, ce, rfl, hr⟩ := hv
        have hm : kRel.M w2 w.heap.size (fun k => k ≠ g) x [.int .i64 x.1.1, .int .i64 x.1.2.1, .int .i64 x.1.2.2.1, .string x.1.2.2.2, .int .i64 x.2.1, .slice Ae x.2.2.length ce] := ⟨[_, _, _, _], [_, _], rfl, ⟨[_], [_, _, _], rfl, rfl, [_], [_, _], rfl, rfl, [_], [_], rfl, rfl, rfl⟩, [_], [_], rfl, rfl, ⟨_, rfl, Kd.R_lower hr HLE.out⟩⟩
        clear hr
        have HV := Aside0.mk (Kd.M_apart hm HO1.out (by decide))
        clear hi hb hk hs K hm
        go_wp2_with (first | ((with_reducible refine gate_dst (N := 18) rfl ?_); refine Kd.R_lit kRel (w0 := w2) w.heap.size 121 ?hg (N := 18) ?hd (xs := [x]) (inner := [.int .i64 x.1.1, .int .i64 x.1.2.1, .int .i64 x.1.2.2.1, .string x.1.2.2.2, .int .i64 x.2.1, .slice Ae x.2.2.length ce]) (ok := fun k => k ≠ g ∧ some k ≠ u5.ownBlock) (okp := fun k => k ≠ g ∧ some k ≠ u5.ownBlock) ?hr ?hp (fun _ hk => hk) ⟨HFR.out _ (Nat.le_refl _), Kd.R_fresh HO1.out⟩ (Below.refl _ _) HK1.out.1 (by simp) ?_; (case hd => rfl); (case hg => rfl); (case hr => first | (go_simp; done) | (go_simp; rfl)); (case hp => exact reps1 HV.out rfl); intro v43 w7 ho hb hg_ hnew_; obtain ⟨A43, c43, rfl, hcl43, hC43⟩ := OwnRow.reads ho.2; have HC43 := Aside0.mk hC43; have HO2 := Aside0.mk (Kd.R_grown HO1.out hg_ (fun _ _ => by simp)); have HI2 := Aside0.mk (HI1.out.grown hg_ (by simp)); have HB2 := Aside0.mk (HB1.out.trans (hb.mono HW.out)); have HK2 := Aside0.mk (HK1.out.belowG hb hg_.size); have HFR2 : Aside0 (∀ k, w7.heap.size ≤ k → k ≠ g) := ⟨fun k hk => HFR.out k (Nat.le_trans hg_.size hk)⟩; clear ho hb hC43 hcl43 hg_ hnew_) | ((with_reducible refine gate_builtin (b := .append) (xs := #[.tmp 15, .tmp 18]) rfl ?_); at_builtin; refine Kd.R_append_rows kRel (w0 := w7) w.heap.size rfl (.tmp 15) (.tmp 18) 111 121 (.agg #[.int .i64 0, .int .i64 0, .int .i64 0, .string ⟨#[]⟩, .int .i64 0, .slice none 0 0]) 72 rfl Try.underlying111 info_rel rfl (by decide) (by decide) u5 out [x] A43 1 c43 (fun k => k ≠ g) _ rfl rfl HO2.out HC43.out (fun _ _ h => h) (fun k hk => ⟨hk.1.1, hk.1.2⟩) HFR2.out (Below.refl _ _) HK2.out.1 (by have := HOL.out; have := HJ.out; have := HM.out; omega) ?_; intro v44 w8 ho hb hgr hat; have HO3 := Aside0.mk ho; have HB3 := Aside0.mk (HB2.out.trans (hb.mono HW.out)); have HI3 := Aside0.mk (HI2.out.grown hgr (Kd.R_away HO2.out (fun k hk => hk))); have HK3 := Aside0.mk (HK2.out.belowG hb hgr.size); clear ho hb hgr hat))
        go_roundg gk
        case measure => omega
        case rel => exact ⟨i + 1, out ++ [x], s2, (by first | exact congrArg _ e5 | rfl), ⟨by have := HJ.out; omega⟩, ⟨by simp [HOL.out]⟩, ⟨HG.out.next HS1.out⟩, HI3, HO3, HB3, HK3⟩
      · have h0 : (ee == 0) = false := beq_eq_false_iff_ne.2 he
        have h1 : (ee != 0) = true := bne_iff_ne.2 he
        clear he
        go_wp2
        go_ret
        exact ⟨_, [], _, rfl, Kd.R_nil _ _ _ _ _, Step.list HS.out (HG.out.fails []), HI.out, HB.out, HK.out⟩
def VSvc (base g : Nat) (v : Value) (x : Svc) (w : World) : Prop := ∃ A c, v = .agg #[.string x.1, .slice A x.2.length c] ∧ kRel.R 121 w base (fun k => k ≠ g) (.slice A x.2.length c) x.2
set_option maxHeartbeats 8000000 in
set_option maxRecDepth 20000 in
theorem svc2_T (g gb fb gf : Nat) (st : St) (w0 w : World) (hI : IP w0 w g st) (hX : BXI w gb g) (hF : BXF w fb (.func (.func 75) #[] #[.pointer (some ⟨gb, 0, none⟩)]) 159 g) (hG : BXF w gf (.func (.func 76) #[] #[.pointer (some ⟨gb, 0, none⟩), .pointer (some ⟨fb, 0, none⟩)]) 162 g) (hB : Below w0.heap.size w0 w) :
    Calls Try.prog 79 #[.pointer (some ⟨gb, 0, none⟩), .pointer (some ⟨gf, 0, none⟩)] w (Told rSvc (VSvc w.heap.size g) w0 w g st) := by
  obtain ⟨B, hB0⟩ : ∃ o, o = Obj.cells #[.string ⟨#[]⟩, .slice none 0 0] 113 := ⟨_, rfl⟩
  have hbx := below_drew (below_alloc (Below.refl w.heap.size w) B)
  have hx := (blk_cell (hX.below hbx).1) 0
  have hy := (blk_cell (hG.below hbx).1) 0
  have HX := Aside0.mk (hX.below hbx)
  have HF := Aside0.mk (hF.below hbx)
  have HG := Aside0.mk (hG.below hbx)
  have hq : (w.alloc B).drew.heap[w.heap.size]? = some B := heap_last w B
  have HLE := Aside0.mk hB.size
  have HGB : Aside0 (gb ≠ w.heap.size) := ⟨by have := blk_lt hX.1; omega⟩
  have HFB : Aside0 (gf ≠ w.heap.size) := ⟨by have := blk_lt hG.1; omega⟩
  have HGN : Aside0 (g ≠ w.heap.size) := ⟨by have := hI.lt; omega⟩
  have HK0 := Aside0.mk (Only.below g hbx)
  have K := Aside0.mk (in_text_T g st w0 (w.alloc B).drew (hI.below hbx) (below_drew (below_alloc hB B)))
  subst hB0
  have HQ := Aside0.mk hq
  clear hI hB hX hF hG hbx hq
  go_enter Try.func79, Try.ntmps79
  go_wp2
  go_region_held3 (fun w' => w'.cell? ⟨gb, 0, none⟩ = some (.pointer (some ⟨g, 0, none⟩)) ∧ w'.cell? ⟨gf, 0, none⟩ = some (.func (.func 76) #[] #[.pointer (some ⟨gb, 0, none⟩), .pointer (some ⟨fb, 0, none⟩)])) (first | go_keep | exact ⟨(blk_cell ((far2 _ HGB.out _ _).trans HX2.out.1)) 0, (blk_cell ((far2 _ HFB.out _ _).trans HG2.out.1)) 0⟩)
    (first
      | (go_at_call 80; refine K.out.mono ?_; rintro e w1 ⟨v, x, st1, rfl, hv, hs, hi, hb, hk⟩; have hv' : v = .string x := hv; subst hv'; have HX1 := Aside0.mk (HX.out.only hk); have HF1 := Aside0.mk (HF.out.only hk); have HG1 := Aside0.mk (HG.out.only hk); have HQ1 := Aside0.mk ((hk.2 _ (blk_lt HQ.out) HGN.out.symm).trans HQ.out); have HK1 := Aside0.mk (HK0.out.trans hk); have HS1 := Aside0.mk hs; have K1 := Aside0.mk (things_rel_T g gb fb st1 w0 w1 hi HX1.out HF1.out hb); have hx1 := (blk_cell HX1.out.1) 0; have hy1 := (blk_cell HG1.out.1) 0; clear K hx hy HX HF HG HQ hv hs hi hb hk)
      | (go_at_call 81; refine K1.out.mono ?_; rintro e w2 ⟨v, y, st2, rfl, hr, hs, hi, hb, hk⟩; obtain ⟨A, c, rfl⟩ := Kd.R_slice hr; have HX2 := Aside0.mk (HX1.out.only hk); have HG2 := Aside0.mk (HG1.out.only hk); have HQ2 := Aside0.mk ((hk.2 _ (blk_lt HQ1.out) HGN.out.symm).trans HQ1.out); have HK2 := Aside0.mk (HK1.out.trans hk); have HS2 := Aside0.mk hs; have HI2 := Aside0.mk hi; have HB2 := Aside0.mk hb; have HR2 := Aside0.mk (Kd.R_lower (base' := w.heap.size) hr HK1.out.1); have hx2 := (blk_cell HX2.out.1) 0; have hy2 := (blk_cell HG2.out.1) 0; have hq0 := (blk_cell HQ2.out) 0; have hq1 := (blk_cell HQ2.out) 1; have hz0 := free_of HQ2.out 0; have hz1 := free_of HQ2.out 1; clear K1 hx1 hy1 HX1 HF1 HG1 HQ1 hr hs hi hb hk))
  go_wp2
  refine bodyPost_ret (v := .agg #[.string x, .slice A y.length c]) (by simp [results, Try.results79, go_sem, hq0, hq1]) rfl ?_
  exact ⟨_, (x, y), st2, rfl, ⟨A, c, rfl, Kd.R_turned HR2.out HQ2.out (by decide) (fun k hk => far2 _ hk _ _)⟩, Step.bind HS1.out (Step.map (f := fun b => (x, b)) HS2.out), HI2.out.turned HGN.out (fun k hk => far2 _ hk _ _), (HB2.out.setCell (p := ⟨w.heap.size, 0, none⟩) HLE.out _).setCell (p := ⟨w.heap.size, 1, none⟩) HLE.out _, HK2.out.turned (Nat.le_refl _) (by simp) (fun k hk => far2 _ hk _ _)⟩
theorem info_svc : (Try.prog.info? 113).map (fun i => (i.zero, i.size, i.bytes)) = some (some (.agg #[.string ⟨#[]⟩, .slice none 0 0]), 2, 40) := by kernel_rfl
set_option maxHeartbeats 8000000 in
set_option maxRecDepth 20000 in
theorem things_svc_T (g gb fb gf : Nat) (st : St) (w0 w : World) (hI : IP w0 w g st) (hX : BXI w gb g) (hF : BXF w fb (.func (.func 75) #[] #[.pointer (some ⟨gb, 0, none⟩)]) 159 g) (hG : BXF w gf (.func (.func 76) #[] #[.pointer (some ⟨gb, 0, none⟩), .pointer (some ⟨fb, 0, none⟩)]) 162 g) (hB : Below w0.heap.size w0 w) :
    Calls Try.prog 83 #[.pointer (some ⟨g, 0, none⟩), .func (.func 79) #[] #[.pointer (some ⟨gb, 0, none⟩), .pointer (some ⟨gf, 0, none⟩)]] w (Told (rlist rSvc) (VRow kSvc 113 w.heap.size g) w0 w g st) := by
  have K := Aside0.mk (in_size_T g st w0 w hI hB)
  have HX := Aside0.mk hX
  have HF := Aside0.mk hF
  have HGF := Aside0.mk hG
  have HW := Aside0.mk hB.size
  clear hI hB hX hF hG
  go_enter Try.func83, Try.ntmps83
  go_wp2_with (fail)
  refine K.out.mono ?_
  rintro e w1 ⟨m, bs1, e1, st1, rfl, hm, hs, hi, hrep, hby, hbl, hb, hk⟩
  have HM : Aside0 (m ≤ 1000000000) := ⟨by omega⟩
  have HS := Aside0.mk hs
  have HI : Aside0 (IP w0 w1 g st1) := ⟨_, _, hi, hrep, hby, hbl⟩
  have HB := Aside0.mk hb
  have HK := Aside0.mk hk
  clear hm hs hi hrep hby hbl hb hk K
  go_wp2
  go_loopg [5, 8] m (fun kq v5 v8 w' => ∃ (i : Nat) (out : List Svc) (s : St), v8 = .int .i64 (i : Int) ∧ Aside0 (i + kq = m) ∧ Aside0 (out.length = i) ∧ Aside0 (Goes rSvc m st1 kq out s) ∧ Aside0 (IP w0 w' g s) ∧ Aside0 (Kd.R kSvc 113 w' w.heap.size (fun k => k ≠ g) v5 out) ∧ Aside0 (Below w0.heap.size w0 w') ∧ Aside0 (Only w w' g))
  case atStart => exact ⟨0, [], st1, rfl, ⟨by omega⟩, ⟨rfl⟩, ⟨Goes.start _ _ _⟩, HI, ⟨Kd.R_nil _ _ _ _ _⟩, HB, HK⟩
  case round =>
    clear HI HB HK
    obtain ⟨i, out, s, rfl, HJ, HOL, HG, HI, HO, HB, HK⟩ := hrel
    obtain ⟨ee, hc1, hee⟩ := HI.out.ecell
    have HEE := Aside0.mk hee
    clear hee
    cases gk with
    | zero =>
      have e1 : decide (i < m) = false := decide_eq_false (by have := HJ.out; omega)
      go_wp2
      go_ret
      exact ⟨_, out, s, rfl, HO.out, Step.list HS.out (HG.out.done), HI.out, HB.out, HK.out⟩
    | succ gk =>
      have e1 : decide (i < m) = true := decide_eq_true (by have := HJ.out; omega)
      have e5 : wrap64 ((i : Int) + 1) = ((i + 1 : Nat) : Int) := by have := HJ.out; have := HM.out; unfold wrap64; omega
      rcases HEE.out with ⟨he, bs, rfl⟩ | ⟨he, rfl⟩
      · have h0 : (ee == 0) = true := beq_iff_eq.2 he
        have h1 : (ee != 0) = false := bne_eq_false_iff_eq.2 he
        have K := Aside0.mk (svc2_T g gb fb gf _ w0 wr HI.out (HX.out.only HK.out) (HF.out.only HK.out) (HGF.out.only HK.out) HB.out)
        have HLE := Aside0.mk HK.out.1
        clear he
        go_wp2_with (fail)
        refine K.out.mono ?_
        rintro e w2 ⟨v, x, s2, rfl, hv, hs, hi, hb, hk⟩
        have HO1 := Aside0.mk (R_only HO.out hk)
        have HI1 := Aside0.mk hi
        have HB1 := Aside0.mk hb
        have HK1 := Aside0.mk (HK.out.trans hk)
        have HS1 := Aside0.mk hs
        have HFR : Aside0 (∀ k, w2.heap.size ≤ k → k ≠ g) := ⟨fun k hk => by have := hi.lt; omega⟩
        obtain ⟨Ae, ce, rfl, hr⟩ := hv
        have hm : kSvc.M w2 w.heap.size (fun k => k ≠ g) x [.string x.1, .slice Ae x.2.length ce] := ⟨[_], [_], rfl, rfl, ⟨_, rfl, Kd.R_lower hr HLE.out⟩⟩
        clear hr
        have HV := Aside0.mk (Kd.M_apart hm HO1.out (by decide))
        clear hi hb hk hs K hm
        go_wp2_with (first | ((with_reducible refine gate_dst (N := 18) rfl ?_); refine Kd.R_lit kSvc (w0 := w2) w.heap.size 113 ?hg (N := 18) ?hd (xs := [x]) (inner := [.string x.1, .slice Ae x.2.length ce]) (ok := fun k => k ≠ g ∧ some k ≠ u5.ownBlock) (okp := fun k => k ≠ g ∧ some k ≠ u5.ownBlock) ?hr ?hp (fun _ hk => hk) ⟨HFR.out _ (Nat.le_refl _), Kd.R_fresh HO1.out⟩ (Below.refl _ _) HK1.out.1 (by simp) ?_; (case hd => rfl); (case hg => rfl); (case hr => first | (go_simp; done) | (go_simp; rfl)); (case hp => exact reps1 HV.out rfl); intro v43 w7 ho hb hg_ hnew_; obtain ⟨A43, c43, rfl, hcl43, hC43⟩ := OwnRow.reads ho.2; have HC43 := Aside0.mk hC43; have HO2 := Aside0.mk (Kd.R_grown HO1.out hg_ (fun _ _ => by simp)); have HI2 := Aside0.mk (HI1.out.grown hg_ (by simp)); have HB2 := Aside0.mk (HB1.out.trans (hb.mono HW.out)); have HK2 := Aside0.mk (HK1.out.belowG hb hg_.size); have HFR2 : Aside0 (∀ k, w7.heap.size ≤ k → k ≠ g) := ⟨fun k hk => HFR.out k (Nat.le_trans hg_.size hk)⟩; clear ho hb hC43 hcl43 hg_ hnew_) | ((with_reducible refine gate_builtin (b := .append) (xs := #[.tmp 15, .tmp 18]) rfl ?_); at_builtin; refine Kd.R_append_rows kSvc (w0 := w7) w.heap.size rfl (.tmp 15) (.tmp 18) 59 113 (.agg #[.string ⟨#[]⟩, .slice none 0 0]) 40 rfl Try.underlying59 info_svc rfl (by decide) (by decide) u5 out [x] A43 1 c43 (fun k => k ≠ g) _ rfl rfl HO2.out HC43.out (fun _ _ h => h) (fun k hk => ⟨hk.1.1, hk.1.2⟩) HFR2.out (Below.refl _ _) HK2.out.1 (by have := HOL.out; have := HJ.out; have := HM.out; omega) ?_; intro v44 w8 ho hb hgr hat; have HO3 := Aside0.mk ho; have HB3 := Aside0.mk (HB2.out.trans (hb.mono HW.out)); have HI3 := Aside0.mk (HI2.out.grown hgr (Kd.R_away HO2.out (fun k hk => hk))); have HK3 := Aside0.mk (HK2.out.belowG hb hgr.size); clear ho hb hgr hat))
        go_roundg gk
        case measure => omega
        case rel => exact ⟨i + 1, out ++ [x], s2, (by first | exact congrArg _ e5 | rfl), ⟨by have := HJ.out; omega⟩, ⟨by simp [HOL.out]⟩, ⟨HG.out.next HS1.out⟩, HI3, HO3, HB3, HK3⟩
      · have h0 : (ee == 0) = false := beq_eq_false_iff_ne.2 he
        have h1 : (ee != 0) = true := bne_iff_ne.2 he
        clear he
        go_wp2
        go_ret
        exact ⟨_, [], _, rfl, Kd.R_nil _ _ _ _ _, Step.list HS.out (HG.out.fails []), HI.out, HB.out, HK.out⟩
end Go.Proofs.Ythefbeekcjchcaa.P
