import Derived.Test.YthefbeekcjchcaaIP
import Derived.Test.YthefbeekcjchcaaPutPlan
import Derived.Deep.RegionHeld3
namespace Go.Proofs.Ythefbeekcjchcaa.P
open Go Go.RowKit Go.Proofs.YthefbeekcjchcaaW.PrintWords Go.Proofs.YthefbeekcjchcaaW.PrintLast Go.Proofs.YthefbeekcjchcaaW.PrintMore
set_option linter.unusedVariables false
set_option linter.unusedSimpArgs false
def kStp : Kd Stp := Kd.pair (Kd.int .i64) (Kd.int .i64)
def VStp (v : Value) (x : Stp) (_ : World) : Prop := v = .agg #[.int .i64 x.1, .int .i64 x.2]
def VRow {α : Type} (d : Kd α) (e : Nat) (base g : Nat) (v : Value) (xs : List α) (w : World) : Prop := d.R e w base (fun k => k ≠ g) v xs
/-- A variable that a literal holds, with the place of what is read. -/
def BXI (w : World) (gb g : Nat) : Prop := w.heap[gb]? = some (.cells #[.pointer (some ⟨g, 0, none⟩)] 96 (0, 0)) ∧ gb ≠ g
theorem BXI.below {w w1 : World} {gb g : Nat} (h : BXI w gb g) (hb : Below w.heap.size w w1) : BXI w1 gb g := ⟨(hb.block gb (blk_lt h.1)).trans h.1, h.2⟩
theorem BXI.only {w w1 : World} {gb g : Nat} (h : BXI w gb g) (hk : Only w w1 g) : BXI w1 gb g := ⟨(hk.2 gb (blk_lt h.1) h.2).trans h.1, h.2⟩
theorem Only.belowG {w w1 w2 : World} {g : Nat} (h : Only w w1 g) (hb : Below w.heap.size w1 w2) (hs : w1.heap.size ≤ w2.heap.size) : Only w w2 g := ⟨Nat.le_trans h.1 hs, fun k hk hg => (hb.block k hk).trans (h.2 k hk hg)⟩
theorem Step.list {α : Type} {p : Rdr α} {st st1 st2 : St} {n : Nat} {xs : List α} (h : Step rsize st (n : Int) st1) (h2 : Step (rmany p n) st1 xs st2) : Step (rlist p) st xs st2 := by
  refine Step.bind h ?_
  rwa [Int.toNat_natCast]
theorem Kd.M_apart {α : Type} {d : Kd α} {w : World} {base base' e : Nat} {ok ok' : Nat → Prop} {x : α} {cs : List Value} {v : Value} {xs : List α} (h : d.M w base ok x cs) (HO : d.R e w base' ok' v xs) (he : e ∉ d.E) : d.M w base (fun k => ok k ∧ some k ≠ v.ownBlock) x cs :=
  d.M_mono (fun k hk => ⟨hk.1, fun e' => by
    obtain ⟨_, _, _, q, hq, cells, hc⟩ := hk
    obtain ⟨inner, ho⟩ := Kd.R_own HO
    obtain ⟨cells', hc'⟩ := own_typed ho k e'.symm
    rw [hc] at hc'
    cases hc'
    exact he hq⟩) (d.M_bound h)
theorem Kd.R_fresh {α : Type} {d : Kd α} {w : World} {base e : Nat} {ok : Nat → Prop} {v : Value} {xs : List α} (HO : d.R e w base ok v xs) : some w.heap.size ≠ v.ownBlock := fun e' => by
  obtain ⟨inner, ho⟩ := Kd.R_own HO
  have := own_lt ho _ e'.symm
  omega
theorem BXI.set2 {w : World} {gb g b : Nat} (h : BXI w gb g) (hb : gb ≠ b) (u v : Value) : ((w.setCell ⟨b, 0, none⟩ u).setCell ⟨b, 1, none⟩ v).cell? ⟨gb, 0, none⟩ = some (.pointer (some ⟨g, 0, none⟩)) :=
  (blk_cell (((Below.heap_setCell _ ⟨b, 1, none⟩ v gb hb).trans (Below.heap_setCell _ ⟨b, 0, none⟩ u gb hb)).trans h.1)) 0
theorem IP.far {w0 w : World} {g b : Nat} {st : St} (h : IP w0 w g st) (hb : b ≠ g) (o : Nat) (v : Value) : IP w0 (w.setCell ⟨b, o, none⟩ v) g st := by
  obtain ⟨bs, e, ⟨A, c, h1, r⟩, h2⟩ := h
  exact ⟨bs, e, ⟨A, c, (Below.heap_setCell w ⟨b, o, none⟩ v g hb.symm).trans h1, r⟩, h2⟩
theorem Only.far {w w1 : World} {g b : Nat} (h : Only w w1 g) (hb : w.heap.size ≤ b) (o : Nat) (v : Value) : Only w (w1.setCell ⟨b, o, none⟩ v) g :=
  ⟨by simp only [World.size_setCell]; exact h.1, fun k hk hg => (Below.heap_setCell w1 ⟨b, o, none⟩ v k (fun e => by have e' : k = b := e; omega)).trans (h.2 k hk hg)⟩
theorem reps1 {α : Type} {R : α → List Value → Prop} {size : Nat} {p : α} {c : List Value} (hp : R p c) (hc : c.length = size) : Reps R size [p] c := Reps.snoc (Reps.none R size) hp hc
set_option maxHeartbeats 4000000 in
set_option maxRecDepth 20000 in
theorem stp2_T (g gb : Nat) (st : St) (w0 w : World) (hI : IP w0 w g st) (hX : BXI w gb g) (hB : Below w0.heap.size w0 w) :
    Calls Try.prog 48 #[.pointer (some ⟨gb, 0, none⟩)] w (Told rStp VStp w0 w g st) := by
  obtain ⟨B, hB0⟩ : ∃ o, o = Obj.cells #[.int .i64 0, .int .i64 0] 51 := ⟨_, rfl⟩
  have hbx := below_drew (below_alloc (Below.refl w.heap.size w) B)
  have hx := (blk_cell (hX.below hbx).1) 0
  have HX := Aside0.mk (hX.below hbx)
  have hq : (w.alloc B).drew.heap[w.heap.size]? = some B := heap_last w B
  have HLE := Aside0.mk hB.size
  have HGB : Aside0 (gb ≠ w.heap.size) := ⟨by have := blk_lt hX.1; omega⟩
  have HGN : Aside0 (g ≠ w.heap.size) := ⟨by have := hI.lt; omega⟩
  have HK0 := Aside0.mk (Only.below g hbx)
  have K := Aside0.mk (in_num_T g st w0 (w.alloc B).drew (hI.below hbx) (below_drew (below_alloc hB B)))
  have HWS : Aside0 (w.heap.size < (w.alloc B).drew.heap.size) := ⟨by show w.heap.size < (w.alloc B).heap.size; rw [World.size_alloc]; omega⟩
  subst hB0
  have HQ := Aside0.mk hq
  clear hI hB hX hbx hq
  go_enter Try.func48, Try.ntmps48
  go_wp2
  go_region_held3 (fun w' => w'.cell? ⟨gb, 0, none⟩ = some (.pointer (some ⟨g, 0, none⟩))) (first | go_keep | exact BXI.set2 HX2.out HGB.out _ _)
    (first
      | (go_at_call 49; refine K.out.mono ?_; rintro e w1 ⟨v, x, st1, rfl, hv, hs, hi, hb, hk⟩; have hv' : v = .int .i64 x := hv; subst hv'; have HX1 := Aside0.mk (HX.out.only hk); have HQ1 := Aside0.mk ((hk.2 _ HWS.out (fun e => HGN.out e.symm)).trans HQ.out); have HK1 := Aside0.mk (HK0.out.trans hk); have HS1 := Aside0.mk hs; have K1 := Aside0.mk (in_num_T g st1 w0 w1 hi hb); have hx1 := (blk_cell HX1.out.1) 0; have HWS1 : Aside0 (w.heap.size < w1.heap.size) := ⟨Nat.lt_of_lt_of_le HWS.out hk.1⟩; clear K hx HX HQ hv hs hi hb hk)
      | (go_at_call 49; refine K1.out.mono ?_; rintro e w2 ⟨v, y, st2, rfl, hv, hs, hi, hb, hk⟩; have hv' : v = .int .i64 y := hv; subst hv'; have HX2 := Aside0.mk (HX1.out.only hk); have HQ2 := Aside0.mk ((hk.2 _ HWS1.out (fun e => HGN.out e.symm)).trans HQ1.out); have HK2 := Aside0.mk (HK1.out.trans hk); have HS2 := Aside0.mk hs; have HI2 := Aside0.mk hi; have HB2 := Aside0.mk hb; have hx2 := (blk_cell HX2.out.1) 0; have hq0 := (blk_cell HQ2.out) 0; have hq1 := (blk_cell HQ2.out) 1; have hz0 := free_of HQ2.out 0; have hz1 := free_of HQ2.out 1; clear K1 hx1 HX1 HQ1 hv hs hi hb hk))
  go_wp2
  have HWW := HK2.out.1
  exact bodyPost_ret (v := .agg #[.int .i64 x, .int .i64 y]) (by simp [results, Try.results48, go_sem, hq0, hq1]) rfl ⟨_, (x, y), st2, rfl, rfl, Step.bind HS1.out (Step.map (f := fun b => (x, b)) HS2.out), (HI2.out.far HGN.out.symm _ _).far HGN.out.symm _ _, (HB2.out.setCell (p := ⟨w.heap.size, 0, none⟩) HLE.out _).setCell (p := ⟨w.heap.size, 1, none⟩) HLE.out _, (HK2.out.far (Nat.le_refl _) _ _).far (Nat.le_refl _) _ _⟩
theorem info_stp : (Try.prog.info? 51).map (fun i => (i.zero, i.size, i.bytes)) = some (some (.agg #[.int .i64 0, .int .i64 0]), 2, 16) := by kernel_rfl
set_option maxHeartbeats 8000000 in
set_option maxRecDepth 20000 in
theorem things_stp_T (g gb : Nat) (st : St) (w0 w : World) (hI : IP w0 w g st) (hX : BXI w gb g) (hB : Below w0.heap.size w0 w) :
    Calls Try.prog 52 #[.pointer (some ⟨g, 0, none⟩), .func (.func 48) #[] #[.pointer (some ⟨gb, 0, none⟩)]] w (Told (rlist rStp) (VRow kStp 51 w.heap.size g) w0 w g st) := by
  have K := Aside0.mk (in_size_T g st w0 w hI hB)
  have HX := Aside0.mk hX
  have HW := Aside0.mk hB.size
  clear hI hB hX
  go_enter Try.func52, Try.ntmps52
  go_wp2_with (fail)
  refine K.out.mono ?_
  rintro e w1 ⟨m, bs1, e1, st1, rfl, hm, hs, hi, hrep, hby, hbl, hb, hk⟩
  have HM : Aside0 (m ≤ 1000000000) := ⟨by omega⟩
  have HS := Aside0.mk hs
  have HI : Aside0 (IP w0 w1 g st1) := ⟨_, _, hi, hrep, hby, hbl⟩
  have HB := Aside0.mk hb
  have HK := Aside0.mk hk
  clear hm hs hi hrep hby hbl hb hk K
  go_wp2
  go_loopg [5, 8] m (fun kq v5 v8 w' => ∃ (i : Nat) (out : List Stp) (s : St), v8 = .int .i64 (i : Int) ∧ Aside0 (i + kq = m) ∧ Aside0 (out.length = i) ∧ Aside0 (Goes rStp m st1 kq out s) ∧ Aside0 (IP w0 w' g s) ∧ Aside0 (Kd.R kStp 51 w' w.heap.size (fun k => k ≠ g) v5 out) ∧ Aside0 (Below w0.heap.size w0 w') ∧ Aside0 (Only w w' g))
  case atStart => exact ⟨0, [], st1, rfl, ⟨by omega⟩, ⟨rfl⟩, ⟨Goes.start _ _ _⟩, HI, ⟨Kd.R_nil _ _ _ _ _⟩, HB, HK⟩
  case round =>
    clear HI HB HK
    obtain ⟨i, out, s, rfl, HJ, HOL, HG, HI, HO, HB, HK⟩ := hrel
    obtain ⟨ee, hc1, hee⟩ := HI.out.ecell
    have HEE := Aside0.mk hee
    clear hee
    cases gk with
    | zero =>
      have e1 : decide (i < m) = false := decide_eq_false (by have := HJ.out; omega)
      go_wp2
      go_ret
      exact ⟨_, out, s, rfl, HO.out, Step.list HS.out (HG.out.done), HI.out, HB.out, HK.out⟩
    | succ gk =>
      have e1 : decide (i < m) = true := decide_eq_true (by have := HJ.out; omega)
      have e5 : wrap64 ((i : Int) + 1) = ((i + 1 : Nat) : Int) := by have := HJ.out; have := HM.out; unfold wrap64; omega
      rcases HEE.out with ⟨he, bs, rfl⟩ | ⟨he, rfl⟩
      · have h0 : (ee == 0) = true := beq_iff_eq.2 he
        have h1 : (ee != 0) = false := bne_eq_false_iff_eq.2 he
        have K := Aside0.mk (stp2_T g gb _ w0 wr HI.out (HX.out.only HK.out) HB.out)
        have HLE := Aside0.mk HK.out.1
        clear he
        go_wp2_with (fail)
        refine K.out.mono ?_
        rintro e w2 ⟨v, x, s2, rfl, hv, hs, hi, hb, hk⟩
        have HO1 := Aside0.mk (R_only HO.out hk)
        have HI1 := Aside0.mk hi
        have HB1 := Aside0.mk hb
        have HK1 := Aside0.mk (HK.out.trans hk)
        have HS1 := Aside0.mk hs
        have HFR : Aside0 (∀ k, w2.heap.size ≤ k → k ≠ g) := ⟨fun k hk => by have := hi.lt; omega⟩
        have hv' : v = .agg #[.int .i64 x.1, .int .i64 x.2] := hv
        subst hv'
        have hm : kStp.M w2 w.heap.size (fun k => k ≠ g) x [.int .i64 x.1, .int .i64 x.2] := ⟨[_], [_], rfl, rfl, rfl⟩
        clear hv
        have HV := Aside0.mk (Kd.M_apart hm HO1.out (by decide))
        clear hi hb hk hs K hm
        go_wp2_with (first | ((with_reducible refine gate_dst (N := 18) rfl ?_); refine Kd.R_lit kStp (w0 := w2) w.heap.size 51 ?hg (N := 18) ?hd (xs := [x]) (inner := [.int .i64 x.1, .int .i64 x.2]) (ok := fun k => k ≠ g ∧ some k ≠ u5.ownBlock) (okp := fun k => k ≠ g ∧ some k ≠ u5.ownBlock) ?hr ?hp (fun _ hk => hk) ⟨HFR.out _ (Nat.le_refl _), Kd.R_fresh HO1.out⟩ (Below.refl _ _) HK1.out.1 (by simp) ?_; (case hd => rfl); (case hg => rfl); (case hr => first | (go_simp; done) | (go_simp; rfl)); (case hp => exact reps1 HV.out rfl); intro v43 w7 ho hb hg_ hnew_; obtain ⟨A43, c43, rfl, hcl43, hC43⟩ := OwnRow.reads ho.2; have HC43 := Aside0.mk hC43; have HO2 := Aside0.mk (Kd.R_grown HO1.out hg_ (fun _ _ => by simp)); have HI2 := Aside0.mk (HI1.out.grown hg_ (by simp)); have HB2 := Aside0.mk (HB1.out.trans (hb.mono HW.out)); have HK2 := Aside0.mk (HK1.out.belowG hb hg_.size); have HFR2 : Aside0 (∀ k, w7.heap.size ≤ k → k ≠ g) := ⟨fun k hk => HFR.out k (Nat.le_trans hg_.size hk)⟩; clear ho hb hC43 hcl43 hg_ hnew_) | ((with_reducible refine gate_builtin (b := .append) (xs := #[.tmp 15, .tmp 18]) rfl ?_); at_builtin; refine Kd.R_append_rows kStp (w0 := w7) w.heap.size rfl (.tmp 15) (.tmp 18) 43 51 (.agg #[.int .i64 0, .int .i64 0]) 16 rfl Try.underlying43 info_stp rfl (by decide) (by decide) u5 out [x] A43 1 c43 (fun k => k ≠ g) _ rfl rfl HO2.out HC43.out (fun _ _ h => h) (fun k hk => ⟨hk.1.1, hk.1.2⟩) HFR2.out (Below.refl _ _) HK2.out.1 (by have := HOL.out; have := HJ.out; have := HM.out; omega) ?_; intro v44 w8 ho hb hgr hat; have HO3 := Aside0.mk ho; have HB3 := Aside0.mk (HB2.out.trans (hb.mono HW.out)); have HI3 := Aside0.mk (HI2.out.grown hgr (Kd.R_away HO2.out (fun k hk => hk))); have HK3 := Aside0.mk (HK2.out.belowG hb hgr.size); clear ho hb hgr hat))
        go_roundg gk
        case measure => omega
        case rel => exact ⟨i + 1, out ++ [x], s2, (by first | exact congrArg _ e5 | rfl), ⟨by have := HJ.out; omega⟩, ⟨by simp [HOL.out]⟩, ⟨HG.out.next HS1.out⟩, HI3, HO3, HB3, HK3⟩
      · have h0 : (ee == 0) = false := beq_eq_false_iff_ne.2 he
        have h1 : (ee != 0) = true := bne_iff_ne.2 he
        clear he
        go_wp2
        go_ret
        exact ⟨_, [], _, rfl, Kd.R_nil _ _ _ _ _, Step.list HS.out (HG.out.fails []), HI.out, HB.out, HK.out⟩
set_option maxHeartbeats 4000000 in
set_option maxRecDepth 20000 in
theorem pr2_T (g gb : Nat) (st : St) (w0 w : World) (hI : IP w0 w g st) (hX : BXI w gb g) (hB : Below w0.heap.size w0 w) :
    Calls Try.prog 50 #[.pointer (some ⟨gb, 0, none⟩)] w (Told rStp VStp w0 w g st) := by
  obtain ⟨B, hB0⟩ : ∃ o, o = Obj.cells #[.int .i64 0, .int .i64 0] 100 := ⟨_, rfl⟩
  have hbx := below_drew (below_alloc (Below.refl w.heap.size w) B)
  have hx := (blk_cell (hX.below hbx).1) 0
  have HX := Aside0.mk (hX.below hbx)
  have hq : (w.alloc B).drew.heap[w.heap.size]? = some B := heap_last w B
  have HLE := Aside0.mk hB.size
  have HGB : Aside0 (gb ≠ w.heap.size) := ⟨by have := blk_lt hX.1; omega⟩
  have HGN : Aside0 (g ≠ w.heap.size) := ⟨by have := hI.lt; omega⟩
  have HK0 := Aside0.mk (Only.below g hbx)
  have K := Aside0.mk (in_num_T g st w0 (w.alloc B).drew (hI.below hbx) (below_drew (below_alloc hB B)))
  have HWS : Aside0 (w.heap.size < (w.alloc B).drew.heap.size) := ⟨by show w.heap.size < (w.alloc B).heap.size; rw [World.size_alloc]; omega⟩
  subst hB0
  have HQ := Aside0.mk hq
  clear hI hB hX hbx hq
  go_enter Try.func50, Try.ntmps50
  go_wp2
  go_region_held3 (fun w' => w'.cell? ⟨gb, 0, none⟩ = some (.pointer (some ⟨g, 0, none⟩))) (first | go_keep | exact BXI.set2 HX2.out HGB.out _ _)
    (first
      | (go_at_call 49; refine K.out.mono ?_; rintro e w1 ⟨v, x, st1, rfl, hv, hs, hi, hb, hk⟩; have hv' : v = .int .i64 x := hv; subst hv'; have HX1 := Aside0.mk (HX.out.only hk); have HQ1 := Aside0.mk ((hk.2 _ HWS.out (fun e => HGN.out e.symm)).trans HQ.out); have HK1 := Aside0.mk (HK0.out.trans hk); have HS1 := Aside0.mk hs; have K1 := Aside0.mk (in_num_T g st1 w0 w1 hi hb); have hx1 := (blk_cell HX1.out.1) 0; have HWS1 : Aside0 (w.heap.size < w1.heap.size) := ⟨Nat.lt_of_lt_of_le HWS.out hk.1⟩; clear K hx HX HQ hv hs hi hb hk)
      | (go_at_call 49; refine K1.out.mono ?_; rintro e w2 ⟨v, y, st2, rfl, hv, hs, hi, hb, hk⟩; have hv' : v = .int .i64 y := hv; subst hv'; have HX2 := Aside0.mk (HX1.out.only hk); have HQ2 := Aside0.mk ((hk.2 _ HWS1.out (fun e => HGN.out e.symm)).trans HQ1.out); have HK2 := Aside0.mk (HK1.out.trans hk); have HS2 := Aside0.mk hs; have HI2 := Aside0.mk hi; have HB2 := Aside0.mk hb; have hx2 := (blk_cell HX2.out.1) 0; have hq0 := (blk_cell HQ2.out) 0; have hq1 := (blk_cell HQ2.out) 1; have hz0 := free_of HQ2.out 0; have hz1 := free_of HQ2.out 1; clear K1 hx1 HX1 HQ1 hv hs hi hb hk))
  go_wp2
  have HWW := HK2.out.1
  exact bodyPost_ret (v := .agg #[.int .i64 x, .int .i64 y]) (by simp [results, Try.results50, go_sem, hq0, hq1]) rfl ⟨_, (x, y), st2, rfl, rfl, Step.bind HS1.out (Step.map (f := fun b => (x, b)) HS2.out), (HI2.out.far HGN.out.symm _ _).far HGN.out.symm _ _, (HB2.out.setCell (p := ⟨w.heap.size, 0, none⟩) HLE.out _).setCell (p := ⟨w.heap.size, 1, none⟩) HLE.out _, (HK2.out.far (Nat.le_refl _) _ _).far (Nat.le_refl _) _ _⟩
theorem info_pr : (Try.prog.info? 100).map (fun i => (i.zero, i.size, i.bytes)) = some (some (.agg #[.int .i64 0, .int .i64 0]), 2, 16) := by kernel_rfl
set_option maxHeartbeats 8000000 in
set_option maxRecDepth 20000 in
theorem things_pr_T (g gb : Nat) (st : St) (w0 w : World) (hI : IP w0 w g st) (hX : BXI w gb g) (hB : Below w0.heap.size w0 w) :
    Calls Try.prog 53 #[.pointer (some ⟨g, 0, none⟩), .func (.func 50) #[] #[.pointer (some ⟨gb, 0, none⟩)]] w (Told (rlist rStp) (VRow kStp 100 w.heap.size g) w0 w g st) := by
  have K := Aside0.mk (in_size_T g st w0 w hI hB)
  have HX := Aside0.mk hX
  have HW := Aside0.mk hB.size
  clear hI hB hX
  go_enter Try.func53, Try.ntmps53
  go_wp2_with (fail)
  refine K.out.mono ?_
  rintro e w1 ⟨m, bs1, e1, st1, rfl, hm, hs, hi, hrep, hby, hbl, hb, hk⟩
  have HM : Aside0 (m ≤ 1000000000) := ⟨by omega⟩
  have HS := Aside0.mk hs
  have HI : Aside0 (IP w0 w1 g st1) := ⟨_, _, hi, hrep, hby, hbl⟩
  have HB := Aside0.mk hb
  have HK := Aside0.mk hk
  clear hm hs hi hrep hby hbl hb hk K
  go_wp2
  go_loopg [5, 8] m (fun kq v5 v8 w' => ∃ (i : Nat) (out : List Stp) (s : St), v8 = .int .i64 (i : Int) ∧ Aside0 (i + kq = m) ∧ Aside0 (out.length = i) ∧ Aside0 (Goes rStp m st1 kq out s) ∧ Aside0 (IP w0 w' g s) ∧ Aside0 (Kd.R kStp 100 w' w.heap.size (fun k => k ≠ g) v5 out) ∧ Aside0 (Below w0.heap.size w0 w') ∧ Aside0 (Only w w' g))
  case atStart => exact ⟨0, [], st1, rfl, ⟨by omega⟩, ⟨rfl⟩, ⟨Goes.start _ _ _⟩, HI, ⟨Kd.R_nil _ _ _ _ _⟩, HB, HK⟩
  case round =>
    clear HI HB HK
    obtain ⟨i, out, s, rfl, HJ, HOL, HG, HI, HO, HB, HK⟩ := hrel
    obtain ⟨ee, hc1, hee⟩ := HI.out.ecell
    have HEE := Aside0.mk hee
    clear hee
    cases gk with
    | zero =>
      have e1 : decide (i < m) = false := decide_eq_false (by have := HJ.out; omega)
      go_wp2
      go_ret
      exact ⟨_, out, s, rfl, HO.out, Step.list HS.out (HG.out.done), HI.out, HB.out, HK.out⟩
    | succ gk =>
      have e1 : decide (i < m) = true := decide_eq_true (by have := HJ.out; omega)
      have e5 : wrap64 ((i : Int) + 1) = ((i + 1 : Nat) : Int) := by have := HJ.out; have := HM.out; unfold wrap64; omega
      rcases HEE.out with ⟨he, bs, rfl⟩ | ⟨he, rfl⟩
      · have h0 : (ee == 0) = true := beq_iff_eq.2 he
        have h1 : (ee != 0) = false := bne_eq_false_iff_eq.2 he
        have K := Aside0.mk (pr2_T g gb _ w0 wr HI.out (HX.out.only HK.out) HB.out)
        have HLE := Aside0.mk HK.out.1
        clear he
        go_wp2_with (fail)
        refine K.out.mono ?_
        rintro e w2 ⟨v, x, s2, rfl, hv, hs, hi, hb, hk⟩
        have HO1 := Aside0.mk (R_only HO.out hk)
        have HI1 := Aside0.mk hi
        have HB1 := Aside0.mk hb
        have HK1 := Aside0.mk (HK.out.trans hk)
        have HS1 := Aside0.mk hs
        have HFR : Aside0 (∀ k, w2.heap.size ≤ k → k ≠ g) := ⟨fun k hk => by have := hi.lt; omega⟩
        have hv' : v = .agg #[.int .i64 x.1, .int .i64 x.2] := hv
        subst hv'
        have hm : kStp.M w2 w.heap.size (fun k => k ≠ g) x [.int .i64 x.1, .int .i64 x.2] := ⟨[_], [_], rfl, rfl, rfl⟩
        clear hv
        have HV := Aside0.mk (Kd.M_apart hm HO1.out (by decide))
        clear hi hb hk hs K hm
        go_wp2_with (first | ((with_reducible refine gate_dst (N := 18) rfl ?_); refine Kd.R_lit kStp (w0 := w2) w.heap.size 100 ?hg (N := 18) ?hd (xs := [x]) (inner := [.int .i64 x.1, .int .i64 x.2]) (ok := fun k => k ≠ g ∧ some k ≠ u5.ownBlock) (okp := fun k => k ≠ g ∧ some k ≠ u5.ownBlock) ?hr ?hp (fun _ hk => hk) ⟨HFR.out _ (Nat.le_refl _), Kd.R_fresh HO1.out⟩ (Below.refl _ _) HK1.out.1 (by simp) ?_; (case hd => rfl); (case hg => rfl); (case hr => first | (go_simp; done) | (go_simp; rfl)); (case hp => exact reps1 HV.out rfl); intro v43 w7 ho hb hg_ hnew_; obtain ⟨A43, c43, rfl, hcl43, hC43⟩ := OwnRow.reads ho.2; have HC43 := Aside0.mk hC43; have HO2 := Aside0.mk (Kd.R_grown HO1.out hg_ (fun _ _ => by simp)); have HI2 := Aside0.mk (HI1.out.grown hg_ (by simp)); have HB2 := Aside0.mk (HB1.out.trans (hb.mono HW.out)); have HK2 := Aside0.mk (HK1.out.belowG hb hg_.size); have HFR2 : Aside0 (∀ k, w7.heap.size ≤ k → k ≠ g) := ⟨fun k hk => HFR.out k (Nat.le_trans hg_.size hk)⟩; clear ho hb hC43 hcl43 hg_ hnew_) | ((with_reducible refine gate_builtin (b := .append) (xs := #[.tmp 15, .tmp 18]) rfl ?_); at_builtin; refine Kd.R_append_rows kStp (w0 := w7) w.heap.size rfl (.tmp 15) (.tmp 18) 44 100 (.agg #[.int .i64 0, .int .i64 0]) 16 rfl Try.underlying44 info_pr rfl (by decide) (by decide) u5 out [x] A43 1 c43 (fun k => k ≠ g) _ rfl rfl HO2.out HC43.out (fun _ _ h => h) (fun k hk => ⟨hk.1.1, hk.1.2⟩) HFR2.out (Below.refl _ _) HK2.out.1 (by have := HOL.out; have := HJ.out; have := HM.out; omega) ?_; intro v44 w8 ho hb hgr hat; have HO3 := Aside0.mk ho; have HB3 := Aside0.mk (HB2.out.trans (hb.mono HW.out)); have HI3 := Aside0.mk (HI2.out.grown hgr (Kd.R_away HO2.out (fun k hk => hk))); have HK3 := Aside0.mk (HK2.out.belowG hb hgr.size); clear ho hb hgr hat))
        go_roundg gk
        case measure => omega
        case rel => exact ⟨i + 1, out ++ [x], s2, (by first | exact congrArg _ e5 | rfl), ⟨by have := HJ.out; omega⟩, ⟨by simp [HOL.out]⟩, ⟨HG.out.next HS1.out⟩, HI3, HO3, HB3, HK3⟩
      · have h0 : (ee == 0) = false := beq_eq_false_iff_ne.2 he
        have h1 : (ee != 0) = true := bne_iff_ne.2 he
        clear he
        go_wp2
        go_ret
        exact ⟨_, [], _, rfl, Kd.R_nil _ _ _ _ _, Step.list HS.out (HG.out.fails []), HI.out, HB.out, HK.out⟩
theorem info_num : (Try.prog.info? 3).map (fun i => (i.zero, i.size, i.bytes)) = some (some (.int .i64 0), 1, 8) := by kernel_rfl
set_option maxHeartbeats 8000000 in
set_option maxRecDepth 20000 in
theorem things_num_T (g gb : Nat) (st : St) (w0 w : World) (hI : IP w0 w g st) (hX : BXI w gb g) (hB : Below w0.heap.size w0 w) :
    Calls Try.prog 89 #[.pointer (some ⟨g, 0, none⟩), .func (.func 49) #[.pointer (some ⟨g, 0, none⟩)] #[]] w (Told (rlist rnum) (VRow (Kd.int .i64) 3 w.heap.size g) w0 w g st) := by
  have K := Aside0.mk (in_size_T g st w0 w hI hB)
  have HX := Aside0.mk hX
  have HW := Aside0.mk hB.size
  clear hI hB hX
  go_enter Try.func89, Try.ntmps89
  go_wp2_with (fail)
  refine K.out.mono ?_
  rintro e w1 ⟨m, bs1, e1, st1, rfl, hm, hs, hi, hrep, hby, hbl, hb, hk⟩
  have HM : Aside0 (m ≤ 1000000000) := ⟨by omega⟩
  have HS := Aside0.mk hs
  have HI : Aside0 (IP w0 w1 g st1) := ⟨_, _, hi, hrep, hby, hbl⟩
  have HB := Aside0.mk hb
  have HK := Aside0.mk hk
  clear hm hs hi hrep hby hbl hb hk K
  go_wp2
  go_loopg [5, 8] m (fun kq v5 v8 w' => ∃ (i : Nat) (out : List Int) (s : St), v8 = .int .i64 (i : Int) ∧ Aside0 (i + kq = m) ∧ Aside0 (out.length = i) ∧ Aside0 (Goes rnum m st1 kq out s) ∧ Aside0 (IP w0 w' g s) ∧ Aside0 (Kd.R (Kd.int .i64) 3 w' w.heap.size (fun k => k ≠ g) v5 out) ∧ Aside0 (Below w0.heap.size w0 w') ∧ Aside0 (Only w w' g))
  case atStart => exact ⟨0, [], st1, rfl, ⟨by omega⟩, ⟨rfl⟩, ⟨Goes.start _ _ _⟩, HI, ⟨Kd.R_nil _ _ _ _ _⟩, HB, HK⟩
  case round =>
    clear HI HB HK
    obtain ⟨i, out, s, rfl, HJ, HOL, HG, HI, HO, HB, HK⟩ := hrel
    obtain ⟨ee, hc1, hee⟩ := HI.out.ecell
    have HEE := Aside0.mk hee
    clear hee
    cases gk with
    | zero =>
      have e1 : decide (i < m) = false := decide_eq_false (by have := HJ.out; omega)
      go_wp2
      go_ret
      exact ⟨_, out, s, rfl, HO.out, Step.list HS.out (HG.out.done), HI.out, HB.out, HK.out⟩
    | succ gk =>
      have e1 : decide (i < m) = true := decide_eq_true (by have := HJ.out; omega)
      have e5 : wrap64 ((i : Int) + 1) = ((i + 1 : Nat) : Int) := by have := HJ.out; have := HM.out; unfold wrap64; omega
      rcases HEE.out with ⟨he, bs, rfl⟩ | ⟨he, rfl⟩
      · have h0 : (ee == 0) = true := beq_iff_eq.2 he
        have h1 : (ee != 0) = false := bne_eq_false_iff_eq.2 he
        have K := Aside0.mk (in_num_T g _ w0 wr HI.out HB.out)
        have HLE := Aside0.mk HK.out.1
        clear he
        go_wp2_with (fail)
        refine K.out.mono ?_
        rintro e w2 ⟨v, x, s2, rfl, hv, hs, hi, hb, hk⟩
        have HO1 := Aside0.mk (R_only HO.out hk)
        have HI1 := Aside0.mk hi
        have HB1 := Aside0.mk hb
        have HK1 := Aside0.mk (HK.out.trans hk)
        have HS1 := Aside0.mk hs
        have HFR : Aside0 (∀ k, w2.heap.size ≤ k → k ≠ g) := ⟨fun k hk => by have := hi.lt; omega⟩
        have hv' : v = .int .i64 x := hv
        subst hv'
        have hm : (Kd.int .i64).M w2 w.heap.size (fun k => k ≠ g) x [.int .i64 x] := rfl
        clear hv
        have HV := Aside0.mk (Kd.M_apart hm HO1.out (by decide))
        clear hi hb hk hs K hm
        go_wp2_with (first | ((with_reducible refine gate_dst (N := 18) rfl ?_); refine Kd.R_lit (Kd.int .i64) (w0 := w2) w.heap.size 3 ?hg (N := 18) ?hd (xs := [x]) (inner := [.int .i64 x]) (ok := fun k => k ≠ g ∧ some k ≠ u5.ownBlock) (okp := fun k => k ≠ g ∧ some k ≠ u5.ownBlock) ?hr ?hp (fun _ hk => hk) ⟨HFR.out _ (Nat.le_refl _), Kd.R_fresh HO1.out⟩ (Below.refl _ _) HK1.out.1 (by simp) ?_; (case hd => rfl); (case hg => rfl); (case hr => first | (go_simp; done) | (go_simp; rfl)); (case hp => exact reps1 HV.out rfl); intro v43 w7 ho hb hg_ hnew_; obtain ⟨A43, c43, rfl, hcl43, hC43⟩ := OwnRow.reads ho.2; have HC43 := Aside0.mk hC43; have HO2 := Aside0.mk (Kd.R_grown HO1.out hg_ (fun _ _ => by simp)); have HI2 := Aside0.mk (HI1.out.grown hg_ (by simp)); have HB2 := Aside0.mk (HB1.out.trans (hb.mono HW.out)); have HK2 := Aside0.mk (HK1.out.belowG hb hg_.size); have HFR2 : Aside0 (∀ k, w7.heap.size ≤ k → k ≠ g) := ⟨fun k hk => HFR.out k (Nat.le_trans hg_.size hk)⟩; clear ho hb hC43 hcl43 hg_ hnew_) | ((with_reducible refine gate_builtin (b := .append) (xs := #[.tmp 15, .tmp 18]) rfl ?_); at_builtin; refine Kd.R_append_rows (Kd.int .i64) (w0 := w7) w.heap.size rfl (.tmp 15) (.tmp 18) 22 3 (.int .i64 0) 8 rfl Try.underlying22 info_num rfl (by decide) (by decide) u5 out [x] A43 1 c43 (fun k => k ≠ g) _ rfl rfl HO2.out HC43.out (fun _ _ h => h) (fun k hk => ⟨hk.1.1, hk.1.2⟩) HFR2.out (Below.refl _ _) HK2.out.1 (by have := HOL.out; have := HJ.out; have := HM.out; omega) ?_; intro v44 w8 ho hb hgr hat; have HO3 := Aside0.mk ho; have HB3 := Aside0.mk (HB2.out.trans (hb.mono HW.out)); have HI3 := Aside0.mk (HI2.out.grown hgr (Kd.R_away HO2.out (fun k hk => hk))); have HK3 := Aside0.mk (HK2.out.belowG hb hgr.size); clear ho hb hgr hat))
        go_roundg gk
        case measure => omega
        case rel => exact ⟨i + 1, out ++ [x], s2, (by first | exact congrArg _ e5 | rfl), ⟨by have := HJ.out; omega⟩, ⟨by simp [HOL.out]⟩, ⟨HG.out.next HS1.out⟩, HI3, HO3, HB3, HK3⟩
      · have h0 : (ee == 0) = false := beq_eq_false_iff_ne.2 he
        have h1 : (ee != 0) = true := bne_iff_ne.2 he
        clear he
        go_wp2
        go_ret
        exact ⟨_, [], _, rfl, Kd.R_nil _ _ _ _ _, Step.list HS.out (HG.out.fails []), HI.out, HB.out, HK.out⟩
set_option maxHeartbeats 4000000 in
set_option maxRecDepth 20000 in
theorem in_ints_T (g gb : Nat) (st : St) (w0 w : World) (hI : IP w0 w g st) (hX : BXI w gb g) (hB : Below w0.heap.size w0 w) :
    Calls Try.prog 39 #[.pointer (some ⟨g, 0, none⟩)] w (Told (rlist rnum) (VRow (Kd.int .i64) 3 w.heap.size g) w0 w g st) := by
  have hmf : ∀ (fn : Fn) (first cap : Array Value) (w : World), (Instr.makeFunc fn first cap).run Try.prog w = .ok (.func fn first cap) w := fun _ _ _ _ => rfl
  have K := Aside0.mk (things_num_T g gb st w0 w hI hX hB)
  clear hI hX hB
  go_enter Try.func39, Try.ntmps39
  go_wp2_with (fail)
  refine K.out.mono ?_
  rintro e' w1 ⟨v, x, st1, rfl, hr, hs, hi, hb, hk⟩
  have HR := Aside0.mk hr
  have HI := Aside0.mk hi
  have HB := Aside0.mk hb
  have HK := Aside0.mk hk
  have HS := Aside0.mk hs
  clear hr hi hb hk hs K
  go_wp2
  go_ret
  exact ⟨v, x, st1, rfl, HR.out, HS.out, HI.out, HB.out, HK.out⟩
theorem in_end_T (g : Nat) (st : St) (w0 w : World) (hI : IP w0 w g st) (hB : Below w0.heap.size w0 w) :
    Calls Try.prog 88 #[.pointer (some ⟨g, 0, none⟩)] w fun e' w' => e' = .returned (.int .i64 st.fin) ∧ Below w0.heap.size w0 w' ∧ Only w w' g := by
  obtain ⟨bs, e, h1, h2, _, _⟩ := hI
  have hE : dend bs e = st.fin := by
    unfold dend
    rcases h2 with ⟨rfl, rfl⟩ | ⟨h, rfl⟩
    · cases bs with
      | nil => rfl
      | cons b bs => simp [St.fin]
    · rw [if_neg h]
      simp [St.fin]
  rw [← hE]
  exact (in_end_calls g bs e w0 w h1 hB).mono fun e' w' ⟨he, _, hb, hk⟩ => ⟨he, hb, hk⟩
set_option maxHeartbeats 4000000 in
set_option maxRecDepth 20000 in
theorem got_pln_T (g : Nat) (st : St) (A0 A1 A2 A3 : Option Addr) (n0 n1 n2 n3 c0 c1 c2 c3 : Nat) (w0 w : World) (hI : IP w0 w g st) (hB : Below w0.heap.size w0 w) :
    Calls Try.prog 51 #[.pointer (some ⟨g, 0, none⟩), .agg #[.slice A0 n0 c0, .slice A1 n1 c1, .slice A2 n2 c2, .slice A3 n3 c3]] w fun e' w' => ∃ cs, e' = .returned (.tuple #[.agg cs, .int .i64 st.fin]) ∧ cs = (if st.fin = 0 then #[.slice A0 n0 c0, .slice A1 n1 c1, .slice A2 n2 c2, .slice A3 n3 c3] else #[.slice none 0 0, .slice none 0 0, .slice none 0 0, .slice none 0 0]) ∧ Below w0.heap.size w0 w' ∧ Only w w' g := by
  obtain ⟨P, hP⟩ : ∃ o, o = Obj.cells #[.slice A0 n0 c0, .slice A1 n1 c1, .slice A2 n2 c2, .slice A3 n3 c3] 46 := ⟨_, rfl⟩
  obtain ⟨Z, hZ⟩ : ∃ o, o = Obj.cells #[.slice none 0 0, .slice none 0 0, .slice none 0 0, .slice none 0 0] 46 := ⟨_, rfl⟩
  have hbx := below_alloc (below_alloc (Below.refl w.heap.size w) P) Z
  have HK0 := Aside0.mk (Only.below g hbx)
  have hp := ((below_alloc (Below.refl _ (w.alloc P)) Z).block w.heap.size (by rw [World.size_alloc]; omega)).trans (heap_last w P)
  have hz := heap_last (w.alloc P) Z
  rw [World.size_alloc] at hz
  have HGN : Aside0 (g < w.heap.size) := ⟨hI.lt⟩
  have HLE := Aside0.mk hB.size
  have HWS : Aside0 (w.heap.size + 1 < ((w.alloc P).alloc Z).heap.size) := ⟨by rw [World.size_alloc, World.size_alloc]; omega⟩
  have K := Aside0.mk (in_end_T g st w0 ((w.alloc P).alloc Z) (hI.below hbx) (below_alloc (below_alloc hB P) Z))
  obtain ⟨E, hE⟩ : ∃ E, st.fin = E := ⟨_, rfl⟩
  rw [hE] at K ⊢
  subst hP hZ
  have HP := Aside0.mk hp
  have HZ := Aside0.mk hz
  clear hI hB hbx hp hz hE
  by_cases h : E = 0
  · rw [if_pos h]
    have h1 : (E == 0) = true := beq_iff_eq.2 h
    have h2 : (E != 0) = false := bne_eq_false_iff_eq.2 h
    have HE := Aside0.mk h
    clear h
    go_enter Try.func51, Try.ntmps51
    go_wp2_with (fail)
    refine K.out.mono ?_
    rintro e w1 ⟨rfl, hb, hk⟩
    have HB := Aside0.mk hb
    have HK := Aside0.mk (HK0.out.trans hk)
    have HP1 := Aside0.mk ((hk.2 w.heap.size (by have := HWS.out; omega) (by have := HGN.out; omega)).trans HP.out)
    have HZ1 := Aside0.mk ((hk.2 (w.heap.size + 1) HWS.out (by have := HGN.out; omega)).trans HZ.out)
    have hp0 := (blk_cell HP1.out) 0
    have hp1 := (blk_cell HP1.out) 1
    have hp2 := (blk_cell HP1.out) 2
    have hp3 := (blk_cell HP1.out) 3
    have hz0 := (blk_cell HZ1.out) 0
    have hz1 := (blk_cell HZ1.out) 1
    have hz2 := (blk_cell HZ1.out) 2
    have hz3 := (blk_cell HZ1.out) 3
    have hf0 := free_of HZ1.out 0
    have hf1 := free_of HZ1.out 1
    have hf2 := free_of HZ1.out 2
    have hf3 := free_of HZ1.out 3
    clear hb hk K
    go_wp2
    refine bodyPost_ret (v := .tuple #[.agg #[.slice A0 n0 c0, .slice A1 n1 c1, .slice A2 n2 c2, .slice A3 n3 c3], .int .i64 E]) (by simp [results, Try.results51, go_sem, hz0, hz1, hz2, hz3, HE.out]) rfl ⟨_, rfl, rfl, ?_, ?_⟩
    · exact (((HB.out.setCell (p := ⟨w.heap.size + 1, 0, none⟩) (by have := HLE.out; show _ ≤ w.heap.size + 1; omega) _).setCell (p := ⟨w.heap.size + 1, 1, none⟩) (by have := HLE.out; show _ ≤ w.heap.size + 1; omega) _).setCell (p := ⟨w.heap.size + 1, 2, none⟩) (by have := HLE.out; show _ ≤ w.heap.size + 1; omega) _).setCell (p := ⟨w.heap.size + 1, 3, none⟩) (by have := HLE.out; show _ ≤ w.heap.size + 1; omega) _
    · exact (((HK.out.far (by omega) _ _).far (by omega) _ _).far (by omega) _ _).far (by omega) _ _
  · rw [if_neg h]
    have h1 : (E == 0) = false := beq_eq_false_iff_ne.2 h
    have h2 : (E != 0) = true := bne_iff_ne.2 h
    clear h
    go_enter Try.func51, Try.ntmps51
    go_wp2_with (fail)
    refine K.out.mono ?_
    rintro e w1 ⟨rfl, hb, hk⟩
    have hb3 := below_alloc (Below.refl w1.heap.size w1) (Obj.cells #[.slice none 0 0, .slice none 0 0, .slice none 0 0, .slice none 0 0] 46)
    have HB := Aside0.mk (below_step hb hb3)
    have HK := Aside0.mk ((HK0.out.trans hk).trans (Only.below g hb3))
    have HZ1 := Aside0.mk ((hb3.block _ (blk_lt ((hk.2 (w.heap.size + 1) HWS.out (by have := HGN.out; omega)).trans HZ.out))).trans ((hk.2 (w.heap.size + 1) HWS.out (by have := HGN.out; omega)).trans HZ.out))
    have hz0 := (blk_cell HZ1.out) 0
    have hz1 := (blk_cell HZ1.out) 1
    have hz2 := (blk_cell HZ1.out) 2
    have hz3 := (blk_cell HZ1.out) 3
    have hf0 := free_of HZ1.out 0
    have hf1 := free_of HZ1.out 1
    have hf2 := free_of HZ1.out 2
    have hf3 := free_of HZ1.out 3
    clear hb hk K hb3
    go_wp2
    refine bodyPost_ret (v := .tuple #[.agg #[.slice none 0 0, .slice none 0 0, .slice none 0 0, .slice none 0 0], .int .i64 E]) (by simp [results, Try.results51, go_sem, hz0, hz1, hz2, hz3]) rfl ⟨_, rfl, rfl, ?_, ?_⟩
    · exact (((HB.out.setCell (p := ⟨w.heap.size + 1, 0, none⟩) (by have := HLE.out; show _ ≤ w.heap.size + 1; omega) _).setCell (p := ⟨w.heap.size + 1, 1, none⟩) (by have := HLE.out; show _ ≤ w.heap.size + 1; omega) _).setCell (p := ⟨w.heap.size + 1, 2, none⟩) (by have := HLE.out; show _ ≤ w.heap.size + 1; omega) _).setCell (p := ⟨w.heap.size + 1, 3, none⟩) (by have := HLE.out; show _ ≤ w.heap.size + 1; omega) _
    · exact (((HK.out.far (by omega) _ _).far (by omega) _ _).far (by omega) _ _).far (by omega) _ _
/-- What a whole reading says. -/
def finP {α : Type} (p : Rdr α) (bs : List Int) : Int := match p bs with
  | .error e => e
  | .ok (_, r) => if r = [] then 0 else 12
theorem IP.ne {w0 w : World} {g : Nat} {e : Int} (h : IP w0 w g (.err e)) : e ≠ 0 := by
  obtain ⟨bs, e', _, h2, _⟩ := h
  rcases h2 with ⟨_, h2⟩ | ⟨h1, h2⟩
  · cases h2
  · cases h2; exact h1
theorem Step.fin {α : Type} {p : Rdr α} {bs : List Int} {x : α} {st : St} (h : Step p (.left bs) x st) (hne : ∀ e, st = .err e → e ≠ 0) : st.fin = finP p bs ∧ (st.fin = 0 → p bs = .ok (x, [])) := by
  unfold finP
  rcases h.left with ⟨e, h1, rfl⟩ | ⟨r, h1, rfl⟩
  · rw [h1]
    exact ⟨rfl, fun h => absurd h (hne e rfl)⟩
  · rw [h1]
    refine ⟨rfl, fun h => ?_⟩
    simp only [St.fin] at h
    split at h
    · rename_i hr; rw [hr]
    · cases h
theorem got_pln_S (g : Nat) (st : St) (A0 A1 A2 A3 : Option Addr) (n0 n1 n2 n3 c0 c1 c2 c3 : Nat) (w0 w : World) (hI : IP w0 w g st) (hB : Below w0.heap.size w0 w) :
    Calls Try.prog 51 #[.pointer (some ⟨g, 0, none⟩), .agg #[.slice A0 n0 c0, .slice A1 n1 c1, .slice A2 n2 c2, .slice A3 n3 c3]] w fun e' w' => ∃ (B0 B1 B2 B3 : Option Addr) (m0 m1 m2 m3 d0 d1 d2 d3 : Nat), e' = .returned (.tuple #[.agg #[.slice B0 m0 d0, .slice B1 m1 d1, .slice B2 m2 d2, .slice B3 m3 d3], .int .i64 st.fin]) ∧ (st.fin = 0 → Value.slice B0 m0 d0 = .slice A0 n0 c0 ∧ Value.slice B1 m1 d1 = .slice A1 n1 c1 ∧ Value.slice B2 m2 d2 = .slice A2 n2 c2 ∧ Value.slice B3 m3 d3 = .slice A3 n3 c3) ∧ (st.fin ≠ 0 → Value.slice B0 m0 d0 = .slice none 0 0 ∧ Value.slice B1 m1 d1 = .slice none 0 0 ∧ Value.slice B2 m2 d2 = .slice none 0 0 ∧ Value.slice B3 m3 d3 = .slice none 0 0) ∧ Below w0.heap.size w0 w' ∧ Only w w' g := by
  refine (got_pln_T g st A0 A1 A2 A3 n0 n1 n2 n3 c0 c1 c2 c3 w0 w hI hB).mono fun e w' ⟨cs, he, hcs, hb, hk⟩ => ?_
  by_cases h : st.fin = 0
  · rw [if_pos h] at hcs
    subst hcs
    exact ⟨_, _, _, _, _, _, _, _, _, _, _, _, he, fun _ => ⟨rfl, rfl, rfl, rfl⟩, fun h' => absurd h h', hb, hk⟩
  · rw [if_neg h] at hcs
    subst hcs
    exact ⟨_, _, _, _, _, _, _, _, _, _, _, _, he, fun h' => absurd h' h, fun _ => ⟨rfl, rfl, rfl, rfl⟩, hb, hk⟩
theorem BXI.set4 {w : World} {gb g b : Nat} (h : BXI w gb g) (hb : gb ≠ b) (u v x y : Value) : ((((w.setCell ⟨b, 0, none⟩ u).setCell ⟨b, 1, none⟩ v).setCell ⟨b, 2, none⟩ x).setCell ⟨b, 3, none⟩ y).cell? ⟨gb, 0, none⟩ = some (.pointer (some ⟨g, 0, none⟩)) :=
  (blk_cell (((Below.heap_setCell _ ⟨b, 3, none⟩ y gb hb).trans ((Below.heap_setCell _ ⟨b, 2, none⟩ x gb hb).trans ((Below.heap_setCell _ ⟨b, 1, none⟩ v gb hb).trans (Below.heap_setCell _ ⟨b, 0, none⟩ u gb hb)))).trans h.1)) 0
theorem Kd.R_set4 {α : Type} {d : Kd α} {e : Nat} {w : World} {base : Nat} {ok : Nat → Prop} {v : Value} {xs : List α} {b t : Nat} {cells : Array Value} (h : d.R e w base ok v xs) (hb : w.heap[b]? = some (.cells cells t (0, 0))) (ht : ∀ q, q ∈ e :: d.E → q ≠ t) (u0 u1 u2 u3 : Value) : d.R e ((((w.setCell ⟨b, 0, none⟩ u0).setCell ⟨b, 1, none⟩ u1).setCell ⟨b, 2, none⟩ u2).setCell ⟨b, 3, none⟩ u3) base (fun _ => True) v xs :=
  Kd.R_mono (Kd.R_far (p := ⟨b, 3, none⟩) (Kd.R_far (p := ⟨b, 2, none⟩) (Kd.R_far (p := ⟨b, 1, none⟩) (Kd.R_far (p := ⟨b, 0, none⟩) (Kd.R_types h hb ht) (fun _ hk => hk.2) u0) (fun _ hk => hk.2) u1) (fun _ hk => hk.2) u2) (fun _ hk => hk.2) u3) (fun _ _ => trivial)
/-- What GetPlan comes to. -/
def PlanGot (bs : List Int) (w : World) (e : Ending) (w' : World) : Prop :=
  ∃ (x : Pln) (u0 u1 u2 u3 : Value), e = .returned (.tuple #[.agg #[u0, u1, u2, u3], .int .i64 (finP rPln bs)]) ∧ (Kd.int .i64).R 3 w' w.heap.size (fun _ => True) u0 x.1 ∧ (Kd.int .i64).R 3 w' w.heap.size (fun _ => True) u1 x.2.1 ∧ kStp.R 51 w' w.heap.size (fun _ => True) u2 x.2.2.1 ∧ kStp.R 100 w' w.heap.size (fun _ => True) u3 x.2.2.2 ∧
    (finP rPln bs = 0 → rPln bs = .ok (x, [])) ∧ (finP rPln bs ≠ 0 → x = ([], [], [], [])) ∧ Below w.heap.size w w'
set_option maxHeartbeats 8000000 in
set_option maxRecDepth 20000 in
theorem GetPlan_T (A : Option Addr) (c : Nat) (bs : List Int) (w : World) (hr : Kd.C (Kd.int .u8) w A bs.length bs) (hc : bs.length ≤ c) (hb : Bytes bs) (hlen : bs.length ≤ 1000000000) :
    Calls Try.prog 21 #[.slice A bs.length c] w (PlanGot bs w) := by
  have hmf : ∀ (fn : Fn) (first cap : Array Value) (w : World), (Instr.makeFunc fn first cap).run Try.prog w = .ok (.func fn first cap) w := fun _ _ _ _ => rfl
  obtain ⟨Z, hZ⟩ : ∃ o, o = Obj.cells #[.slice none 0 0, .slice none 0 0, .slice none 0 0, .slice none 0 0] 46 := ⟨_, rfl⟩
  obtain ⟨W2, hW2⟩ : ∃ W, W = (w.alloc Z).alloc (.cells #[.slice A bs.length c, .int .i64 0] 98) := ⟨_, rfl⟩
  obtain ⟨X, hX⟩ : ∃ o, o = Obj.cells #[.pointer (some ⟨w.heap.size + 1, 0, none⟩)] 96 := ⟨_, rfl⟩
  have hb1 := below_alloc (Below.refl w.heap.size w) Z
  have hb2 : Below w.heap.size w W2 := hW2 ▸ below_alloc hb1 _
  have hs2 : W2.heap.size = w.heap.size + 2 := by rw [hW2, World.size_alloc, World.size_alloc]
  have hI0 : IP (w.alloc Z) W2 (w.heap.size + 1) (.left bs) := by
    have := IP.new (w := w.alloc Z) (Kd.C_below hr hb1) hc hb hlen
    rw [World.size_alloc] at this
    rw [hW2]
    exact this
  have hI : IP w W2 (w.heap.size + 1) (.left bs) := by
    obtain ⟨bs', e, ⟨A', c', h1, h2, h3, h4⟩, h5⟩ := hI0
    refine ⟨bs', e, ⟨A', c', h1, by rw [World.size_alloc] at h2; omega, ?_, h4⟩, h5⟩
    rcases h5.1 with ⟨_, h6⟩ | ⟨_, h6⟩
    · cases h6
      rw [hW2] at h1
      have h7 := heap_last (w.alloc Z) (.cells #[.slice A bs.length c, .int .i64 0] 98)
      rw [World.size_alloc] at h7
      rw [h7] at h1
      cases h1
      exact hr
    · cases h6
  have hb3 := below_drew (below_alloc (Below.refl W2.heap.size W2) X)
  have hBX : BXI (W2.alloc X).drew (w.heap.size + 2) (w.heap.size + 1) := ⟨by
    have := heap_last W2 X
    rw [hs2] at this
    rw [← hX]
    exact this, by omega⟩
  have hz : (W2.alloc X).drew.heap[w.heap.size]? = some Z := by
    have h1 := heap_last w Z
    have h2 : W2.heap[w.heap.size]? = some Z := by
      rw [hW2]
      exact ((below_alloc (Below.refl _ (w.alloc Z)) _).block _ (blk_lt h1)).trans h1
    exact (hb3.block _ (blk_lt h2)).trans h2
  have hBw := hb2.trans (hb3.mono (by omega))
  have K := Aside0.mk (in_ints_T (w.heap.size + 1) (w.heap.size + 2) _ w (W2.alloc X).drew (hI.below hb3) hBX hBw)
  have hx := (blk_cell hBX.1) 0
  have HX := Aside0.mk hBX
  have HZ := Aside0.mk hz
  have HL : Aside0 (w.heap.size < (W2.alloc X).drew.heap.size) := ⟨blk_lt hz⟩
  have HL0 : Aside0 (w.heap.size ≤ (W2.alloc X).drew.heap.size) := ⟨by have := HL.out; omega⟩
  subst hX hZ
  subst hW2
  clear hr hc hb hlen hb1 hb2 hs2 hI0 hI hb3 hBX hz hBw
  go_enter Try.func21, Try.ntmps21
  go_wp2
  go_region_held3 (fun w' => w'.cell? ⟨w.heap.size + 2, 0, none⟩ = some (.pointer (some ⟨w.heap.size + 1, 0, none⟩))) (first | go_keep | exact BXI.set4 HX5.out (by omega) _ _ _ _)
    (first
      | (go_at_call 39; refine K.out.mono ?_; rintro e w1 ⟨v0, x0, st1, rfl, hr, hs, hi, hb, hk⟩; have HX1 := Aside0.mk (HX.out.only hk); have HZ1 := Aside0.mk ((hk.2 _ HL.out (by omega)).trans HZ.out); have HL1 := Aside0.mk (Nat.lt_of_lt_of_le HL.out hk.1); have HS1 := Aside0.mk hs; have K1 := Aside0.mk (in_ints_T (w.heap.size + 1) (w.heap.size + 2) st1 w w1 hi HX1.out hb); have hx1 := (blk_cell HX1.out.1) 0; have HR0 := Aside0.mk (Kd.R_lower hr HL0.out); clear K hx HX HZ hr hs hi hb hk)
      | (go_at_call 39; refine K1.out.mono ?_; rintro e w2 ⟨v1, x1, st2, rfl, hr, hs, hi, hb, hk⟩; have HX2 := Aside0.mk (HX1.out.only hk); have HZ2 := Aside0.mk ((hk.2 _ HL1.out (by omega)).trans HZ1.out); have HL2 := Aside0.mk (Nat.lt_of_lt_of_le HL1.out hk.1); have HS2 := Aside0.mk hs; have K2 := Aside0.mk (things_stp_T (w.heap.size + 1) (w.heap.size + 2) st2 w w2 hi HX2.out hb); have hx2 := (blk_cell HX2.out.1) 0; have HR1 := Aside0.mk (Kd.R_lower hr (Nat.le_of_lt HL1.out)); have HR01 := Aside0.mk (R_only HR0.out hk); clear K1 hx1 HX1 HZ1 HR0 hr hs hi hb hk)
      | (go_at_call 52; refine K2.out.mono ?_; rintro e w3 ⟨v2, x2, st3, rfl, hr, hs, hi, hb, hk⟩; have HX3 := Aside0.mk (HX2.out.only hk); have HZ3 := Aside0.mk ((hk.2 _ HL2.out (by omega)).trans HZ2.out); have HL3 := Aside0.mk (Nat.lt_of_lt_of_le HL2.out hk.1); have HS3 := Aside0.mk hs; have K3 := Aside0.mk (things_pr_T (w.heap.size + 1) (w.heap.size + 2) st3 w w3 hi HX3.out hb); have hx3 := (blk_cell HX3.out.1) 0; have HR2 := Aside0.mk (Kd.R_lower hr (Nat.le_of_lt HL2.out)); have HR02 := Aside0.mk (R_only HR01.out hk); have HR12 := Aside0.mk (R_only HR1.out hk); clear K2 hx2 HX2 HZ2 HR01 HR1 hr hs hi hb hk)
      | (go_at_call 53; refine K3.out.mono ?_; rintro e w4 ⟨v3, x3, st4, rfl, hr, hs, hi, hb, hk⟩; have HX4 := Aside0.mk (HX3.out.only hk); have HZ4 := Aside0.mk ((hk.2 _ HL3.out (by omega)).trans HZ3.out); have HL4 := Aside0.mk (Nat.lt_of_lt_of_le HL3.out hk.1); have HS4 := Aside0.mk hs; have hx4 := (blk_cell HX4.out.1) 0; have HR3 := Aside0.mk (Kd.R_lower hr (Nat.le_of_lt HL3.out)); have HR03 := Aside0.mk (R_only HR02.out hk); have HR13 := Aside0.mk (R_only HR12.out hk); have HR23 := Aside0.mk (R_only HR2.out hk); obtain ⟨A0, d0, rfl⟩ := Kd.R_slice HR03.out; obtain ⟨A1, d1, rfl⟩ := Kd.R_slice HR13.out; obtain ⟨A2, d2, rfl⟩ := Kd.R_slice HR23.out; obtain ⟨A3, d3, rfl⟩ := Kd.R_slice HR3.out; have HI4 := Aside0.mk hi; have K4 := Aside0.mk (got_pln_S (w.heap.size + 1) st4 A0 A1 A2 A3 x0.length x1.length x2.length x3.length d0 d1 d2 d3 w w4 hi hb); clear K3 hx3 HX3 HZ3 HR02 HR12 HR2 hr hs hi hb hk)
      | (go_at_call 51; refine K4.out.mono ?_; rintro e w5 ⟨B0, B1, B2, B3, m0, m1, m2, m3, b0, b1, b2, b3, rfl, hu, hv, hb, hk⟩; have HX5 := Aside0.mk (HX4.out.only hk); have HZ5 := Aside0.mk ((hk.2 _ HL4.out (by omega)).trans HZ4.out); have hx5 := (blk_cell HX5.out.1) 0; have hq0 := (blk_cell HZ5.out) 0; have hq1 := (blk_cell HZ5.out) 1; have hq2 := (blk_cell HZ5.out) 2; have hq3 := (blk_cell HZ5.out) 3; have hf0 := free_of HZ5.out 0; have hf1 := free_of HZ5.out 1; have hf2 := free_of HZ5.out 2; have hf3 := free_of HZ5.out 3; have HU := Aside0.mk hu; have HV := Aside0.mk hv; have HB5 := Aside0.mk hb; have HK5 := Aside0.mk hk; clear K4 hx4 HX4 HZ4 hu hv hb hk))
  go_wp2
  refine bodyPost_ret (v := .tuple #[.agg #[.slice B0 m0 b0, .slice B1 m1 b1, .slice B2 m2 b2, .slice B3 m3 b3], .int .i64 st4.fin]) (by simp [results, Try.results21, go_sem, hq0, hq1, hq2, hq3]) rfl ?_
  have HS : Step rPln (.left bs) (x0, x1, x2, x3) st4 := Step.bind HS1.out (Step.map (f := fun y => (x0, y)) (Step.bind HS2.out (Step.map (f := fun y => (x1, y)) (Step.bind HS3.out (Step.map (f := fun y => (x2, y)) HS4.out)))))
  obtain ⟨hfin, hok⟩ := HS.fin (fun e h => IP.ne (h ▸ HI4.out))
  have hB6 : Below w.heap.size w ((((w5.setCell ⟨w.heap.size, 0, none⟩ (.slice B0 m0 b0)).setCell ⟨w.heap.size, 1, none⟩ (.slice B1 m1 b1)).setCell ⟨w.heap.size, 2, none⟩ (.slice B2 m2 b2)).setCell ⟨w.heap.size, 3, none⟩ (.slice B3 m3 b3)) :=
    (((HB5.out.setCell (p := ⟨w.heap.size, 0, none⟩) (Nat.le_refl _) _).setCell (p := ⟨w.heap.size, 1, none⟩) (Nat.le_refl _) _).setCell (p := ⟨w.heap.size, 2, none⟩) (Nat.le_refl _) _).setCell (p := ⟨w.heap.size, 3, none⟩) (Nat.le_refl _) _
  by_cases h : st4.fin = 0
  · obtain ⟨e0, e1, e2, e3⟩ := HU.out h
    rw [e0, e1, e2, e3] at hB6 ⊢
    refine ⟨(x0, x1, x2, x3), _, _, _, _, by rw [hfin], Kd.R_set4 (R_only HR03.out HK5.out) HZ5.out (by decide) _ _ _ _, Kd.R_set4 (R_only HR13.out HK5.out) HZ5.out (by decide) _ _ _ _, Kd.R_set4 (R_only HR23.out HK5.out) HZ5.out (by decide) _ _ _ _, Kd.R_set4 (R_only HR3.out HK5.out) HZ5.out (by decide) _ _ _ _, fun _ => hok h, fun h' => absurd h (hfin ▸ h'), hB6⟩
  · obtain ⟨e0, e1, e2, e3⟩ := HV.out h
    rw [e0, e1, e2, e3] at hB6 ⊢
    exact ⟨([], [], [], []), _, _, _, _, by rw [hfin], Kd.R_nil _ _ _ _ _, Kd.R_nil _ _ _ _ _, Kd.R_nil _ _ _ _ _, Kd.R_nil _ _ _ _ _, fun h' => absurd (hfin.trans h') h, fun _ => rfl, hB6⟩
end Go.Proofs.Ythefbeekcjchcaa.P
