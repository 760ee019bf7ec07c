import Derived.Test.YthefbeekcjchcaaGetVer
namespace Go.Proofs.Ythefbeekcjchcaa.P
open Go Go.RowKit Go.Proofs.YthefbeekcjchcaaW.PrintWords Go.Proofs.YthefbeekcjchcaaW.PrintLast Go.Proofs.YthefbeekcjchcaaW.PrintMore
set_option linter.unusedVariables false
set_option linter.unusedSimpArgs false
def VCmp (v : Value) (x : Cmp) (_ : World) : Prop := v = .agg #[.int .i64 x.1, .int .i64 x.2.1, .int .i64 x.2.2.1, .int .i64 x.2.2.2.1, .string x.2.2.2.2]
set_option maxHeartbeats 8000000 in
set_option maxRecDepth 20000 in
theorem in_comp_T (g : Nat) (st : St) (w0 w : World) (hI : IP w0 w g st) (hB : Below w0.heap.size w0 w) :
    Calls Try.prog 99 #[.pointer (some ⟨g, 0, none⟩)] w (Told rCmp VCmp w0 w g st) := by
  obtain ⟨B, hB0⟩ : ∃ o, o = Obj.cells #[.int .i64 0, .int .i64 0, .int .i64 0, .int .i64 0, .string ⟨#[]⟩] 177 := ⟨_, rfl⟩
  have hbx := below_alloc (Below.refl w.heap.size w) B
  have HQ := Aside0.mk (heap_last w B)
  have HLE := Aside0.mk hB.size
  have HGN : Aside0 (g ≠ w.heap.size) := ⟨by have := hI.lt; omega⟩
  have HK0 := Aside0.mk (Only.below g hbx)
  have K := Aside0.mk (in_num_T g st w0 (w.alloc B) (hI.below hbx) (below_alloc hB B))
  subst hB0
  clear hI hB hbx
  go_enter Try.func99, Try.ntmps99
  go_wp2_with (fail)
  refine K.out.mono ?_
  rintro e w1 ⟨v, op, st1, rfl, hv, hs, hi, hb, hk⟩
  have hv' : v = .int .i64 op := hv
  subst hv'
  have hq1 := (hk.2 _ (blk_lt HQ.out) HGN.out.symm).trans HQ.out
  have hb2 := below_alloc (Below.refl w1.heap.size w1) (Obj.cells #[.int .i64 op, .int .i64 0, .int .i64 0, .int .i64 0, .string ⟨#[]⟩] 177)
  have HQ2 := Aside0.mk ((hb2.block _ (blk_lt hq1)).trans hq1)
  have HC2 := Aside0.mk (heap_last w1 (.cells #[.int .i64 op, .int .i64 0, .int .i64 0, .int .i64 0, .string ⟨#[]⟩] 177))
  have HK2 := Aside0.mk ((HK0.out.trans hk).trans (Only.below g hb2))
  have HS1 := Aside0.mk hs
  have HI2 := Aside0.mk (hi.below hb2)
  have HB2 := Aside0.mk (below_alloc hb (.cells #[.int .i64 op, .int .i64 0, .int .i64 0, .int .i64 0, .string ⟨#[]⟩] 177))
  have HL1 : Aside0 (w.heap.size < w1.heap.size) := ⟨blk_lt hq1⟩
  have HG1 : Aside0 (g < w1.heap.size) := ⟨hi.lt⟩
  have hr0 := (blk_cell HC2.out) 0
  have hr1 := (blk_cell HC2.out) 1
  have hr2 := (blk_cell HC2.out) 2
  have hr3 := (blk_cell HC2.out) 3
  have hr4 := (blk_cell HC2.out) 4
  have hz0 := (blk_cell HQ2.out) 0
  have hz1 := (blk_cell HQ2.out) 1
  have hz2 := (blk_cell HQ2.out) 2
  have hz3 := (blk_cell HQ2.out) 3
  have hz4 := (blk_cell HQ2.out) 4
  have hf0 := free_of HQ2.out 0
  have hf1 := free_of HQ2.out 1
  have hf2 := free_of HQ2.out 2
  have hf3 := free_of HQ2.out 3
  have hf4 := free_of HQ2.out 4
  by_cases hop : op = 0
  · subst hop
    clear K hv hs hi hb hk hq1 hb2
    go_wp2
    refine bodyPost_ret (v := .agg #[.int .i64 0, .int .i64 0, .int .i64 0, .int .i64 0, .string ⟨#[]⟩]) (by simp [results, Try.results99, go_sem, hz0, hz1, hz2, hz3, hz4]) rfl ?_
    exact ⟨_, (0, noVer), st1, rfl, rfl, Step.bind HS1.out (Step.map (f := fun y => (0, y)) (by rw [if_pos rfl]; exact Step.pure _ _)), HI2.out.turned HGN.out (fun k hk => far5 _ hk _ _ _ _ _), ((((HB2.out.setCell (p := ⟨w.heap.size, 0, none⟩) HLE.out _).setCell (p := ⟨w.heap.size, 1, none⟩) HLE.out _).setCell (p := ⟨w.heap.size, 2, none⟩) HLE.out _).setCell (p := ⟨w.heap.size, 3, none⟩) HLE.out _).setCell (p := ⟨w.heap.size, 4, none⟩) HLE.out _, HK2.out.turned (Nat.le_refl _) (by simp) (fun k hk => far5 _ hk _ _ _ _ _)⟩
  · have z1 : (op != 0) = true := bne_iff_ne.2 hop
    have z0 : (op == 0) = false := beq_eq_false_iff_ne.2 hop
    have HOP := Aside0.mk hop
    have K2 := Aside0.mk (in_version_T g st1 w0 _ HI2.out HB2.out)
    clear K hv hs hi hb hk hq1 hb2 hop hz0 hz1 hz2 hz3 hz4 hf0 hf1 hf2 hf3 hf4
    go_wp2_with (fail)
    refine K2.out.mono ?_
    rintro e w3 ⟨v, x, st2, rfl, hv, hs, hi, hb, hk⟩
    obtain ⟨a, b, c, s⟩ := x
    have hv' : v = .agg #[.int .i64 a, .int .i64 b, .int .i64 c, .string s] := hv
    subst hv'
    have HQ3 := Aside0.mk ((hk.2 _ (blk_lt HQ2.out) HGN.out.symm).trans HQ2.out)
    have HC3 := Aside0.mk ((hk.2 _ (blk_lt HC2.out) (by have := HG1.out; omega)).trans HC2.out)
    have HK3 := Aside0.mk (HK2.out.trans hk)
    have HS2 := Aside0.mk hs
    have HI3 := Aside0.mk hi
    have HB3 := Aside0.mk hb
    clear hr0 hr1 hr2 hr3 hr4
    have hr0 := (blk_cell HC3.out) 0
    have hr1 := (blk_cell HC3.out) 1
    have hr2 := (blk_cell HC3.out) 2
    have hr3 := (blk_cell HC3.out) 3
    have hr4 := (blk_cell HC3.out) 4
    have hg1 := free_of HC3.out 1
    have hg2 := free_of HC3.out 2
    have hg3 := free_of HC3.out 3
    have hg4 := free_of HC3.out 4
    have hz0 := (blk_cell HQ3.out) 0
    have hz1 := (blk_cell HQ3.out) 1
    have hz2 := (blk_cell HQ3.out) 2
    have hz3 := (blk_cell HQ3.out) 3
    have hz4 := (blk_cell HQ3.out) 4
    have hf0 := free_of HQ3.out 0
    have hf1 := free_of HQ3.out 1
    have hf2 := free_of HQ3.out 2
    have hf3 := free_of HQ3.out 3
    have hf4 := free_of HQ3.out 4
    have hne : w1.heap.size ≠ w.heap.size := by have := HL1.out; omega
    have hne' : w.heap.size ≠ w1.heap.size := hne.symm
    clear K2 hv hs hi hb hk HQ2 HC2 HK2
    go_wp2
    refine bodyPost_ret (v := .agg #[.int .i64 op, .int .i64 a, .int .i64 b, .int .i64 c, .string s]) (by simp [results, Try.results99, go_sem, hz0, hz1, hz2, hz3, hz4]) rfl ?_
    have hs1 : ∀ k, k ≠ w1.heap.size → ((((w3.setCell ⟨w1.heap.size, 1, none⟩ (.int .i64 a)).setCell ⟨w1.heap.size, 2, none⟩ (.int .i64 b)).setCell ⟨w1.heap.size, 3, none⟩ (.int .i64 c)).setCell ⟨w1.heap.size, 4, none⟩ (.string s)).heap[k]? = w3.heap[k]? := fun k hk =>
      (Below.heap_setCell _ ⟨w1.heap.size, 4, none⟩ _ k hk).trans ((Below.heap_setCell _ ⟨w1.heap.size, 3, none⟩ _ k hk).trans ((Below.heap_setCell _ ⟨w1.heap.size, 2, none⟩ _ k hk).trans (Below.heap_setCell _ ⟨w1.heap.size, 1, none⟩ _ k hk)))
    have hle1 : w0.heap.size ≤ w1.heap.size := by have := HLE.out; have := HL1.out; omega
    have hbb := (((HB3.out.setCell (p := ⟨w1.heap.size, 1, none⟩) hle1 (.int .i64 a)).setCell (p := ⟨w1.heap.size, 2, none⟩) hle1 (.int .i64 b)).setCell (p := ⟨w1.heap.size, 3, none⟩) hle1 (.int .i64 c)).setCell (p := ⟨w1.heap.size, 4, none⟩) hle1 (.string s)
    have hi5 := HI3.out.turned (by have := HG1.out; omega) hs1
    have hk5 := HK3.out.turned (Nat.le_of_lt HL1.out) (by simp) hs1
    exact ⟨_, (op, a, b, c, s), st2, rfl, rfl, Step.bind HS1.out (Step.map (f := fun y => (op, y)) (by rw [if_neg HOP.out]; exact HS2.out)), hi5.turned HGN.out (fun k hk => far5 _ hk _ _ _ _ _), ((((hbb.setCell (p := ⟨w.heap.size, 0, none⟩) HLE.out _).setCell (p := ⟨w.heap.size, 1, none⟩) HLE.out _).setCell (p := ⟨w.heap.size, 2, none⟩) HLE.out _).setCell (p := ⟨w.heap.size, 3, none⟩) HLE.out _).setCell (p := ⟨w.heap.size, 4, none⟩) HLE.out _, hk5.turned (Nat.le_refl _) (by simp) (fun k hk => far5 _ hk _ _ _ _ _)⟩
theorem info_cmp : (Try.prog.info? 177).map (fun i => (i.zero, i.size, i.bytes)) = some (some (.agg #[.int .i64 0, .int .i64 0, .int .i64 0, .int .i64 0, .string ⟨#[]⟩]), 5, 48) := by kernel_rfl
set_option maxHeartbeats 8000000 in
set_option maxRecDepth 20000 in
theorem things_cmp_T (g gb : Nat) (st : St) (w0 w : World) (hI : IP w0 w g st) (hX : BXI w gb g) (hB : Below w0.heap.size w0 w) :
    Calls Try.prog 98 #[.pointer (some ⟨g, 0, none⟩), .func (.func 99) #[.pointer (some ⟨g, 0, none⟩)] #[]] w (Told (rlist rCmp) (VRow kCmp 177 w.heap.size g) w0 w g st) := by
  have K := Aside0.mk (in_size_T g st w0 w hI hB)
  have HX := Aside0.mk hX
  have HW := Aside0.mk hB.size
  clear hI hB hX
  go_enter Try.func98, Try.ntmps98
  go_wp2_with (fail)
  refine K.out.mono ?_
  rintro e w1 ⟨m, bs1, e1, st1, rfl, hm, hs, hi, hrep, hby, hbl, hb, hk⟩
  have HM : Aside0 (m ≤ 1000000000) := ⟨by omega⟩
  have HS := Aside0.mk hs
  have HI : Aside0 (IP w0 w1 g st1) := ⟨_, _, hi, hrep, hby, hbl⟩
  have HB := Aside0.mk hb
  have HK := Aside0.mk hk
  clear hm hs hi hrep hby hbl hb hk K
  go_wp2
  go_loopg [5, 8] m (fun kq v5 v8 w' => ∃ (i : Nat) (out : List Cmp) (s : St), v8 = .int .i64 (i : Int) ∧ Aside0 (i + kq = m) ∧ Aside0 (out.length = i) ∧ Aside0 (Goes rCmp m st1 kq out s) ∧ Aside0 (IP w0 w' g s) ∧ Aside0 (Kd.R kCmp 177 w' w.heap.size (fun k => k ≠ g) v5 out) ∧ Aside0 (Below w0.heap.size w0 w') ∧ Aside0 (Only w w' g))
  case atStart => exact ⟨0, [], st1, rfl, ⟨by omega⟩, ⟨rfl⟩, ⟨Goes.start _ _ _⟩, HI, ⟨Kd.R_nil _ _ _ _ _⟩, HB, HK⟩
  case round =>
    clear HI HB HK
    obtain ⟨i, out, s, rfl, HJ, HOL, HG, HI, HO, HB, HK⟩ := hrel
    obtain ⟨ee, hc1, hee⟩ := HI.out.ecell
    have HEE := Aside0.mk hee
    clear hee
    cases gk with
    | zero =>
      have e1 : decide (i < m) = false := decide_eq_false (by have := HJ.out; omega)
      go_wp2
      go_ret
      exact ⟨_, out, s, rfl, HO.out, Step.list HS.out (HG.out.done), HI.out, HB.out, HK.out⟩
    | succ gk =>
      have e1 : decide (i < m) = true := decide_eq_true (by have := HJ.out; omega)
      have e5 : wrap64 ((i : Int) + 1) = ((i + 1 : Nat) : Int) := by have := HJ.out; have := HM.out; unfold wrap64; omega
      rcases HEE.out with ⟨he, bs, rfl⟩ | ⟨he, rfl⟩
      · have h0 : (ee == 0) = true := beq_iff_eq.2 he
        have h1 : (ee != 0) = false := bne_eq_false_iff_eq.2 he
        have K := Aside0.mk (in_comp_T g _ w0 wr HI.out HB.out)
        have HLE := Aside0.mk HK.out.1
        clear he
        go_wp2_with (fail)
        refine K.out.mono ?_
        rintro e w2 ⟨v, x, s2, rfl, hv, hs, hi, hb, hk⟩
        have HO1 := Aside0.mk (R_only HO.out hk)
        have HI1 := Aside0.mk hi
        have HB1 := Aside0.mk hb
        have HK1 := Aside0.mk (HK.out.trans hk)
        have HS1 := Aside0.mk hs
        have HFR : Aside0 (∀ k, w2.heap.size ≤ k → k ≠ g) := ⟨fun k hk => by have := hi.lt; omega⟩
        have hv' : v = .agg #[.int .i64 x.1, .int .i64 x.2.1, .int .i64 x.2.2.1, .int .i64 x.2.2.2.1, .string x.2.2.2.2] := hv
        subst hv'
        have hm : kCmp.M w2 w.heap.size (fun k => k ≠ g) x [.int .i64 x.1, .int .i64 x.2.1, .int .i64 x.2.2.1, .int .i64 x.2.2.2.1, .string x.2.2.2.2] := ⟨[_], [_, _, _, _], rfl, rfl, [_], [_, _, _], rfl, rfl, [_], [_, _], rfl, rfl, [_], [_], rfl, rfl, rfl⟩
        clear hv
        have HV := Aside0.mk (Kd.M_apart hm HO1.out (by decide))
        clear hi hb hk hs K hm
        go_wp2_with (first | ((with_reducible refine gate_dst (N := 18) rfl ?_); refine Kd.R_lit kCmp (w0 := w2) w.heap.size 177 ?hg (N := 18) ?hd (xs := [x]) (inner := [.int .i64 x.1, .int .i64 x.2.1, .int .i64 x.2.2.1, .int .i64 x.2.2.2.1, .string x.2.2.2.2]) (ok := fun k => k ≠ g ∧ some k ≠ u5.ownBlock) (okp := fun k => k ≠ g ∧ some k ≠ u5.ownBlock) ?hr ?hp (fun _ hk => hk) ⟨HFR.out _ (Nat.le_refl _), Kd.R_fresh HO1.out⟩ (Below.refl _ _) HK1.out.1 (by simp) ?_; (case hd => rfl); (case hg => rfl); (case hr => first | (go_simp; done) | (go_simp; rfl)); (case hp => exact reps1 HV.out rfl); intro v43 w7 ho hb hg_ hnew_; obtain ⟨A43, c43, rfl, hcl43, hC43⟩ := OwnRow.reads ho.2; have HC43 := Aside0.mk hC43; have HO2 := Aside0.mk (Kd.R_grown HO1.out hg_ (fun _ _ => by simp)); have HI2 := Aside0.mk (HI1.out.grown hg_ (by simp)); have HB2 := Aside0.mk (HB1.out.trans (hb.mono HW.out)); have HK2 := Aside0.mk (HK1.out.belowG hb hg_.size); have HFR2 : Aside0 (∀ k, w7.heap.size ≤ k → k ≠ g) := ⟨fun k hk => HFR.out k (Nat.le_trans hg_.size hk)⟩; clear ho hb hC43 hcl43 hg_ hnew_) | ((with_reducible refine gate_builtin (b := .append) (xs := #[.tmp 15, .tmp 18]) rfl ?_); at_builtin; refine Kd.R_append_rows kCmp (w0 := w7) w.heap.size rfl (.tmp 15) (.tmp 18) 174 177 (.agg #[.int .i64 0, .int .i64 0, .int .i64 0, .int .i64 0, .string ⟨#[]⟩]) 48 rfl Try.underlying174 info_cmp rfl (by decide) (by decide) u5 out [x] A43 1 c43 (fun k => k ≠ g) _ rfl rfl HO2.out HC43.out (fun _ _ h => h) (fun k hk => ⟨hk.1.1, hk.1.2⟩) HFR2.out (Below.refl _ _) HK2.out.1 (by have := HOL.out; have := HJ.out; have := HM.out; omega) ?_; intro v44 w8 ho hb hgr hat; have HO3 := Aside0.mk ho; have HB3 := Aside0.mk (HB2.out.trans (hb.mono HW.out)); have HI3 := Aside0.mk (HI2.out.grown hgr (Kd.R_away HO2.out (fun k hk => hk))); have HK3 := Aside0.mk (HK2.out.belowG hb hgr.size); clear ho hb hgr hat))
        go_roundg gk
        case measure => omega
        case rel => exact ⟨i + 1, out ++ [x], s2, (by first | exact congrArg _ e5 | rfl), ⟨by have := HJ.out; omega⟩, ⟨by simp [HOL.out]⟩, ⟨HG.out.next HS1.out⟩, HI3, HO3, HB3, HK3⟩
      · have h0 : (ee == 0) = false := beq_eq_false_iff_ne.2 he
        have h1 : (ee != 0) = true := bne_iff_ne.2 he
        clear he
        go_wp2
        go_ret
        exact ⟨_, [], _, rfl, Kd.R_nil _ _ _ _ _, Step.list HS.out (HG.out.fails []), HI.out, HB.out, HK.out⟩
set_option maxHeartbeats 4000000 in
set_option maxRecDepth 20000 in
theorem rg1_T (g gb : Nat) (st : St) (w0 w : World) (hI : IP w0 w g st) (hX : BXI w gb g) (hB : Below w0.heap.size w0 w) :
    Calls Try.prog 97 #[.pointer (some ⟨gb, 0, none⟩)] w (Told (rlist rCmp) (VRow kCmp 177 w.heap.size g) w0 w g st) := by
  have hmf : ∀ (fn : Fn) (first cap : Array Value) (w : World), (Instr.makeFunc fn first cap).run Try.prog w = .ok (.func fn first cap) w := fun _ _ _ _ => rfl
  have K := Aside0.mk (things_cmp_T g gb st w0 w hI hX hB)
  have hx := (blk_cell hX.1) 0
  clear hI hX hB
  go_enter Try.func97, Try.ntmps97
  go_wp2_with (fail)
  refine K.out.mono ?_
  rintro e' w1 ⟨v, x, st1, rfl, hr, hs, hi, hb, hk⟩
  have HR := Aside0.mk hr
  have HI := Aside0.mk hi
  have HB := Aside0.mk hb
  have HK := Aside0.mk hk
  have HS := Aside0.mk hs
  clear hr hi hb hk hs K
  go_wp2
  go_ret
  exact ⟨v, x, st1, rfl, HR.out, HS.out, HI.out, HB.out, HK.out⟩
theorem info_comps : (Try.prog.info? 174).map (fun i => (i.zero, i.size, i.bytes)) = some (some (.slice none 0 0), 1, 24) := by kernel_rfl
set_option maxHeartbeats 8000000 in
set_option maxRecDepth 20000 in
theorem things_comps_T (g gb : Nat) (st : St) (w0 w : World) (hI : IP w0 w g st) (hX : BXI w gb g) (hB : Below w0.heap.size w0 w) :
    Calls Try.prog 96 #[.pointer (some ⟨g, 0, none⟩), .func (.func 97) #[] #[.pointer (some ⟨gb, 0, none⟩)]] w (Told (rlist (rlist rCmp)) (VRow kCmps 174 w.heap.size g) w0 w g st) := by
  have K := Aside0.mk (in_size_T g st w0 w hI hB)
  have HX := Aside0.mk hX
  have HW := Aside0.mk hB.size
  clear hI hB hX
  go_enter Try.func96, Try.ntmps96
  go_wp2_with (fail)
  refine K.out.mono ?_
  rintro e w1 ⟨m, bs1, e1, st1, rfl, hm, hs, hi, hrep, hby, hbl, hb, hk⟩
  have HM : Aside0 (m ≤ 1000000000) := ⟨by omega⟩
  have HS := Aside0.mk hs
  have HI : Aside0 (IP w0 w1 g st1) := ⟨_, _, hi, hrep, hby, hbl⟩
  have HB := Aside0.mk hb
  have HK := Aside0.mk hk
  clear hm hs hi hrep hby hbl hb hk K
  go_wp2
  go_loopg [5, 8] m (fun kq v5 v8 w' => ∃ (i : Nat) (out : List (List Cmp)) (s : St), v8 = .int .i64 (i : Int) ∧ Aside0 (i + kq = m) ∧ Aside0 (out.length = i) ∧ Aside0 (Goes (rlist rCmp) m st1 kq out s) ∧ Aside0 (IP w0 w' g s) ∧ Aside0 (Kd.R kCmps 174 w' w.heap.size (fun k => k ≠ g) v5 out) ∧ Aside0 (Below w0.heap.size w0 w') ∧ Aside0 (Only w w' g))
  case atStart => exact ⟨0, [], st1, rfl, ⟨by omega⟩, ⟨rfl⟩, ⟨Goes.start _ _ _⟩, HI, ⟨Kd.R_nil _ _ _ _ _⟩, HB, HK⟩
  case round =>
    clear HI HB HK
    obtain ⟨i, out, s, rfl, HJ, HOL, HG, HI, HO, HB, HK⟩ := hrel
    obtain ⟨ee, hc1, hee⟩ := HI.out.ecell
    have HEE := Aside0.mk hee
    clear hee
    cases gk with
    | zero =>
      have e1 : decide (i < m) = false := decide_eq_false (by have := HJ.out; omega)
      go_wp2
      go_ret
      exact ⟨_, out, s, rfl, HO.out, Step.list HS.out (HG.out.done), HI.out, HB.out, HK.out⟩
    | succ gk =>
      have e1 : decide (i < m) = true := decide_eq_true (by have := HJ.out; omega)
      have e5 : wrap64 ((i : Int) + 1) = ((i + 1 : Nat) : Int) := by have := HJ.out; have := HM.out; unfold wrap64; omega
      rcases HEE.out with ⟨he, bs, rfl⟩ | ⟨he, rfl⟩
      · have h0 : (ee == 0) = true := beq_iff_eq.2 he
        have h1 : (ee != 0) = false := bne_eq_false_iff_eq.2 he
        have K := Aside0.mk (rg1_T g gb _ w0 wr HI.out (HX.out.only HK.out) HB.out)
        have HLE := Aside0.mk HK.out.1
        clear he
        go_wp2_with (fail)
        refine K.out.mono ?_
        rintro e w2 ⟨v, x, s2, rfl, hv, hs, hi, hb, hk⟩
        have HO1 := Aside0.mk (R_only HO.out hk)
        have HI1 := Aside0.mk hi
        have HB1 := Aside0.mk hb
        have HK1 := Aside0.mk (HK.out.trans hk)
        have HS1 := Aside0.mk hs
        have HFR : Aside0 (∀ k, w2.heap.size ≤ k → k ≠ g) := ⟨fun k hk => by have := hi.lt; omega⟩
        obtain ⟨Ae, ce, rfl⟩ := Kd.R_slice hv
        have hm : kCmps.M w2 w.heap.size (fun k => k ≠ g) x [.slice Ae x.length ce] := ⟨_, rfl, Kd.R_lower hv HLE.out⟩
        clear hv
        have HV := Aside0.mk (Kd.M_apart hm HO1.out (by decide))
        clear hi hb hk hs K hm
        go_wp2_with (first | ((with_reducible refine gate_dst (N := 18) rfl ?_); refine Kd.R_lit kCmps (w0 := w2) w.heap.size 174 ?hg (N := 18) ?hd (xs := [x]) (inner := [.slice Ae x.length ce]) (ok := fun k => k ≠ g ∧ some k ≠ u5.ownBlock) (okp := fun k => k ≠ g ∧ some k ≠ u5.ownBlock) ?hr ?hp (fun _ hk => hk) ⟨HFR.out _ (Nat.le_refl _), Kd.R_fresh HO1.out⟩ (Below.refl _ _) HK1.out.1 (by simp) ?_; (case hd => rfl); (case hg => rfl); (case hr => first | (go_simp; done) | (go_simp; rfl)); (case hp => exact reps1 HV.out rfl); intro v43 w7 ho hb hg_ hnew_; obtain ⟨A43, c43, rfl, hcl43, hC43⟩ := OwnRow.reads ho.2; have HC43 := Aside0.mk hC43; have HO2 := Aside0.mk (Kd.R_grown HO1.out hg_ (fun _ _ => by simp)); have HI2 := Aside0.mk (HI1.out.grown hg_ (by simp)); have HB2 := Aside0.mk (HB1.out.trans (hb.mono HW.out)); have HK2 := Aside0.mk (HK1.out.belowG hb hg_.size); have HFR2 : Aside0 (∀ k, w7.heap.size ≤ k → k ≠ g) := ⟨fun k hk => HFR.out k (Nat.le_trans hg_.size hk)⟩; clear ho hb hC43 hcl43 hg_ hnew_) | ((with_reducible refine gate_builtin (b := .append) (xs := #[.tmp 15, .tmp 18]) rfl ?_); at_builtin; refine Kd.R_append_rows kCmps (w0 := w7) w.heap.size rfl (.tmp 15) (.tmp 18) 126 174 (.slice none 0 0) 24 rfl Try.underlying126 info_comps rfl (by decide) (by decide) u5 out [x] A43 1 c43 (fun k => k ≠ g) _ rfl rfl HO2.out HC43.out (fun _ _ h => h) (fun k hk => ⟨hk.1.1, hk.1.2⟩) HFR2.out (Below.refl _ _) HK2.out.1 (by have := HOL.out; have := HJ.out; have := HM.out; omega) ?_; intro v44 w8 ho hb hgr hat; have HO3 := Aside0.mk ho; have HB3 := Aside0.mk (HB2.out.trans (hb.mono HW.out)); have HI3 := Aside0.mk (HI2.out.grown hgr (Kd.R_away HO2.out (fun k hk => hk))); have HK3 := Aside0.mk (HK2.out.belowG hb hgr.size); clear ho hb hgr hat))
        go_roundg gk
        case measure => omega
        case rel => exact ⟨i + 1, out ++ [x], s2, (by first | exact congrArg _ e5 | rfl), ⟨by have := HJ.out; omega⟩, ⟨by simp [HOL.out]⟩, ⟨HG.out.next HS1.out⟩, HI3, HO3, HB3, HK3⟩
      · have h0 : (ee == 0) = false := beq_eq_false_iff_ne.2 he
        have h1 : (ee != 0) = true := bne_iff_ne.2 he
        clear he
        go_wp2
        go_ret
        exact ⟨_, [], _, rfl, Kd.R_nil _ _ _ _ _, Step.list HS.out (HG.out.fails []), HI.out, HB.out, HK.out⟩
def VRg (base g : Nat) (v : Value) (x : Rng) (w : World) : Prop := ∃ A c, v = .agg #[.slice A x.length c] ∧ kCmps.R 174 w base (fun k => k ≠ g) (.slice A x.length c) x
set_option maxHeartbeats 8000000 in
set_option maxRecDepth 20000 in
theorem in_ranged_T (g : Nat) (st : St) (w0 w : World) (hI : IP w0 w g st) (hB : Below w0.heap.size w0 w) :
    Calls Try.prog 69 #[.pointer (some ⟨g, 0, none⟩)] w (Told rRng (VRg w.heap.size g) w0 w g st) := by
  have hmf : ∀ (fn : Fn) (first cap : Array Value) (w : World), (Instr.makeFunc fn first cap).run Try.prog w = .ok (.func fn first cap) w := fun _ _ _ _ => rfl
  obtain ⟨B1, hB1⟩ : ∃ o, o = Obj.cells #[.pointer (some ⟨g, 0, none⟩)] 96 := ⟨_, rfl⟩
  obtain ⟨B2, hB2⟩ : ∃ o, o = Obj.cells #[.slice none 0 0] 128 := ⟨_, rfl⟩
  have hbb := below_alloc (below_alloc (Below.refl w.heap.size w) B1) B2
  have hx := box_lit w B1 B2
  have hy := heap_last (w.alloc B1) B2
  rw [World.size_alloc] at hy
  have HL : Aside0 (g < w.heap.size) := ⟨hI.lt⟩
  have hX : BXI ((w.alloc B1).alloc B2) w.heap.size g := ⟨by rw [hx, hB1], by have := hI.lt; omega⟩
  have HLE := Aside0.mk hB.size
  have K := Aside0.mk (things_comps_T g w.heap.size st w0 _ (hI.below hbb) hX (below_alloc (below_alloc hB _) _))
  have HK0 := Aside0.mk (Only.below g hbb)
  subst hB1 hB2
  have HY := Aside0.mk hy
  have hx0 := (blk_cell hx) 0
  clear hI hX hB hbb hx hy
  go_enter Try.func69, Try.ntmps69
  go_wp2_with (fail)
  refine K.out.mono ?_
  rintro e' w1 ⟨v, x, st1, rfl, hr, hs, hi, hb, hk⟩
  have HR := Aside0.mk (Kd.R_lower (base' := w.heap.size) hr HK0.out.1)
  obtain ⟨A, c, rfl⟩ := Kd.R_slice hr
  have HI := Aside0.mk hi
  have HB := Aside0.mk hb
  have HK := Aside0.mk (HK0.out.trans hk)
  have HS := Aside0.mk hs
  have HY1 := Aside0.mk ((hk.2 (w.heap.size + 1) (blk_lt HY.out) (by have := HL.out; omega)).trans HY.out)
  have hz := (blk_cell HY1.out) 0
  have hf := free_of HY1.out 0
  clear hr hi hb hk hs K hx0
  go_wp2
  refine bodyPost_ret (v := .agg #[.slice A x.length c]) (by simp [results, Try.results69, go_sem, hz]) rfl ?_
  exact ⟨_, x, st1, rfl, ⟨A, c, rfl, Kd.R_turned HR.out HY1.out (by decide) (fun k hk => far1 _ hk _)⟩, HS.out, HI.out.turned (b := w.heap.size + 1) (by have := HL.out; omega) (fun k hk => far1 _ hk _), HB.out.setCell (p := ⟨w.heap.size + 1, 0, none⟩) (by have := HLE.out; show _ ≤ w.heap.size + 1; omega) _, HK.out.turned (b := w.heap.size + 1) (by omega) (by simp) (fun k hk => far1 _ hk _)⟩
end Go.Proofs.Ythefbeekcjchcaa.P
