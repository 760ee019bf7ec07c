import Derived.Test.YthefbeekcjchcaaGetPlan
import Derived.Test.YthefbeekcjchcaaPutReq
namespace Go.Proofs.Ythefbeekcjchcaa.P
open Go Go.RowKit Go.Proofs.YthefbeekcjchcaaW.PrintWords Go.Proofs.YthefbeekcjchcaaW.PrintLast Go.Proofs.YthefbeekcjchcaaW.PrintMore
set_option linter.unusedVariables false
set_option linter.unusedSimpArgs false
theorem far1 (w : World) {k b : Nat} (h : k ≠ b) (a0 : Value) : (w.setCell ⟨b, 0, none⟩ a0).heap[k]? = w.heap[k]? := Below.heap_setCell w ⟨b, 0, none⟩ a0 k h
theorem far2 (w : World) {k b : Nat} (h : k ≠ b) (a0 a1 : Value) : ((w.setCell ⟨b, 0, none⟩ a0).setCell ⟨b, 1, none⟩ a1).heap[k]? = w.heap[k]? := (Below.heap_setCell _ ⟨b, 1, none⟩ a1 k h).trans (far1 w h a0)
theorem far3 (w : World) {k b : Nat} (h : k ≠ b) (a0 a1 a2 : Value) : (((w.setCell ⟨b, 0, none⟩ a0).setCell ⟨b, 1, none⟩ a1).setCell ⟨b, 2, none⟩ a2).heap[k]? = w.heap[k]? := (Below.heap_setCell _ ⟨b, 2, none⟩ a2 k h).trans (far2 w h a0 a1)
theorem far4 (w : World) {k b : Nat} (h : k ≠ b) (a0 a1 a2 a3 : Value) : ((((w.setCell ⟨b, 0, none⟩ a0).setCell ⟨b, 1, none⟩ a1).setCell ⟨b, 2, none⟩ a2).setCell ⟨b, 3, none⟩ a3).heap[k]? = w.heap[k]? := (Below.heap_setCell _ ⟨b, 3, none⟩ a3 k h).trans (far3 w h a0 a1 a2)
theorem far5 (w : World) {k b : Nat} (h : k ≠ b) (a0 a1 a2 a3 a4 : Value) : (((((w.setCell ⟨b, 0, none⟩ a0).setCell ⟨b, 1, none⟩ a1).setCell ⟨b, 2, none⟩ a2).setCell ⟨b, 3, none⟩ a3).setCell ⟨b, 4, none⟩ a4).heap[k]? = w.heap[k]? := (Below.heap_setCell _ ⟨b, 4, none⟩ a4 k h).trans (far4 w h a0 a1 a2 a3)
theorem far6 (w : World) {k b : Nat} (h : k ≠ b) (a0 a1 a2 a3 a4 a5 : Value) : ((((((w.setCell ⟨b, 0, none⟩ a0).setCell ⟨b, 1, none⟩ a1).setCell ⟨b, 2, none⟩ a2).setCell ⟨b, 3, none⟩ a3).setCell ⟨b, 4, none⟩ a4).setCell ⟨b, 5, none⟩ a5).heap[k]? = w.heap[k]? := (Below.heap_setCell _ ⟨b, 5, none⟩ a5 k h).trans (far5 w h a0 a1 a2 a3 a4)
/-- A block that was turned, and lies beyond: what is known of all else. -/
theorem IP.turned {w0 w w' : World} {g b : Nat} {st : St} (h : IP w0 w g st) (hb : g ≠ b) (hf : ∀ k, k ≠ b → w'.heap[k]? = w.heap[k]?) : IP w0 w' g st := by
  obtain ⟨bs, e, ⟨A, c, h1, r⟩, h2⟩ := h
  exact ⟨bs, e, ⟨A, c, (hf g hb).trans h1, r⟩, h2⟩
theorem Only.turned {w w1 w' : World} {g b : Nat} (h : Only w w1 g) (hb : w.heap.size ≤ b) (hs : w'.heap.size = w1.heap.size) (hf : ∀ k, k ≠ b → w'.heap[k]? = w1.heap[k]?) : Only w w' g :=
  ⟨by rw [hs]; exact h.1, fun k hk hg => (hf k (by omega)).trans (h.2 k hk hg)⟩
theorem Kd.R_turned {α : Type} {d : Kd α} {e : Nat} {w w' : World} {base : Nat} {ok : Nat → Prop} {v : Value} {xs : List α} {b t : Nat} {cells : Array Value} (h : d.R e w base ok v xs) (hb : w.heap[b]? = some (.cells cells t (0, 0))) (ht : ∀ q, q ∈ e :: d.E → q ≠ t) (hf : ∀ k, k ≠ b → w'.heap[k]? = w.heap[k]?) : d.R e w' base ok v xs :=
  Kd.R_mono (Kd.R_step (Kd.R_types h hb ht) (fun k hk _ => hf k hk.2)) (fun _ hk => hk.1)
def VStr (v : Value) (x : ByteArray) (_ : World) : Prop := v = .string x
def VVer (v : Value) (x : Ver) (_ : World) : Prop := v = .agg #[.int .i64 x.1, .int .i64 x.2.1, .int .i64 x.2.2.1, .string x.2.2.2]
set_option maxHeartbeats 8000000 in
set_option maxRecDepth 20000 in
theorem in_text_T (g : Nat) (st : St) (w0 w : World) (hI : IP w0 w g st) (hB : Below w0.heap.size w0 w) :
    Calls Try.prog 80 #[.pointer (some ⟨g, 0, none⟩)] w (Told rText VStr w0 w g st) := by
  have K := Aside0.mk (in_size_T g st w0 w hI hB)
  clear hI hB
  go_enter Try.func80, Try.ntmps80
  go_wp2_with (fail)
  refine K.out.mono ?_
  rintro e w1 ⟨n, bs, e1, st1, rfl, hn, hs, ⟨A, c, hg, hg0, hC, hc⟩, hrep, hby, hbl, hb, hk⟩
  obtain ⟨i0, hi0, _, hsz, _⟩ := info_parts infoB5
  have hcut1 := (print_take_of (P := Try.prog) (Value.int .u8) 0 25 5 .i64 Try.underlying25 hi0 hsz A c bs (n : Int) (by omega) (by omega) hc)
  obtain ⟨A2, hcut2, hA2, hC2⟩ := print_drop_of (P := Try.prog) (Value.int .u8) 0 25 5 .i64 Try.underlying25 hi0 hsz A c bs (n : Int) (by omega) (by omega) hc
  obtain ⟨hcut1, hA1, _⟩ := hcut1
  have hst : ∃ st2, Step rText st (strOfNums (bs.take n)) st2 ∧ Rep (bs.drop n) e1 st2 := by
    rcases hrep with ⟨rfl, rfl⟩ | ⟨h, rfl⟩
    · refine ⟨.left (bs.drop n), Step.map (f := strOfNums) (Step.bind hs ?_), .inl ⟨rfl, rfl⟩⟩
      simp only [Step, rtake, Int.toNat_natCast, and_self]
    · exact ⟨.err e1, Step.map (f := strOfNums) (Step.bind hs rfl), .inr ⟨h, rfl⟩⟩
  obtain ⟨st2, hst, hrep2⟩ := hst
  have hby2 : Bytes (bs.drop n) := fun x hx => hby x (List.mem_of_mem_drop hx)
  have hbl2 : (bs.drop n).length ≤ 1000000000 := by rw [List.length_drop]; omega
  have hCt : Kd.C (Kd.int .u8) w1 A (bs.take n).length (bs.take n) := by
    have := hA1 w0 (Kd.reads_of_C (h1 := fun _ => rfl) hC)
    rw [Int.toNat_natCast] at this
    exact Kd.C_below (Kd.C_of_reads (h1 := fun _ => rfl) this) hb
  have hCd : Kd.C (Kd.int .u8) w0 A2 (bs.drop n).length (bs.drop n) := by
    have := hA2 w0 (Kd.reads_of_C (h1 := fun _ => rfl) hC)
    rw [Int.toNat_natCast] at this
    exact Kd.C_of_reads (h1 := fun _ => rfl) this
  have hstr := Kd.C_string (P := Try.prog) (src := 25) (dst := 9) (c := c) Try.underlying25 Try.underlying5 Try.underlying9 hCt
  rw [Int.toNat_natCast] at hcut1 hcut2 hC2
  generalize bs.take n = T at *
  generalize bs.drop n = D at *
  have HST := Aside0.mk hst
  have HREP := Aside0.mk hrep2
  have HBY := Aside0.mk hby2
  have HBL := Aside0.mk hbl2
  have HCD := Aside0.mk hCd
  have HCC := Aside0.mk hC2
  have HB := Aside0.mk hb
  have HK := Aside0.mk hk
  have HG := Aside0.mk hg
  have HG0 := Aside0.mk hg0
  have hc0 := (blk_cell hg) 0
  have hz := free_of hg 0
  clear hn hs hg hg0 hC hc hrep hby hbl hb hk hA1 hA2 hC2 hst hrep2 hby2 hbl2 hCt hCd hi0 hsz K
  go_wp2
  go_ret
  exact ⟨_, strOfNums T, st2, rfl, rfl, HST.out, ⟨D, e1, ⟨A2, c - n, box_set (o := 0) HG.out _, HG0.out, HCD.out, HCC.out⟩, HREP.out, HBY.out, HBL.out⟩, HB.out.setCell (p := ⟨g, 0, none⟩) HG0.out _, HK.out.trans (Only.set _ _ 0 _)⟩
set_option maxHeartbeats 8000000 in
set_option maxRecDepth 20000 in
theorem in_version_T (g : Nat) (st : St) (w0 w : World) (hI : IP w0 w g st) (hB : Below w0.heap.size w0 w) :
    Calls Try.prog 77 #[.pointer (some ⟨g, 0, none⟩)] w (Told rVer VVer w0 w g st) := by
  obtain ⟨B, hB0⟩ : ∃ o, o = Obj.cells #[.int .i64 0, .int .i64 0, .int .i64 0, .string ⟨#[]⟩] 118 := ⟨_, rfl⟩
  have hbx := below_alloc (Below.refl w.heap.size w) B
  have HQ := Aside0.mk (heap_last w B)
  have HLE := Aside0.mk hB.size
  have HGN : Aside0 (g ≠ w.heap.size) := ⟨by have := hI.lt; omega⟩
  have HK0 := Aside0.mk (Only.below g hbx)
  have K := Aside0.mk (in_num_T g st w0 (w.alloc B) (hI.below hbx) (below_alloc hB B))
  subst hB0
  clear hI hB hbx
  go_enter Try.func77, Try.ntmps77
  go_wp2_with (fail)
  refine K.out.mono ?_
  rintro e w1 ⟨v, a, st1, rfl, hv, hs, hi, hb, hk⟩
  have hv' : v = .int .i64 a := hv
  subst hv'
  have HQ1 := Aside0.mk ((hk.2 _ (blk_lt HQ.out) HGN.out.symm).trans HQ.out)
  have HK1 := Aside0.mk (HK0.out.trans hk)
  have HS1 := Aside0.mk hs
  have K1 := Aside0.mk (in_num_T g st1 w0 w1 hi hb)
  clear K hv hs hi hb hk HQ HK0
  go_wp2_with (fail)
  refine K1.out.mono ?_
  rintro e w2 ⟨v, b, st2, rfl, hv, hs, hi, hb, hk⟩
  have hv' : v = .int .i64 b := hv
  subst hv'
  have HQ2 := Aside0.mk ((hk.2 _ (blk_lt HQ1.out) HGN.out.symm).trans HQ1.out)
  have HK2 := Aside0.mk (HK1.out.trans hk)
  have HS2 := Aside0.mk hs
  have K2 := Aside0.mk (in_num_T g st2 w0 w2 hi hb)
  clear K1 hv hs hi hb hk HQ1 HK1
  go_wp2_with (fail)
  refine K2.out.mono ?_
  rintro e w3 ⟨v, c, st3, rfl, hv, hs, hi, hb, hk⟩
  have hv' : v = .int .i64 c := hv
  subst hv'
  have HQ3 := Aside0.mk ((hk.2 _ (blk_lt HQ2.out) HGN.out.symm).trans HQ2.out)
  have HK3 := Aside0.mk (HK2.out.trans hk)
  have HS3 := Aside0.mk hs
  have K3 := Aside0.mk (in_text_T g st3 w0 w3 hi hb)
  clear K2 hv hs hi hb hk HQ2 HK2
  go_wp2_with (fail)
  refine K3.out.mono ?_
  rintro e w4 ⟨v, s, st4, rfl, hv, hs, hi, hb, hk⟩
  have hv' : v = .string s := hv
  subst hv'
  have HQ4 := Aside0.mk ((hk.2 _ (blk_lt HQ3.out) HGN.out.symm).trans HQ3.out)
  have HK4 := Aside0.mk (HK3.out.trans hk)
  have HS4 := Aside0.mk hs
  have HI4 := Aside0.mk hi
  have HB4 := Aside0.mk hb
  have hq0 := (blk_cell HQ4.out) 0
  have hq1 := (blk_cell HQ4.out) 1
  have hq2 := (blk_cell HQ4.out) 2
  have hq3 := (blk_cell HQ4.out) 3
  have hf0 := free_of HQ4.out 0
  have hf1 := free_of HQ4.out 1
  have hf2 := free_of HQ4.out 2
  have hf3 := free_of HQ4.out 3
  clear K3 hv hs hi hb hk HQ3 HK3
  go_wp2
  refine bodyPost_ret (v := .agg #[.int .i64 a, .int .i64 b, .int .i64 c, .string s]) (by simp [results, Try.results77, go_sem, hq0, hq1, hq2, hq3]) rfl ?_
  exact ⟨_, (a, b, c, s), st4, rfl, rfl, Step.bind HS1.out (Step.map (f := fun y => (a, y)) (Step.bind HS2.out (Step.map (f := fun y => (b, y)) (Step.bind HS3.out (Step.map (f := fun y => (c, y)) HS4.out))))), HI4.out.turned HGN.out (fun k hk => far4 w4 hk _ _ _ _), (((HB4.out.setCell (p := ⟨w.heap.size, 0, none⟩) HLE.out _).setCell (p := ⟨w.heap.size, 1, none⟩) HLE.out _).setCell (p := ⟨w.heap.size, 2, none⟩) HLE.out _).setCell (p := ⟨w.heap.size, 3, none⟩) HLE.out _, HK4.out.turned (Nat.le_refl _) (by simp) (fun k hk => far4 w4 hk _ _ _ _)⟩
end Go.Proofs.Ythefbeekcjchcaa.P
namespace Go.Proofs.Ythefbeekcjchcaa.P
open Go Go.RowKit Go.Proofs.YthefbeekcjchcaaW.PrintWords Go.Proofs.YthefbeekcjchcaaW.PrintLast Go.Proofs.YthefbeekcjchcaaW.PrintMore
set_option linter.unusedVariables false
set_option linter.unusedSimpArgs false
def VCmp (v : Value) (x : Cmp) (_ : World) : Prop := v = .agg #[.int .i64 x.1, .int .i64 x.2.1, .int .i64 x.2.2.1, .int .i64 x.2.2.2.1, .string x.2.2.2.2]
set_option maxHeartbeats 8000000 in
set_option maxRecDepth 20000 in
theorem in_comp_T (g : Nat) (st : St) (w0 w : World) (hI : IP w0 w g st) (hB : Below w0.heap.size w0 w) :
    Calls Try.prog 99 #[.pointer (some ⟨g, 0, none⟩)] w (Told rCmp VCmp w0 w g st) := by
  obtain ⟨B, hB0⟩ : ∃ o, o = Obj.cells #[.int .i64 0, .int .i64 0, .int .i64 0, .int .i64 0, .string ⟨#[]⟩] 177 := ⟨_, rfl⟩
  have hbx := below_alloc (Below.refl w.heap.size w) B
  have HQ := Aside0.mk (heap_last w B)
  have HLE := Aside0.mk hB.size
  have HGN : Aside0 (g ≠ w.heap.size) := ⟨by have := hI.lt; omega⟩
  have HK0 := Aside0.mk (Only.below g hbx)
  have K := Aside0.mk (in_num_T g st w0 (w.alloc B) (hI.below hbx) (below_alloc hB B))
  subst hB0
  clear hI hB hbx
  go_enter Try.func99, Try.ntmps99
  go_wp2_with (fail)
  refine K.out.mono ?_
  rintro e w1 ⟨v, op, st1, rfl, hv, hs, hi, hb, hk⟩
  have hv' : v = .int .i64 op := hv
  subst hv'
  have hq1 := (hk.2 _ (blk_lt HQ.out) HGN.out.symm).trans HQ.out
  have hb2 := below_alloc (Below.refl w1.heap.size w1) (Obj.cells #[.int .i64 op, .int .i64 0, .int .i64 0, .int .i64 0, .string ⟨#[]⟩] 177)
  have HQ2 := Aside0.mk ((hb2.block _ (blk_lt hq1)).trans hq1)
  have HC2 := Aside0.mk (heap_last w1 (.cells #[.int .i64 op, .int .i64 0, .int .i64 0, .int .i64 0, .string ⟨#[]⟩] 177))
  have HK2 := Aside0.mk ((HK0.out.trans hk).trans (Only.below g hb2))
  have HS1 := Aside0.mk hs
  have HI2 := Aside0.mk (hi.below hb2)
  have HB2 := Aside0.mk (below_alloc hb (.cells #[.int .i64 op, .int .i64 0, .int .i64 0, .int .i64 0, .string ⟨#[]⟩] 177))
  have HL1 : Aside0 (w.heap.size < w1.heap.size) := ⟨blk_lt hq1⟩
  have HG1 : Aside0 (g < w1.heap.size) := ⟨hi.lt⟩
  have hr0 := (blk_cell HC2.out) 0
  have hr1 := (blk_cell HC2.out) 1
  have hr2 := (blk_cell HC2.out) 2
  have hr3 := (blk_cell HC2.out) 3
  have hr4 := (blk_cell HC2.out) 4
  have hz0 := (blk_cell HQ2.out) 0
  have hz1 := (blk_cell HQ2.out) 1
  have hz2 := (blk_cell HQ2.out) 2
  have hz3 := (blk_cell HQ2.out) 3
  have hz4 := (blk_cell HQ2.out) 4
  have hf0 := free_of HQ2.out 0
  have hf1 := free_of HQ2.out 1
  have hf2 := free_of HQ2.out 2
  have hf3 := free_of HQ2.out 3
  have hf4 := free_of HQ2.out 4
  by_cases hop : op = 0
  · subst hop
    clear K hv hs hi hb hk hq1 hb2
    go_wp2
    refine bodyPost_ret (v := .agg #[.int .i64 0, .int .i64 0, .int .i64 0, .int .i64 0, .string ⟨#[]⟩]) (by simp [results, Try.results99, go_sem, hz0, hz1, hz2, hz3, hz4]) rfl ?_
    exact ⟨_, (0, noVer), st1, rfl, rfl, Step.bind HS1.out (Step.map (f := fun y => (0, y)) (by rw [if_pos rfl]; exact Step.pure _ _)), HI2.out.turned HGN.out (fun k hk => far5 _ hk _ _ _ _ _), ((((HB2.out.setCell (p := ⟨w.heap.size, 0, none⟩) HLE.out _).setCell (p := ⟨w.heap.size, 1, none⟩) HLE.out _).setCell (p := ⟨w.heap.size, 2, none⟩) HLE.out _).setCell (p := ⟨w.heap.size, 3, none⟩) HLE.out _).setCell (p := ⟨w.heap.size, 4, none⟩) HLE.out _, HK2.out.turned (Nat.le_refl _) (by simp) (fun k hk => far5 _ hk _ _ _ _ _)⟩
  · have z1 : (op != 0) = true := bne_iff_ne.2 hop
    have z0 : (op == 0) = false := beq_eq_false_iff_ne.2 hop
    have HOP := Aside0.mk hop
    have K2 := Aside0.mk (in_version_T g st1 w0 _ HI2.out HB2.out)
    clear K hv hs hi hb hk hq1 hb2 hop hz0 hz1 hz2 hz3 hz4 hf0 hf1 hf2 hf3 hf4
    go_wp2_with (fail)
    refine K2.out.mono ?_
    rintro e w3 ⟨v, x, st2, rfl, hv, hs, hi, hb, hk⟩
    obtain ⟨a, b, c, s⟩ := x
    have hv' : v = .agg #[.int .i64 a, .int .i64 b, .int .i64 c, .string s] := hv
    subst hv'
    have HQ3 := Aside0.mk ((hk.2 _ (blk_lt HQ2.out) HGN.out.symm).trans HQ2.out)
    have HC3 := Aside0.mk ((hk.2 _ (blk_lt HC2.out) (by have := HG1.out; omega)).trans HC2.out)
    have HK3 := Aside0.mk (HK2.out.trans hk)
    have HS2 := Aside0.mk hs
    have HI3 := Aside0.mk hi
    have HB3 := Aside0.mk hb
    clear hr0 hr1 hr2 hr3 hr4
    have hr0 := (blk_cell HC3.out) 0
    have hr1 := (blk_cell HC3.out) 1
    have hr2 := (blk_cell HC3.out) 2
    have hr3 := (blk_cell HC3.out) 3
    have hr4 := (blk_cell HC3.out) 4
    have hg1 := free_of HC3.out 1
    have hg2 := free_of HC3.out 2
    have hg3 := free_of HC3.out 3
    have hg4 := free_of HC3.out 4
    have hz0 := (blk_cell HQ3.out) 0
    have hz1 := (blk_cell HQ3.out) 1
    have hz2 := (blk_cell HQ3.out) 2
    have hz3 := (blk_cell HQ3.out) 3
    have hz4 := (blk_cell HQ3.out) 4
    have hf0 := free_of HQ3.out 0
    have hf1 := free_of HQ3.out 1
    have hf2 := free_of HQ3.out 2
    have hf3 := free_of HQ3.out 3
    have hf4 := free_of HQ3.out 4
    have hne : w1.heap.size ≠ w.heap.size := by have := HL1.out; omega
    have hne' : w.heap.size ≠ w1.heap.size := hne.symm
    clear K2 hv hs hi hb hk HQ2 HC2 HK2
    go_wp2
    refine bodyPost_ret (v := .agg #[.int .i64 op, .int .i64 a, .int .i64 b, .int .i64 c, .string s]) (by simp [results, Try.results99, go_sem, hz0, hz1, hz2, hz3, hz4]) rfl ?_
    have hs1 : ∀ k, k ≠ w1.heap.size → ((((w3.setCell ⟨w1.heap.size, 1, none⟩ (.int .i64 a)).setCell ⟨w1.heap.size, 2, none⟩ (.int .i64 b)).setCell ⟨w1.heap.size, 3, none⟩ (.int .i64 c)).setCell ⟨w1.heap.size, 4, none⟩ (.string s)).heap[k]? = w3.heap[k]? := fun k hk =>
      (Below.heap_setCell _ ⟨w1.heap.size, 4, none⟩ _ k hk).trans ((Below.heap_setCell _ ⟨w1.heap.size, 3, none⟩ _ k hk).trans ((Below.heap_setCell _ ⟨w1.heap.size, 2, none⟩ _ k hk).trans (Below.heap_setCell _ ⟨w1.heap.size, 1, none⟩ _ k hk)))
    have hle1 : w0.heap.size ≤ w1.heap.size := by have := HLE.out; have := HL1.out; omega
    have hbb := (((HB3.out.setCell (p := ⟨w1.heap.size, 1, none⟩) hle1 (.int .i64 a)).setCell (p := ⟨w1.heap.size, 2, none⟩) hle1 (.int .i64 b)).setCell (p := ⟨w1.heap.size, 3, none⟩) hle1 (.int .i64 c)).setCell (p := ⟨w1.heap.size, 4, none⟩) hle1 (.string s)
    have hi5 := HI3.out.turned (by have := HG1.out; omega) hs1
    have hk5 := HK3.out.turned (Nat.le_of_lt HL1.out) (by simp) hs1
    exact ⟨_, (op, a, b, c, s), st2, rfl, rfl, Step.bind HS1.out (Step.map (f := fun y => (op, y)) (by rw [if_neg HOP.out]; exact HS2.out)), hi5.turned HGN.out (fun k hk => far5 _ hk _ _ _ _ _), ((((hbb.setCell (p := ⟨w.heap.size, 0, none⟩) HLE.out _).setCell (p := ⟨w.heap.size, 1, none⟩) HLE.out _).setCell (p := ⟨w.heap.size, 2, none⟩) HLE.out _).setCell (p := ⟨w.heap.size, 3, none⟩) HLE.out _).setCell (p := ⟨w.heap.size, 4, none⟩) HLE.out _, hk5.turned (Nat.le_refl _) (by simp) (fun k hk => far5 _ hk _ _ _ _ _)⟩
theorem info_cmp : (Try.prog.info? 177).map (fun i => (i.zero, i.size, i.bytes)) = some (some (.agg #[.int .i64 0, .int .i64 0, .int .i64 0, .int .i64 0, .string ⟨#[]⟩]), 5, 48) := by kernel_rfl
set_option maxHeartbeats 8000000 in
set_option maxRecDepth 20000 in
theorem things_cmp_T (g gb : Nat) (st : St) (w0 w : World) (hI : IP w0 w g st) (hX : BXI w gb g) (hB : Below w0.heap.size w0 w) :
    Calls Try.prog 98 #[.pointer (some ⟨g, 0, none⟩), .func (.func 99) #[.pointer (some ⟨g, 0, none⟩)] #[]] w (Told (rlist rCmp) (VRow kCmp 177 w.heap.size g) w0 w g st) := by
  have K := Aside0.mk (in_size_T g st w0 w hI hB)
  have HX := Aside0.mk hX
  have HW := Aside0.mk hB.size
  clear hI hB hX
  go_enter Try.func98, Try.ntmps98
  go_wp2_with (fail)
  refine K.out.mono ?_
  rintro e w1 ⟨m, bs1, e1, st1, rfl, hm, hs, hi, hrep, hby, hbl, hb, hk⟩
  have HM : Aside0 (m ≤ 1000000000) := ⟨by omega⟩
  have HS := Aside0.mk hs
  have HI : Aside0 (IP w0 w1 g st1) := ⟨_, _, hi, hrep, hby, hbl⟩
  have HB := Aside0.mk hb
  have HK := Aside0.mk hk
  clear hm hs hi hrep hby hbl hb hk K
  go_wp2
  go_loopg [5, 8] m (fun kq v5 v8 w' => ∃ (i : Nat) (out : List Cmp) (s : St), v8 = .int .i64 (i : Int) ∧ Aside0 (i + kq = m) ∧ Aside0 (out.length = i) ∧ Aside0 (Goes rCmp m st1 kq out s) ∧ Aside0 (IP w0 w' g s) ∧ Aside0 (Kd.R kCmp 177 w' w.heap.size (fun k => k ≠ g) v5 out) ∧ Aside0 (Below w0.heap.size w0 w') ∧ Aside0 (Only w w' g))
  case atStart => exact ⟨0, [], st1, rfl, ⟨by omega⟩, ⟨rfl⟩, ⟨Goes.start _ _ _⟩, HI, ⟨Kd.R_nil _ _ _ _ _⟩, HB, HK⟩
  case round =>
    clear HI HB HK
    obtain ⟨i, out, s, rfl, HJ, HOL, HG, HI, HO, HB, HK⟩ := hrel
    obtain ⟨ee, hc1, hee⟩ := HI.out.ecell
    have HEE := Aside0.mk hee
    clear hee
    cases gk with
    | zero =>
      have e1 : decide (i < m) = false := decide_eq_false (by have := HJ.out; omega)
      go_wp2
      go_ret
      exact ⟨_, out, s, rfl, HO.out, Step.list HS.out (HG.out.done), HI.out, HB.out, HK.out⟩
    | succ gk =>
      have e1 : decide (i < m) = true := decide_eq_true (by have := HJ.out; omega)
      have e5 : wrap64 ((i : Int) + 1) = ((i + 1 : Nat) : Int) := by have := HJ.out; have := HM.out; unfold wrap64; omega
      rcases HEE.out with ⟨he, bs, rfl⟩ | ⟨he, rfl⟩
      · have h0 : (ee == 0) = true := beq_iff_eq.2 he
        have h1 : (ee != 0) = false := bne_eq_false_iff_eq.2 he
        have K := Aside0.mk (in_comp_T g _ w0 wr HI.out HB.out)
        have HLE := Aside0.mk HK.out.1
        clear he
        go_wp2_with (fail)
        refine K.out.mono ?_
        rintro e w2 ⟨v, x, s2, rfl, hv, hs, hi, hb, hk⟩
        have HO1 := Aside0.mk (R_only HO.out hk)
        have HI1 := Aside0.mk hi
        have HB1 := Aside0.mk hb
        have HK1 := Aside0.mk (HK.out.trans hk)
        have HS1 := Aside0.mk hs
        have HFR : Aside0 (∀ k, w2.heap.size ≤ k → k ≠ g) := ⟨fun k hk => by have := hi.lt; omega⟩
        have hv' : v = .agg #[.int .i64 x.1, .int .i64 x.2.1, .int .i64 x.2.2.1, .int .i64 x.2.2.2.1, .string x.2.2.2.2] := hv
        subst hv'
        have hm : kCmp.M w2 w.heap.size (fun k => k ≠ g) x [.int .i64 x.1, .int .i64 x.2.1, .int .i64 x.2.2.1, .int .i64 x.2.2.2.1, .string x.2.2.2.2] := ⟨[_], [_, _, _, _], rfl, rfl, [_], [_, _, _], rfl, rfl, [_], [_, _], rfl, rfl, [_], [_], rfl, rfl, rfl⟩
        clear hv
        have HV := Aside0.mk (Kd.M_apart hm HO1.out (by decide))
        clear hi hb hk hs K hm
        go_wp2_with (first | ((with_reducible refine gate_dst (N := 18) rfl ?_); refine Kd.R_lit kCmp (w0 := w2) w.heap.size 177 ?hg (N := 18) ?hd (xs := [x]) (inner := [.int .i64 x.1, .int .i64 x.2.1, .int .i64 x.2.2.1, .int .i64 x.2.2.2.1, .string x.2.2.2.2]) (ok := fun k => k ≠ g ∧ some k ≠ u5.ownBlock) (okp := fun k => k ≠ g ∧ some k ≠ u5.ownBlock) ?hr ?hp (fun _ hk => hk) ⟨HFR.out _ (Nat.le_refl _), Kd.R_fresh HO1.out⟩ (Below.refl _ _) HK1.out.1 (by simp) ?_; (case hd => rfl); (case hg => rfl); (case hr => first | (go_simp; done) | (go_simp; rfl)); (case hp => exact reps1 HV.out rfl); intro v43 w7 ho hb hg_ hnew_; obtain ⟨A43, c43, rfl, hcl43, hC43⟩ := OwnRow.reads ho.2; have HC43 := Aside0.mk hC43; have HO2 := Aside0.mk (Kd.R_grown HO1.out hg_ (fun _ _ => by simp)); have HI2 := Aside0.mk (HI1.out.grown hg_ (by simp)); have HB2 := Aside0.mk (HB1.out.trans (hb.mono HW.out)); have HK2 := Aside0.mk (HK1.out.belowG hb hg_.size); have HFR2 : Aside0 (∀ k, w7.heap.size ≤ k → k ≠ g) := ⟨fun k hk => HFR.out k (Nat.le_trans hg_.size hk)⟩; clear ho hb hC43 hcl43 hg_ hnew_) | ((with_reducible refine gate_builtin (b := .append) (xs := #[.tmp 15, .tmp 18]) rfl ?_); at_builtin; refine Kd.R_append_rows kCmp (w0 := w7) w.heap.size rfl (.tmp 15) (.tmp 18) 174 177 (.agg #[.int .i64 0, .int .i64 0, .int .i64 0, .int .i64 0, .string ⟨#[]⟩]) 48 rfl Try.underlying174 info_cmp rfl (by decide) (by decide) u5 out [x] A43 1 c43 (fun k => k ≠ g) _ rfl rfl HO2.out HC43.out (fun _ _ h => h) (fun k hk => ⟨hk.1.1, hk.1.2⟩) HFR2.out (Below.refl _ _) HK2.out.1 (by have := HOL.out; have := HJ.out; have := HM.out; omega) ?_; intro v44 w8 ho hb hgr hat; have HO3 := Aside0.mk ho; have HB3 := Aside0.mk (HB2.out.trans (hb.mono HW.out)); have HI3 := Aside0.mk (HI2.out.grown hgr (Kd.R_away HO2.out (fun k hk => hk))); have HK3 := Aside0.mk (HK2.out.belowG hb hgr.size); clear ho hb hgr hat))
        go_roundg gk
        case measure => omega
        case rel => exact ⟨i + 1, out ++ [x], s2, (by first | exact congrArg _ e5 | rfl), ⟨by have := HJ.out; omega⟩, ⟨by simp [HOL.out]⟩, ⟨HG.out.next HS1.out⟩, HI3, HO3, HB3, HK3⟩
      · have h0 : (ee == 0) = false := beq_eq_false_iff_ne.2 he
        have h1 : (ee != 0) = true := bne_iff_ne.2 he
        clear he
        go_wp2
        go_ret
        exact ⟨_, [], _, rfl, Kd.R_nil _ _ _ _ _, Step.list HS.out (HG.out.fails []), HI.out, HB.out, HK.out⟩
set_option maxHeartbeats 4000000 in
set_option maxRecDepth 20000 in
theorem rg1_T (g gb : Nat) (st : St) (w0 w : World) (hI : IP w0 w g st) (hX : BXI w gb g) (hB : Below w0.heap.size w0 w) :
    Calls Try.prog 97 #[.pointer (some ⟨gb, 0, none⟩)] w (Told (rlist rCmp) (VRow kCmp 177 w.heap.size g) w0 w g st) := by
  have hmf : ∀ (fn : Fn) (first cap : Array Value) (w : World), (Instr.makeFunc fn first cap).run Try.prog w = .ok (.func fn first cap) w := fun _ _ _ _ => rfl
  have K := Aside0.mk (things_cmp_T g gb st w0 w hI hX hB)
  have hx := (blk_cell hX.1) 0
  clear hI hX hB
  go_enter Try.func97, Try.ntmps97
  go_wp2_with (fail)
  refine K.out.mono ?_
  rintro e' w1 ⟨v, x, st1, rfl, hr, hs, hi, hb, hk⟩
  have HR := Aside0.mk hr
  have HI := Aside0.mk hi
  have HB := Aside0.mk hb
  have HK := Aside0.mk hk
  have HS := Aside0.mk hs
  clear hr hi hb hk hs K
  go_wp2
  go_ret
  exact ⟨v, x, st1, rfl, HR.out, HS.out, HI.out, HB.out, HK.out⟩
theorem info_comps : (Try.prog.info? 174).map (fun i => (i.zero, i.size, i.bytes)) = some (some (.slice none 0 0), 1, 24) := by kernel_rfl
set_option maxHeartbeats 8000000 in
set_option maxRecDepth 20000 in
theorem things_comps_T (g gb : Nat) (st : St) (w0 w : World) (hI : IP w0 w g st) (hX : BXI w gb g) (hB : Below w0.heap.size w0 w) :
    Calls Try.prog 96 #[.pointer (some ⟨g, 0, none⟩), .func (.func 97) #[] #[.pointer (some ⟨gb, 0, none⟩)]] w (Told (rlist (rlist rCmp)) (VRow kCmps 174 w.heap.size g) w0 w g st) := by
  have K := Aside0.mk (in_size_T g st w0 w hI hB)
  have HX := Aside0.mk hX
  have HW := Aside0.mk hB.size
  clear hI hB hX
  go_enter Try.func96, Try.ntmps96
  go_wp2_with (fail)
  refine K.out.mono ?_
  rintro e w1 ⟨m, bs1, e1, st1, rfl, hm, hs, hi, hrep, hby, hbl, hb, hk⟩
  have HM : Aside0 (m ≤ 1000000000) := ⟨by omega⟩
  have HS := Aside0.mk hs
  have HI : Aside0 (IP w0 w1 g st1) := ⟨_, _, hi, hrep, hby, hbl⟩
  have HB := Aside0.mk hb
  have HK := Aside0.mk hk
  clear hm hs hi hrep hby hbl hb hk K
  go_wp2
  go_loopg [5, 8] m (fun kq v5 v8 w' => ∃ (i : Nat) (out : List (List Cmp)) (s : St), v8 = .int .i64 (i : Int) ∧ Aside0 (i + kq = m) ∧ Aside0 (out.length = i) ∧ Aside0 (Goes (rlist rCmp) m st1 kq out s) ∧ Aside0 (IP w0 w' g s) ∧ Aside0 (Kd.R kCmps 174 w' w.heap.size (fun k => k ≠ g) v5 out) ∧ Aside0 (Below w0.heap.size w0 w') ∧ Aside0 (Only w w' g))
  case atStart => exact ⟨0, [], st1, rfl, ⟨by omega⟩, ⟨rfl⟩, ⟨Goes.start _ _ _⟩, HI, ⟨Kd.R_nil _ _ _ _ _⟩, HB, HK⟩
  case round =>
    clear HI HB HK
    obtain ⟨i, out, s, rfl, HJ, HOL, HG, HI, HO, HB, HK⟩ := hrel
    obtain ⟨ee, hc1, hee⟩ := HI.out.ecell
    have HEE := Aside0.mk hee
    clear hee
    cases gk with
    | zero =>
      have e1 : decide (i < m) = false := decide_eq_false (by have := HJ.out; omega)
      go_wp2
      go_ret
      exact ⟨_, out, s, rfl, HO.out, Step.list HS.out (HG.out.done), HI.out, HB.out, HK.out⟩
    | succ gk =>
      have e1 : decide (i < m) = true := decide_eq_true (by have := HJ.out; omega)
      have e5 : wrap64 ((i : Int) + 1) = ((i + 1 : Nat) : Int) := by have := HJ.out; have := HM.out; unfold wrap64; omega
      rcases HEE.out with ⟨he, bs, rfl⟩ | ⟨he, rfl⟩
      · have h0 : (ee == 0) = true := beq_iff_eq.2 he
        have h1 : (ee != 0) = false := bne_eq_false_iff_eq.2 he
        have K := Aside0.mk (rg1_T g gb _ w0 wr HI.out (HX.out.only HK.out) HB.out)
        have HLE := Aside0.mk HK.out.1
        clear he
        go_wp2_with (fail)
        refine K.out.mono ?_
        rintro e w2 ⟨v, x, s2, rfl, hv, hs, hi, hb, hk⟩
        have HO1 := Aside0.mk (R_only HO.out hk)
        have HI1 := Aside0.mk hi
        have HB1 := Aside0.mk hb
        have HK1 := Aside0.mk (HK.out.trans hk)
        have HS1 := Aside0.mk hs
        have HFR : Aside0 (∀ k, w2.heap.size ≤ k → k ≠ g) := ⟨fun k hk => by have := hi.lt; omega⟩
        obtain ⟨Ae, ce, rfl⟩ := Kd.R_slice hv
        have hm : kCmps.M w2 w.heap.size (fun k => k ≠ g) x [.slice Ae x.length ce] := ⟨_, rfl, Kd.R_lower hv HLE.out⟩
        clear hv
        have HV := Aside0.mk (Kd.M_apart hm HO1.out (by decide))
        clear hi hb hk hs K hm
        go_wp2_with (first | ((with_reducible refine gate_dst (N := 18) rfl ?_); refine Kd.R_lit kCmps (w0 := w2) w.heap.size 174 ?hg (N := 18) ?hd (xs := [x]) (inner := [.slice Ae x.length ce]) (ok := fun k => k ≠ g ∧ some k ≠ u5.ownBlock) (okp := fun k => k ≠ g ∧ some k ≠ u5.ownBlock) ?hr ?hp (fun _ hk => hk) ⟨HFR.out _ (Nat.le_refl _), Kd.R_fresh HO1.out⟩ (Below.refl _ _) HK1.out.1 (by simp) ?_; (case hd => rfl); (case hg => rfl); (case hr => first | (go_simp; done) | (go_simp; rfl)); (case hp => exact reps1 HV.out rfl); intro v43 w7 ho hb hg_ hnew_; obtain ⟨A43, c43, rfl, hcl43, hC43⟩ := OwnRow.reads ho.2; have HC43 := Aside0.mk hC43; have HO2 := Aside0.mk (Kd.R_grown HO1.out hg_ (fun _ _ => by simp)); have HI2 := Aside0.mk (HI1.out.grown hg_ (by simp)); have HB2 := Aside0.mk (HB1.out.trans (hb.mono HW.out)); have HK2 := Aside0.mk (HK1.out.belowG hb hg_.size); have HFR2 : Aside0 (∀ k, w7.heap.size ≤ k → k ≠ g) := ⟨fun k hk => HFR.out k (Nat.le_trans hg_.size hk)⟩; clear ho hb hC43 hcl43 hg_ hnew_) | ((with_reducible refine gate_builtin (b := .append) (xs := #[.tmp 15, .tmp 18]) rfl ?_); at_builtin; refine Kd.R_append_rows kCmps (w0 := w7) w.heap.size rfl (.tmp 15) (.tmp 18) 126 174 (.slice none 0 0) 24 rfl Try.underlying126 info_comps rfl (by decide) (by decide) u5 out [x] A43 1 c43 (fun k => k ≠ g) _ rfl rfl HO2.out HC43.out (fun _ _ h => h) (fun k hk => ⟨hk.1.1, hk.1.2⟩) HFR2.out (Below.refl _ _) HK2.out.1 (by have := HOL.out; have := HJ.out; have := HM.out; omega) ?_; intro v44 w8 ho hb hgr hat; have HO3 := Aside0.mk ho; have HB3 := Aside0.mk (HB2.out.trans (hb.mono HW.out)); have HI3 := Aside0.mk (HI2.out.grown hgr (Kd.R_away HO2.out (fun k hk => hk))); have HK3 := Aside0.mk (HK2.out.belowG hb hgr.size); clear ho hb hgr hat))
        go_roundg gk
        case measure => omega
        case rel => exact ⟨i + 1, out ++ [x], s2, (by first | exact congrArg _ e5 | rfl), ⟨by have := HJ.out; omega⟩, ⟨by simp [HOL.out]⟩, ⟨HG.out.next HS1.out⟩, HI3, HO3, HB3, HK3⟩
      · have h0 : (ee == 0) = false := beq_eq_false_iff_ne.2 he
        have h1 : (ee != 0) = true := bne_iff_ne.2 he
        clear he
        go_wp2
        go_ret
        exact ⟨_, [], _, rfl, Kd.R_nil _ _ _ _ _, Step.list HS.out (HG.out.fails []), HI.out, HB.out, HK.out⟩
def VRg (base g : Nat) (v : Value) (x : Rng) (w : World) : Prop := ∃ A c, v = .agg #[.slice A x.length c] ∧ kCmps.R 174 w base (fun k => k ≠ g) (.slice A x.length c) x
set_option maxHeartbeats 8000000 in
set_option maxRecDepth 20000 in
theorem in_ranged_T (g : Nat) (st : St) (w0 w : World) (hI : IP w0 w g st) (hB : Below w0.heap.size w0 w) :
    Calls Try.prog 69 #[.pointer (some ⟨g, 0, none⟩)] w (Told rRng (VRg w.heap.size g) w0 w g st) := by
  have hmf : ∀ (fn : Fn) (first cap : Array Value) (w : World), (Instr.makeFunc fn first cap).run Try.prog w = .ok (.func fn first cap) w := fun _ _ _ _ => rfl
  obtain ⟨B1, hB1⟩ : ∃ o, o = Obj.cells #[.pointer (some ⟨g, 0, none⟩)] 96 := ⟨_, rfl⟩
  obtain ⟨B2, hB2⟩ : ∃ o, o = Obj.cells #[.slice none 0 0] 128 := ⟨_, rfl⟩
  have hbb := below_alloc (below_alloc (Below.refl w.heap.size w) B1) B2
  have hx := box_lit w B1 B2
  have hy := heap_last (w.alloc B1) B2
  rw [World.size_alloc] at hy
  have HL : Aside0 (g < w.heap.size) := ⟨hI.lt⟩
  have hX : BXI ((w.alloc B1).alloc B2) w.heap.size g := ⟨by rw [hx, hB1], by have := hI.lt; omega⟩
  have HLE := Aside0.mk hB.size
  have K := Aside0.mk (things_comps_T g w.heap.size st w0 _ (hI.below hbb) hX (below_alloc (below_alloc hB _) _))
  have HK0 := Aside0.mk (Only.below g hbb)
  subst hB1 hB2
  have HY := Aside0.mk hy
  have hx0 := (blk_cell hx) 0
  clear hI hX hB hbb hx hy
  go_enter Try.func69, Try.ntmps69
  go_wp2_with (fail)
  refine K.out.mono ?_
  rintro e' w1 ⟨v, x, st1, rfl, hr, hs, hi, hb, hk⟩
  have HR := Aside0.mk (Kd.R_lower (base' := w.heap.size) hr HK0.out.1)
  obtain ⟨A, c, rfl⟩ := Kd.R_slice hr
  have HI := Aside0.mk hi
  have HB := Aside0.mk hb
  have HK := Aside0.mk (HK0.out.trans hk)
  have HS := Aside0.mk hs
  have HY1 := Aside0.mk ((hk.2 (w.heap.size + 1) (blk_lt HY.out) (by have := HL.out; omega)).trans HY.out)
  have hz := (blk_cell HY1.out) 0
  have hf := free_of HY1.out 0
  clear hr hi hb hk hs K hx0
  go_wp2
  refine bodyPost_ret (v := .agg #[.slice A x.length c]) (by simp [results, Try.results69, go_sem, hz]) rfl ?_
  exact ⟨_, x, st1, rfl, ⟨A, c, rfl, Kd.R_turned HR.out HY1.out (by decide) (fun k hk => far1 _ hk _)⟩, HS.out, HI.out.turned (b := w.heap.size + 1) (by have := HL.out; omega) (fun k hk => far1 _ hk _), HB.out.setCell (p := ⟨w.heap.size + 1, 0, none⟩) (by have := HLE.out; show _ ≤ w.heap.size + 1; omega) _, HK.out.turned (b := w.heap.size + 1) (by omega) (by simp) (fun k hk => far1 _ hk _)⟩
end Go.Proofs.Ythefbeekcjchcaa.P
