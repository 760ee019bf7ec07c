import Derived.Test.YthefbeekcjchcaaGetPlan
import Derived.Test.YthefbeekcjchcaaPutReq
namespace Go.Proofs.Ythefbeekcjchcaa.P
open Go Go.RowKit Go.Proofs.YthefbeekcjchcaaW.PrintWords Go.Proofs.YthefbeekcjchcaaW.PrintLast Go.Proofs.YthefbeekcjchcaaW.PrintMore
set_option linter.unusedVariables false
set_option linter.unusedSimpArgs false
theorem far1 (w : World) {k b : Nat} (h : k ≠ b) (a0 : Value) : (w.setCell ⟨b, 0, none⟩ a0).heap[k]? = w.heap[k]? := Below.heap_setCell w ⟨b, 0, none⟩ a0 k h
theorem far2 (w : World) {k b : Nat} (h : k ≠ b) (a0 a1 : Value) : ((w.setCell ⟨b, 0, none⟩ a0).setCell ⟨b, 1, none⟩ a1).heap[k]? = w.heap[k]? := (Below.heap_setCell _ ⟨b, 1, none⟩ a1 k h).trans (far1 w h a0)
theorem far3 (w : World) {k b : Nat} (h : k ≠ b) (a0 a1 a2 : Value) : (((w.setCell ⟨b, 0, none⟩ a0).setCell ⟨b, 1, none⟩ a1).setCell ⟨b, 2, none⟩ a2).heap[k]? = w.heap[k]? := (Below.heap_setCell _ ⟨b, 2, none⟩ a2 k h).trans (far2 w h a0 a1)
theorem far4 (w : World) {k b : Nat} (h : k ≠ b) (a0 a1 a2 a3 : Value) : ((((w.setCell ⟨b, 0, none⟩ a0).setCell ⟨b, 1, none⟩ a1).setCell ⟨b, 2, none⟩ a2).setCell ⟨b, 3, none⟩ a3).heap[k]? = w.heap[k]? := (Below.heap_setCell _ ⟨b, 3, none⟩ a3 k h).trans (far3 w h a0 a1 a2)
theorem far5 (w : World) {k b : Nat} (h : k ≠ b) (a0 a1 a2 a3 a4 : Value) : (((((w.setCell ⟨b, 0, none⟩ a0).setCell ⟨b, 1, none⟩ a1).setCell ⟨b, 2, none⟩ a2).setCell ⟨b, 3, none⟩ a3).setCell ⟨b, 4, none⟩ a4).heap[k]? = w.heap[k]? := (Below.heap_setCell _ ⟨b, 4, none⟩ a4 k h).trans (far4 w h a0 a1 a2 a3)
theorem far6 (w : World) {k b : Nat} (h : k ≠ b) (a0 a1 a2 a3 a4 a5 : Value) : ((((((w.setCell ⟨b, 0, none⟩ a0).setCell ⟨b, 1, none⟩ a1).setCell ⟨b, 2, none⟩ a2).setCell ⟨b, 3, none⟩ a3).setCell ⟨b, 4, none⟩ a4).setCell ⟨b, 5, none⟩ a5).heap[k]? = w.heap[k]? := (Below.heap_setCell _ ⟨b, 5, none⟩ a5 k h).trans (far5 w h a0 a1 a2 a3 a4)
/-- A block that was turned, and lies beyond: what is known of all else. -/
theorem IP.turned {w0 w w' : World} {g b : Nat} {st : St} (h : IP w0 w g st) (hb : g ≠ b) (hf : ∀ k, k ≠ b → w'.heap[k]? = w.heap[k]?) : IP w0 w' g st := by
  obtain ⟨bs, e, ⟨A, c, h1, r⟩, h2⟩ := h
  exact ⟨bs, e, ⟨A, c, (hf g hb).trans h1, r⟩, h2⟩
theorem Only.turned {w w1 w' : World} {g b : Nat} (h : Only w w1 g) (hb : w.heap.size ≤ b) (hs : w'.heap.size = w1.heap.size) (hf : ∀ k, k ≠ b → w'.heap[k]? = w1.heap[k]?) : Only w w' g :=
  ⟨by rw [hs]; exact h.1, fun k hk hg => (hf k (by omega)).trans (h.2 k hk hg)⟩
theorem Kd.R_turned {α : Type} {d : Kd α} {e : Nat} {w w' : World} {base : Nat} {ok : Nat → Prop} {v : Value} {xs : List α} {b t : Nat} {cells : Array Value} (h : d.R e w base ok v xs) (hb : w.heap[b]? = some (.cells cells t (0, 0))) (ht : ∀ q, q ∈ e :: d.E → q ≠ t) (hf : ∀ k, k ≠ b → w'.heap[k]? = w.heap[k]?) : d.R e w' base ok v xs :=
  Kd.R_mono (Kd.R_step (Kd.R_types h hb ht) (fun k hk _ => hf k hk.2)) (fun _ hk => hk.1)
def VStr (v : Value) (x : ByteArray) (_ : World) : Prop := v = .string x
def VVer (v : Value) (x : Ver) (_ : World) : Prop := v = .agg #[.int .i64 x.1, .int .i64 x.2.1, .int .i64 x.2.2.1, .string x.2.2.2]
set_option maxHeartbeats 8000000 in
set_option maxRecDepth 20000 in
theorem in_text_T (g : Nat) (st : St) (w0 w : World) (hI : IP w0 w g st) (hB : Below w0.heap.size w0 w) :
    Calls Try.prog 80 #[.pointer (some ⟨g, 0, none⟩)] w (Told rText VStr w0 w g st) := by
  have K := Aside0.mk (in_size_T g st w0 w hI hB)
  clear hI hB
  go_enter Try.func80, Try.ntmps80
  go_wp2_with (fail)
  refine K.out.mono ?_
  rintro e w1 ⟨n, bs, e1, st1, rfl, hn, hs, ⟨A, c, hg, hg0, hC, hc⟩, hrep, hby, hbl, hb, hk⟩
  obtain ⟨i0, hi0, _, hsz, _⟩ := info_parts infoB5
  have hcut1 := (print_take_of (P := Try.prog) (Value.int .u8) 0 25 5 .i64 Try.underlying25 hi0 hsz A c bs (n : Int) (by omega) (by omega) hc)
  obtain ⟨A2, hcut2, hA2, hC2⟩ := print_drop_of (P := Try.prog) (Value.int .u8) 0 25 5 .i64 Try.underlying25 hi0 hsz A c bs (n : Int) (by omega) (by omega) hc
  obtain ⟨hcut1, hA1, _⟩ := hcut1
  have hst : ∃ st2, Step rText st (strOfNums (bs.take n)) st2 ∧ Rep (bs.drop n) e1 st2 := by
    rcases hrep with ⟨rfl, rfl⟩ | ⟨h, rfl⟩
    · refine ⟨.left (bs.drop n), Step.map (f := strOfNums) (Step.bind hs ?_), .inl ⟨rfl, rfl⟩⟩
      simp only [Step, rtake, Int.toNat_natCast, and_self]
    · exact ⟨.err e1, Step.map (f := strOfNums) (Step.bind hs rfl), .inr ⟨h, rfl⟩⟩
  obtain ⟨st2, hst, hrep2⟩ := hst
  have hby2 : Bytes (bs.drop n) := fun x hx => hby x (List.mem_of_mem_drop hx)
  have hbl2 : (bs.drop n).length ≤ 1000000000 := by rw [List.length_drop]; omega
  have hCt : Kd.C (Kd.int .u8) w1 A (bs.take n).length (bs.take n) := by
    have := hA1 w0 (Kd.reads_of_C (h1 := fun _ => rfl) hC)
    rw [Int.toNat_natCast] at this
    exact Kd.C_below (Kd.C_of_reads (h1 := fun _ => rfl) this) hb
  have hCd : Kd.C (Kd.int .u8) w0 A2 (bs.drop n).length (bs.drop n) := by
    have := hA2 w0 (Kd.reads_of_C (h1 := fun _ => rfl) hC)
    rw [Int.toNat_natCast] at this
    exact Kd.C_of_reads (h1 := fun _ => rfl) this
  have hstr := Kd.C_string (P := Try.prog) (src := 25) (dst := 9) (c := c) Try.underlying25 Try.underlying5 Try.underlying9 hCt
  rw [Int.toNat_natCast] at hcut1 hcut2 hC2
  generalize bs.take n = T at *
  generalize bs.drop n = D at *
  have HST := Aside0.mk hst
  have HREP := Aside0.mk hrep2
  have HBY := Aside0.mk hby2
  have HBL := Aside0.mk hbl2
  have HCD := Aside0.mk hCd
  have HCC := Aside0.mk hC2
  have HB := Aside0.mk hb
  have HK := Aside0.mk hk
  have HG := Aside0.mk hg
  have HG0 := Aside0.mk hg0
  have hc0 := (blk_cell hg) 0
  have hz := free_of hg 0
  clear hn hs hg hg0 hC hc hrep hby hbl hb hk hA1 hA2 hC2 hst hrep2 hby2 hbl2 hCt hCd hi0 hsz K
  go_wp2
  go_ret
  exact ⟨_, strOfNums T, st2, rfl, rfl, HST.out, ⟨D, e1, ⟨A2, c - n, box_set (o := 0) HG.out _, HG0.out, HCD.out, HCC.out⟩, HREP.out, HBY.out, HBL.out⟩, HB.out.setCell (p := ⟨g, 0, none⟩) HG0.out _, HK.out.trans (Only.set _ _ 0 _)⟩
set_option maxHeartbeats 8000000 in
set_option maxRecDepth 20000 in
theorem in_version_T (g : Nat) (st : St) (w0 w : World) (hI : IP w0 w g st) (hB : Below w0.heap.size w0 w) :
    Calls Try.prog 77 #[.pointer (some ⟨g, 0, none⟩)] w (Told rVer VVer w0 w g st) := by
  obtain ⟨B, hB0⟩ : ∃ o, o = Obj.cells #[.int .i64 0, .int .i64 0, .int .i64 0, .string ⟨#[]⟩] 118 := ⟨_, rfl⟩
  have hbx := below_alloc (Below.refl w.heap.size w) B
  have HQ := Aside0.mk (heap_last w B)
  have HLE := Aside0.mk hB.size
  have HGN : Aside0 (g ≠ w.heap.size) := ⟨by have := hI.lt; omega⟩
  have HK0 := Aside0.mk (Only.below g hbx)
  have K := Aside0.mk (in_num_T g st w0 (w.alloc B) (hI.below hbx) (below_alloc hB B))
  subst hB0
  clear hI hB hbx
  go_enter Try.func77, Try.ntmps77
  go_wp2_with (fail)
  refine K.out.mono ?_
  rintro e w1 ⟨v, a, st1, rfl, hv, hs, hi, hb, hk⟩
  have hv' : v = .int .i64 a := hv
  subst hv'
  have HQ1 := Aside0.mk ((hk.2 _ (blk_lt HQ.out) HGN.out.symm).trans HQ.out)
  have HK1 := Aside0.mk (HK0.out.trans hk)
  have HS1 := Aside0.mk hs
  have K1 := Aside0.mk (in_num_T g st1 w0 w1 hi hb)
  clear K hv hs hi hb hk HQ HK0
  go_wp2_with (fail)
  refine K1.out.mono ?_
  rintro e w2 ⟨v, b, st2, rfl, hv, hs, hi, hb, hk⟩
  have hv' : v = .int .i64 b := hv
  subst hv'
  have HQ2 := Aside0.mk ((hk.2 _ (blk_lt HQ1.out) HGN.out.symm).trans HQ1.out)
  have HK2 := Aside0.mk (HK1.out.trans hk)
  have HS2 := Aside0.mk hs
  have K2 := Aside0.mk (in_num_T g st2 w0 w2 hi hb)
  clear K1 hv hs hi hb hk HQ1 HK1
  go_wp2_with (fail)
  refine K2.out.mono ?_
  rintro e w3 ⟨v, c, st3, rfl, hv, hs, hi, hb, hk⟩
  have hv' : v = .int .i64 c := hv
  subst hv'
  have HQ3 := Aside0.mk ((hk.2 _ (blk_lt HQ2.out) HGN.out.symm).trans HQ2.out)
  have HK3 := Aside0.mk (HK2.out.trans hk)
  have HS3 := Aside0.mk hs
  have K3 := Aside0.mk (in_text_T g st3 w0 w3 hi hb)
  clear K2 hv hs hi hb hk HQ2 HK2
  go_wp2_with (fail)
  refine K3.out.mono ?_
  rintro e w4 ⟨v, s, st4, rfl, hv, hs, hi, hb, hk⟩
  have hv' : v = .string s := hv
  subst hv'
  have HQ4 := Aside0.mk ((hk.2 _ (blk_lt HQ3.out) HGN.out.symm).trans HQ3.out)
  have HK4 := Aside0.mk (HK3.out.trans hk)
  have HS4 := Aside0.mk hs
  have HI4 := Aside0.mk hi
  have HB4 := Aside0.mk hb
  have hq0 := (blk_cell HQ4.out) 0
  have hq1 := (blk_cell HQ4.out) 1
  have hq2 := (blk_cell HQ4.out) 2
  have hq3 := (blk_cell HQ4.out) 3
  have hf0 := free_of HQ4.out 0
  have hf1 := free_of HQ4.out 1
  have hf2 := free_of HQ4.out 2
  have hf3 := free_of HQ4.out 3
  clear K3 hv hs hi hb hk HQ3 HK3
  go_wp2
  refine bodyPost_ret (v := .agg #[.int .i64 a, .int .i64 b, .int .i64 c, .string s]) (by simp [results, Try.results77, go_sem, hq0, hq1, hq2, hq3]) rfl ?_
  exact ⟨_, (a, b, c, s), st4, rfl, rfl, Step.bind HS1.out (Step.map (f := fun y => (a, y)) (Step.bind HS2.out (Step.map (f := fun y => (b, y)) (Step.bind HS3.out (Step.map (f := fun y => (c, y)) HS4.out))))), HI4.out.turned HGN.out (fun k hk => far4 w4 hk _ _ _ _), (((HB4.out.setCell (p := ⟨w.heap.size, 0, none⟩) HLE.out _).setCell (p := ⟨w.heap.size, 1, none⟩) HLE.out _).setCell (p := ⟨w.heap.size, 2, none⟩) HLE.out _).setCell (p := ⟨w.heap.size, 3, none⟩) HLE.out _, HK4.out.turned (Nat.le_refl _) (by simp) (fun k hk => far4 w4 hk _ _ _ _)⟩
end Go.Proofs.Ythefbeekcjchcaa.P
