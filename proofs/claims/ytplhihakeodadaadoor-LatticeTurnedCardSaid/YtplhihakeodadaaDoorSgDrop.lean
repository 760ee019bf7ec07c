/- slices.DeleteFunc with the program's closure; drop. -/
import Derived.Test.YtplhihakeodadaaDoorSgFind
import Derived.Lib.SliceRun
import Derived.Deep.RegionHeld3
namespace Go.Proofs.YtplhihakeodadaaDoor.Sg
open Go Go.RowKit Go.Proofs.YtplhihakeodadaaDoorW.PrintWords Go.Proofs.YtplhihakeodadaaDoorW.PrintLast Go.Proofs.YtplhihakeodadaaDoorW.PrintMore
set_option linter.unusedVariables false
set_option linter.unusedSimpArgs false
theorem Drop1_T (k step : Int) (ps : Nat) (w : World) (hs : w.cell? ⟨ps, 0, none⟩ = some (.int .i64 step)) :
    Calls Tryd.prog 68 #[.int .i64 k, .pointer (some ⟨ps, 0, none⟩)] w fun r w' => r = .returned (.bool (k == step)) ∧ w = w' := by
  go_enter Tryd.func68, Tryd.ntmps68
  go_wp2
  go_ret
  exact ⟨rfl, rfl⟩
/-- The first place of a number, -1 if there is none. -/
def idxOf (step : Int) (l : List Int) : Int := if l.contains step then (l.idxOf step : Int) else -1
set_option maxHeartbeats 4000000 in
set_option maxRecDepth 20000 in
theorem IndexFuncI_T (l : List Int) (A : Option Addr) (c : Nat) (step : Int) (ps : Nat) (w : World) (h : Kd.C kI w A l.length l) (hl : l.length ≤ 1000000000000) (hs : w.cell? ⟨ps, 0, none⟩ = some (.int .i64 step)) :
    Calls Tryd.prog 84 #[.slice A l.length c, .func (.func 68) #[] #[.pointer (some ⟨ps, 0, none⟩)]] w fun e w' => (((∀ y ∈ l, y ≠ step) ∧ e = .returned (.int .i64 (-1))) ∨ ∃ i : Nat, i < l.length ∧ e = .returned (.int .i64 (i : Int)) ∧ l.getD i 0 = step ∧ ∀ y ∈ l.take i, y ≠ step) ∧ w = w' := by
  have HC := Aside0.mk h
  have HL := Aside0.mk hl
  have K := Aside0.mk (fun k => Drop1_T k step ps w hs)
  clear h hl hs
  go_enter Tryd.func84, Tryd.ntmps84
  go_wp2
  go_loopg [5, 8] l.length (fun kq v5 v8 w' => ∃ (i : Nat), v8 = .int .i64 (i : Int) ∧ Aside0 (i + kq = l.length) ∧ Aside0 (∀ y ∈ l.take i, y ≠ step) ∧ w' = w)
  case atStart => exact ⟨0, rfl, ⟨by omega⟩, ⟨by simp⟩, rfl⟩
  case round =>
    obtain ⟨i, rfl, HJ, HA, rfl⟩ := hrel
    by_cases c1 : i < l.length
    · have e1 : decide (i < l.length) = true := decide_eq_true c1
      have HE5 : Aside0 (wrap64 ((i : Int) + 1) = ((i + 1 : Nat) : Int)) := ⟨by have := HL.out; unfold wrap64; omega⟩
      obtain ⟨ad, ea, hx⟩ := at_int HC.out i c1
      cases ea
      obtain ⟨y, hy⟩ : ∃ e, l.getD i 0 = e := ⟨_, rfl⟩
      rw [hy] at hx
      have HY := Aside0.mk hy
      have HI := Aside0.mk c1
      have K1 := Aside0.mk (K.out y)
      clear hy
      by_cases q : y = step
      · have q1 : (y == step) = true := by simpa using q
        rw [q1] at K1
        have HQ := Aside0.mk q
        clear q q1
        go_wp2_with (fail)
        refine K1.out.mono ?_
        rintro e w1 ⟨rfl, rfl⟩
        go_wp2
        go_ret
        exact ⟨.inr ⟨i, HI.out, rfl, HY.out.trans HQ.out, HA.out⟩, rfl⟩
      · have q1 : (y == step) = false := by simpa using q
        rw [q1] at K1
        have HT : Aside0 (∀ z ∈ l.take (i + 1), z ≠ step) := ⟨by
          intro z hz
          rw [List.take_add_one, List.mem_append] at hz
          rcases hz with hz | hz
          · exact HA.out z hz
          · rw [List.getElem?_eq_getElem HI.out] at hz
            have : z = l[i] := by simpa using hz
            rw [this, show l[i]'HI.out = y by rw [← HY.out, List.getD_eq_getElem?_getD, List.getElem?_eq_getElem HI.out]; rfl]
            exact q⟩
        clear q q1
        go_wp2_with (fail)
        refine K1.out.mono ?_
        rintro e w1 ⟨rfl, rfl⟩
        go_wp2
        go_roundg (gk - 1)
        case measure => have := HJ.out; have := HI.out; omega
        case rel => exact ⟨i + 1, congrArg _ HE5.out, ⟨by have := HJ.out; have := HI.out; omega⟩, HT, rfl⟩
    · have e1 : decide (i < l.length) = false := decide_eq_false c1
      have HI := Aside0.mk c1
      go_wp2
      go_ret
      refine ⟨.inl ⟨?_, rfl⟩, rfl⟩
      have := HA.out
      rwa [List.take_of_length_le (by have := HI.out; omega)] at this
/-- A row whose last cells are written over. -/
theorem R_tail {w : World} {base g n cap i : Nat} {ok : Nat → Prop} {xs : List Int} (h : Kd.R kI 3 w base ok (.slice (some ⟨g, 0, none⟩) n cap) xs) (hi : i ≤ xs.length) (vs : List Value) (hv : i + vs.length ≤ xs.length) :
    Kd.R kI 3 (w.setCells g i vs) base ok (.slice (some ⟨g, 0, none⟩) i cap) (xs.take i) ∧ w.grownBy (w.setCells g i vs) (some g) := by
  have h2 := Kd.R_take h hi
  obtain ⟨hok, inner, ⟨hz, ho⟩, hr⟩ := h2
  rw [List.length_take, Nat.min_eq_left hi] at hz ho
  rcases (Kd.R_own h) with ⟨inner2, hz2, ho2⟩
  rcases ho2 with ⟨hv0, _⟩ | ⟨g', cap', cur, hv0, hb, hg, h1, h2, h3, h4⟩
  · cases hv0
  · cases hv0
    have hlt : i + vs.length ≤ cur.size := by
      have : kI.sz = 1 := rfl
      rw [h3, this]
      omega
    obtain ⟨cur', e1, e2, e3⟩ := setCells_row vs i w cur hg hlt
    refine ⟨⟨hok, inner, ⟨by rw [List.length_take, Nat.min_eq_left hi]; exact hz, .inr ⟨g, cap, cur', by rw [List.length_take, Nat.min_eq_left hi], hb, e1, by rw [List.length_take, Nat.min_eq_left hi]; omega, h2, by rw [e2]; exact h3, ?_⟩⟩, ?_⟩, ?_⟩
    · rcases ho with ⟨hv1, _⟩ | ⟨g', cap', cur2, hv1, _, hg2, _, _, _, h42⟩
      · cases hv1
      · cases hv1
        rw [hg] at hg2
        cases hg2
        rw [List.length_take, Nat.min_eq_left hi, ← h42, e3, show i * kI.sz = i from Nat.mul_one i, List.append_assoc, List.take_append_of_le_length (by rw [List.length_take, Array.length_toList]; omega), List.take_take, Nat.min_self]
    · exact hr
    · obtain ⟨s1, s2, s3, s4⟩ := setCells_same g vs i w
      exact ⟨s1, s2, s3, by rw [s4]; exact Nat.le_refl _, fun k _ hk => setCells_far vs i k (fun he => hk (by rw [he]))⟩
theorem filt_eq {l : List Int} {step : Int} (h : ∀ y ∈ l, y ≠ step) : l.filter (fun y => y != step) = l := List.filter_eq_self.2 fun y hy => by simpa using h y hy
theorem filt_snoc {l : List Int} {step : Int} {j : Nat} (h : j < l.length) : (l.take (j + 1)).filter (fun y => y != step) = (l.take j).filter (fun y => y != step) ++ (if l.getD j 0 = step then [] else [l.getD j 0]) := by
  rw [List.take_add_one, List.filter_append, List.getD_eq_getElem?_getD, List.getElem?_eq_getElem h]
  congr 1
  by_cases q : l[j] = step <;> simp [q]
theorem set_take {xs : List Int} {i : Nat} {y : Int} (h : i < xs.length) : (xs.set i y).take (i + 1) = xs.take i ++ [y] := by
  rw [List.take_add_one, List.take_set_of_le (Nat.le_refl _), List.getElem?_set_self h]
  rfl
theorem R_cell0 {w : World} {base g n cap : Nat} {ok : Nat → Prop} {xs : List Int} (h : Kd.R kI 3 w base ok (.slice (some ⟨g, 0, none⟩) n cap) xs) (i : Nat) (hi : i < xs.length) : w.cell? ⟨g, i, none⟩ = some (.int .i64 (xs.getD i 0)) ∧ w.frozen? ⟨g, i, none⟩ = false := by
  obtain ⟨hn, _⟩ := Kd.R_reads' h
  subst hn
  have := Kd.R_cell (0 : Int) h (i : Int) (by omega) (by omega)
  rw [Int.toNat_natCast] at this
  exact this
set_option maxHeartbeats 8000000 in
set_option maxRecDepth 20000 in
theorem DeleteFunc_T (l : List Int) (v : Value) (step : Int) (ps : Nat) (ok : Nat → Prop) (w0 w : World) (hB : Below w0.heap.size w0 w) (hR : Kd.R kI 3 w w0.heap.size ok v l) (hl : l.length ≤ 1000000000000) (hs : w.cell? ⟨ps, 0, none⟩ = some (.int .i64 step)) (hne : some ps ≠ v.ownBlock) :
    Calls Tryd.prog 67 #[v, .func (.func 68) #[] #[.pointer (some ⟨ps, 0, none⟩)]] w fun e w' => ∃ v', e = .returned v' ∧ Kd.R kI 3 w' w0.heap.size ok v' (l.filter (fun y => y != step)) ∧ Below w0.heap.size w0 w' := by
  obtain ⟨A, c, rfl⟩ := Kd.R_slice hR
  obtain ⟨_, hc, hC⟩ := Kd.R_reads' hR
  have K := Aside0.mk (IndexFuncI_T l A c step ps w hC hl hs)
  have K1 := Aside0.mk (fun k W h => Drop1_T k step ps W h)
  have HB := Aside0.mk hB
  have HR := Aside0.mk hR
  have HL := Aside0.mk hl
  have HS := Aside0.mk hs
  have HN := Aside0.mk hne
  have HCc := Aside0.mk hc
  have HC := Aside0.mk hC
  clear hB hR hl hs hne hc hC
  go_enter Tryd.func67, Tryd.ntmps67
  go_wp2_with (fail)
  refine K.out.mono ?_
  rintro e w1 ⟨⟨hno, rfl⟩ | ⟨i0, hi0, rfl, hst, hbe⟩, rfl⟩
  · have HNO := Aside0.mk hno
    clear hno K
    go_wp2
    go_ret
    exact ⟨_, rfl, by rw [filt_eq HNO.out]; exact HR.out, HB.out⟩
  · have HI0 := Aside0.mk hi0
    have HST := Aside0.mk hst
    have HBE := Aside0.mk hbe
    have hA : ∃ g, A = some ⟨g, 0, none⟩ := by
      obtain ⟨inner, hz, ho⟩ := Kd.R_own HR.out
      rcases ho with ⟨hv, hn⟩ | ⟨g, cap, cur, hv, _⟩
      · omega
      · injection hv with h1
        exact ⟨g, h1⟩
    obtain ⟨g, rfl⟩ := hA
    have e0 : (-1 : Int) ≠ (i0 : Int) := by omega
    have e1 : ((i0 : Int) == -1) = false := by simp
    have HE0 : Aside0 (wrap64 ((i0 : Int) + 1) = ((i0 + 1 : Nat) : Int)) := ⟨by have := HL.out; unfold wrap64; omega⟩
    clear hi0 hst hbe K e0
    go_wp2_with (fail)
    clear e1
    go_loopg [5, 6, 7] (l.length - (i0 + 1)) (fun kq v5 v6 v7 w' => ∃ (i j : Nat) (xs : List Int), v5 = .int .i64 (i : Int) ∧ v6 = .int .i64 (j : Int) ∧ Aside0 (j + kq = l.length) ∧ Aside0 (i < j) ∧ Aside0 (xs.length = l.length) ∧ Aside0 (xs.take i = (l.take j).filter (fun y => y != step)) ∧ Aside0 (xs.drop j = l.drop j) ∧ Aside0 (Kd.R kI 3 w' w0.heap.size ok (.slice (some ⟨g, 0, none⟩) l.length c) xs) ∧ Aside0 (Below w0.heap.size w0 w') ∧ Aside0 (w'.cell? ⟨ps, 0, none⟩ = some (.int .i64 step)))
    case atStart =>
      refine ⟨i0, i0 + 1, l, rfl, (by first | exact congrArg _ HE0.out | rfl), ⟨?_⟩, ⟨by omega⟩, ⟨rfl⟩, ⟨?_⟩, ⟨rfl⟩, HR, HB, HS⟩
      · have := HI0.out; omega
      · rw [filt_snoc HI0.out, HST.out, filt_eq HBE.out]; simp
    case round =>
      obtain ⟨i, j, xs, rfl, rfl, HJ, HIJ, HX, HT, HD, HR1, HB1, HS1⟩ := hrel
      by_cases c1 : j < l.length
      · have e1 : decide (j < l.length) = true := decide_eq_true c1
        have HE5 : Aside0 (wrap64 ((j : Int) + 1) = ((j + 1 : Nat) : Int)) := ⟨by have := HL.out; unfold wrap64; omega⟩
        have HE6 : Aside0 (wrap64 ((i : Int) + 1) = ((i + 1 : Nat) : Int)) := ⟨by have := HL.out; have := HIJ.out; unfold wrap64; omega⟩
        obtain ⟨y, hy⟩ : ∃ e, l.getD j 0 = e := ⟨_, rfl⟩
        have hxj : xs.getD j 0 = y := by
          have := congrArg (fun z => z[0]?) HD.out
          simp only [List.getElem?_drop, Nat.add_zero] at this
          rw [List.getD_eq_getElem?_getD, this, ← List.getD_eq_getElem?_getD, hy]
        have hg0 := R_cell0 HR1.out j (by rw [HX.out]; exact c1)
        have hg1 := R_cell0 HR1.out i (by rw [HX.out]; have := HIJ.out; omega)
        rw [hxj] at hg0
        obtain ⟨hx, hxf⟩ := hg0
        obtain ⟨hu, huf⟩ := hg1
        have HY := Aside0.mk hy
        have HI := Aside0.mk c1
        have hij : i < l.length := by have := HIJ.out; omega
        have K2 := Aside0.mk (K1.out y wr HS1.out)
        have hsn := filt_snoc (step := step) c1
        rw [hy] at hsn
        clear hy hxj hxf
        by_cases q : y = step
        · have q1 : (y == step) = true := by simpa using q
          rw [q1] at K2
          rw [if_pos q, List.append_nil] at hsn
          have HSN := Aside0.mk hsn
          clear q q1 hsn hu huf
          go_wp2_with (fail)
          refine K2.out.mono ?_
          rintro e w1 ⟨rfl, rfl⟩
          go_wp2
          go_roundg (gk - 1)
          case measure => have := HJ.out; have := HI.out; omega
          case rel => exact ⟨i, j + 1, xs, rfl, (by first | exact congrArg _ HE5.out | rfl), ⟨by have := HJ.out; have := HI.out; omega⟩, ⟨by have := HIJ.out; omega⟩, HX, ⟨by rw [HSN.out]; exact HT.out⟩, ⟨by have := congrArg (List.drop 1) HD.out; simpa [List.drop_drop] using this⟩, HR1, HB1, HS1⟩
        · have q1 : (y == step) = false := by simpa using q
          rw [q1] at K2
          rw [if_neg q] at hsn
          have HSN := Aside0.mk hsn
          clear q q1 hsn
          go_wp2_with (fail)
          refine K2.out.mono ?_
          rintro e w1 ⟨rfl, rfl⟩
          go_wp2
          obtain ⟨r1, r2⟩ := Kd.R_putg HR1.out (i : Int) y
          rw [Int.toNat_natCast] at r1 r2
          go_roundg (gk - 1)
          case measure => have := HJ.out; have := HI.out; omega
          case rel =>
            refine ⟨i + 1, j + 1, xs.set i y, (by first | exact congrArg _ HE6.out | rfl), (by first | exact congrArg _ HE5.out | rfl), ⟨by have := HJ.out; have := HI.out; omega⟩, ⟨by have := HIJ.out; omega⟩, ⟨by rw [List.length_set]; exact HX.out⟩, ⟨?_⟩, ⟨?_⟩, ⟨r1⟩, ⟨pw_below_grown HB1.out (some g) HB1.out.size r2 (fun k hk => by cases hk; exact Kd.R_base HR1.out g rfl)⟩, ⟨?_⟩⟩
            · rw [set_take (by rw [HX.out]; exact hij), HT.out, HSN.out]
            · rw [List.drop_set_of_lt (by have := HIJ.out; omega)]
              have := congrArg (List.drop 1) HD.out
              simpa [List.drop_drop] using this
            · exact (World.cell?_setCell_far _ _ _ _ (fun e => HN.out (by rw [show ps = g from e.symm]; rfl))).trans HS1.out
      · have e1 : decide (j < l.length) = false := decide_eq_false c1
        have HI := Aside0.mk c1
        have hjl : j = l.length := by have := HJ.out; omega
        have hij : i < l.length := by have := HIJ.out; omega
        have hcl : ∀ ty, (Builtin.clear_ #[22] ty #[.slice (some ⟨g, i, none⟩) (l.length - i) (c - i)]).run Tryd.prog wr = .ok (.tuple #[]) (wr.setCells g i (List.replicate (l.length - i) (.int .i64 0))) := fun ty =>
          Lib.run_clear_slice wr 22 3 ty (.int .i64 0) Tryd.underlying22 (fun w => by kernel_rfl) rfl rfl g i (l.length - i) (c - i) (by omega) (fun q hq => by rw [(R_cell0 HR1.out (i + q) (by rw [HX.out]; omega)).1]; rfl) (fun q hq => (R_cell0 HR1.out (i + q) (by rw [HX.out]; omega)).2)
        have hc1 := HCc.out
        have hci : ¬ c = i := by omega
        have hle : i ≤ l.length := by omega
        obtain ⟨r1, r2⟩ := R_tail (i := i) HR1.out (by rw [HX.out]; omega) (List.replicate (l.length - i) (.int .i64 0)) (by rw [List.length_replicate, HX.out]; omega)
        have HR2 := Aside0.mk r1
        have HR3 := Aside0.mk (pw_below_grown HB1.out (some g) HB1.out.size r2 (fun k hk => by cases hk; exact Kd.R_base HR1.out g rfl))
        have HF : Aside0 (xs.take i = l.filter (fun y => y != step)) := ⟨by rw [HT.out, hjl, List.take_length]⟩
        clear r1 r2 hjl
        go_wp2
        go_ret
        exact ⟨_, rfl, by rw [← HF.out]; exact HR2.out, HR3.out⟩
set_option maxHeartbeats 8000000 in
set_option maxRecDepth 20000 in
theorem drop_T (l : List Int) (A : Option Addr) (c : Nat) (step : Int) (w : World) (h : Kd.C kI w A l.length l) (hc : l.length ≤ c) (hl : l.length ≤ 1000000000000) :
    Calls Tryd.prog 46 #[.slice A l.length c, .int .i64 step] w fun e w' => ∃ v', e = .returned v' ∧ Kd.R kI 3 w' w.heap.size (fun _ => True) v' (l.filter (fun y => y != step)) ∧ Below w.heap.size w w' := by
  have hb := below_alloc (Below.refl w.heap.size w) (.cells #[.int .i64 step] 3)
  have hp := (blk_cell (heap_last w (.cells #[.int .i64 step] 3))) 0
  have K := Aside0.mk (CloneI_T A c l (w.alloc (.cells #[.int .i64 step] 3)) (Kd.C_below h hb) hc hl)
  have HB := Aside0.mk hb
  have HP := Aside0.mk hp
  have HL := Aside0.mk hl
  clear h hc hl hb hp
  go_enter Tryd.func46, Tryd.ntmps46
  go_wp2_with (fail)
  refine K.out.mono ?_
  rintro e w1 ⟨v, rfl, hr, hb⟩
  have hs := pw_cell_below hb HP.out
  have hne : some w.heap.size ≠ v.ownBlock := fun e => by have := Kd.R_base hr w.heap.size e.symm; rw [World.size_alloc] at this; omega
  have HB1 := below_step HB.out hb
  have K2 := Aside0.mk (DeleteFunc_T l v step w.heap.size (fun _ => True) w w1 HB1 (Kd.R_lower hr (by rw [World.size_alloc]; omega)) HL.out hs hne)
  obtain ⟨A1, c1, rfl⟩ := Kd.R_slice hr
  clear hr hb hs hne K HB1
  go_wp2_with (fail)
  refine K2.out.mono ?_
  rintro e w2 ⟨v', rfl, hr, hb⟩
  have HR := Aside0.mk hr
  have HB := Aside0.mk hb
  obtain ⟨A2, c2, rfl⟩ := Kd.R_slice hr
  clear hr hb K2
  go_wp2
  go_ret
  exact ⟨_, rfl, HR.out, HB.out⟩
theorem free_of {w : World} {g : Nat} {cs : Array Value} {t : TypeId} (h : w.heap[g]? = some (.cells cs t (0, 0))) (o : Nat) : w.frozen? ⟨g, o, none⟩ = false := by simp [World.frozen?, h]
theorem box_set {w : World} {b t o : Nat} {cs : Array Value} (h : w.heap[b]? = some (.cells cs t (0, 0))) (v : Value) : (w.setCell ⟨b, o, none⟩ v).heap[b]? = some (.cells (cs.set! o v) t (0, 0)) := by
  obtain ⟨hlt, hv⟩ := Array.getElem?_eq_some_iff.1 h
  simp [World.setCell, Array.getElem?_modify, h]
end Go.Proofs.YtplhihakeodadaaDoor.Sg
