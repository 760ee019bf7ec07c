/- lattice: slices.Collect of a set's nodes, walked. -/
import Derived.Test.YtplhihakeodadaaDoorLtCnt
import Derived.Test.YtplhihakeodadaaDoorLtAcy
namespace Go.Proofs.YtplhihakeodadaaDoor.Sg
open Go Go.RowKit Go.MapKept Go.Shelf Go.Proofs.YtplhihakeodadaaDoor.IMap Go.Proofs.YtplhihakeodadaaDoorW.PrintWords Go.Proofs.YtplhihakeodadaaDoorW.PrintLast Go.Proofs.YtplhihakeodadaaDoorW.PrintMore
set_option linter.unusedVariables false
set_option linter.unusedSimpArgs false
attribute [local go_sem] Oper.semAt_some
theorem TabW.move {w w1 : World} (h : TabW w) (hm : w1.heap[0]? = w.heap[0]?) : TabW w1 := fun j hj => by
  rw [← h j hj]
  simp [World.cell?, hm]
/-- Between two rounds: what has come so far lies in the box's row. -/
def CI (w : World) (b bs : Nat) (pre : List Nat) (W : World) : Prop :=
  ∃ (A : Option Addr) (c : Nat), W.heap[bs]? = some (.cells #[.slice A pre.length c] 22 (0, 0)) ∧ Kd.R kI 3 W w.heap.size (fun k => bs < k) (.slice A pre.length c) (pre.map Int.ofNat) ∧ Below b w W ∧ w.heap.size ≤ W.heap.size ∧ bs < W.heap.size
theorem CI.own {w : World} {b bs B : Nat} (hbw : b ≤ w.heap.size) (hb : b ≤ B) (hs : bs < B) : OwnFrom B (CI w b bs) := by
  rintro pre W W' row ⟨A, c, h1, h2, h3, h4, h5⟩ hg hr
  refine ⟨A, c, (hg.block bs h5 (fun e => by have := (hr bs e.symm).1; omega)).trans h1, R_noncells h2 hg (fun r e => (hr r e).2), ⟨hg.os.trans h3.os, hg.tape.trans h3.tape, hg.output.trans h3.output, Nat.le_trans h3.size hg.size, fun k hk => ?_⟩, Nat.le_trans h4 hg.size, Nat.lt_of_lt_of_le h5 hg.size⟩
  by_cases c : k < W.heap.size
  · exact (hg.block k c (fun e => by have := (hr k e.symm).1; omega)).trans (h3.block k hk)
  · exfalso; omega
set_option maxHeartbeats 8000000 in
set_option maxRecDepth 100000 in
theorem AppendSeq_T (b x : Nat) (hx : x < 2 ^ 64) (h0 : 0 < b) (w : World) (hT : TabW w) (hb : w.heap[b]? = some (.cells #[.int .u64 (x : Int)] 56 (0, 0))) :
    Calls Tryd.prog 79 #[.slice none 0 0, .func (.func 80) #[] #[.pointer (some ⟨b, 0, none⟩)]] w fun e w' => ∃ v, e = .returned v ∧ Kd.R kI 3 w' w.heap.size (fun _ => True) v ((nodes x).map Int.ofNat) ∧ Below b w w' := by
  have hbl : b < w.heap.size := blk_lt hb
  refine callsIn_wide.1 (callsIn_of_wp_marks (n := 9) Tryd.func79 rfl trivial ?_ rfl)
  simp only [Tryd.ntmps79, List.size_toArray, List.length_cons, List.length_nil, Nat.reduceAdd, Nat.reduceSub, Array.replicate_succ, Array.replicate_zero, List.push_toArray, List.append_toArray, List.nil_append, List.cons_append]
  refine wpIn_wide.2 ?_
  obtain ⟨W1, hW1⟩ : ∃ W, w.alloc (.cells #[.slice none 0 0] 22) = W := ⟨_, rfl⟩
  have hS1 : W1.heap.size = w.heap.size + 1 := by rw [← hW1, World.size_alloc]
  have hX1 := heap_last w (.cells #[.slice none 0 0] 22)
  have hB1 := below_alloc (Below.refl w.heap.size w) (.cells #[.slice none 0 0] 22)
  have hb1 : W1.heap[b]? = some (.cells #[.int .u64 (x : Int)] 56 (0, 0)) := by rw [← hW1]; exact blk_alloc hb _
  rw [hW1] at hX1 hB1
  have HW1 := Aside0.mk hW1
  have HS1 := Aside0.mk hS1
  have HX1 := Aside0.mk hX1
  have HB1 := Aside0.mk hB1
  have Hb1 := Aside0.mk hb1
  have HBL := Aside0.mk hbl
  have HT := Aside0.mk hT
  have H0 := Aside0.mk h0
  have HXX := Aside0.mk hx
  clear hW1 hS1 hX1 hB1 hb1 hbl hT h0 hb hx
  go_wp2_with (fail)
  rw [HW1.out]
  refine (wpIn_wide (n := 9)).1 ?_
  refine wp_rangeBox (by decide) (gf := 80) (lb := #[.pointer (some ⟨b, 0, none⟩)]) rfl ?eg (b := b) (G := TabW) (xs := nodes x) (members_seq 8 (by decide) b x HXX.out W1 Hb1.out) (by rw [HS1.out]; exact Nat.lt_succ_of_lt HBL.out) rfl
    (CI w b w.heap.size) (CI.own (Nat.le_of_lt HBL.out) (by rw [HS1.out]; exact Nat.le_succ_of_le (Nat.le_of_lt HBL.out)) (by rw [HS1.out]; exact Nat.lt_succ_self _)) ?hIb (fun pre W h => HT.out.move (h.choose_spec.choose_spec.2.2.1.block 0 H0.out))
    ⟨none, 0, HX1.out, Kd.R_nil _ _ _ _ _, HB1.out.mono (Nat.le_of_lt HBL.out), by rw [HS1.out]; exact Nat.le_succ _, by rw [HS1.out]; exact Nat.lt_succ_self _⟩
    (fun (y : Nat) => ({ tmps := #[.slice none 0 0, .func (.func 80) #[] #[.pointer (some ⟨b, 0, none⟩)], .pointer (some ⟨w.heap.size, 0, none⟩), undef, .slice none 0 0, .int .i64 (y : Int), .func (.func 80) #[] #[.pointer (some ⟨b, 0, none⟩)], .int .i64 (y : Int), undef, undef, undef, undef, undef], defers := [] } : Act)) ?assign ?body ?done
  case eg =>
    intro args w
    exact enters_ Tryd.func80 (by kernel_rfl) (by kernel_rfl) args w
  case hIb =>
    rintro pre W v ⟨A, c, h1, h2, h3, h4, h5⟩
    have hbw := HBL.out
    refine ⟨A, c, (Below.heap_setCell _ ⟨b, 0, none⟩ _ _ (by show w.heap.size ≠ b; omega)).trans h1, Kd.R_step h2 (fun k hk _ => Below.heap_setCell _ ⟨b, 0, none⟩ _ _ (by show k ≠ b; omega)), h3.setCell (p := ⟨b, 0, none⟩) (Nat.le_refl _) v, by simpa [World.setCell] using h4, by simpa [World.setCell] using h5⟩
  case assign =>
    intro l y W K hk
    gi_wp2_with (fail)
    exact hk
  case done =>
    intro D W hD hI hd
    obtain ⟨A, c, h1, h2, h3, h4, h5⟩ := hI
    have hc := (blk_cell h1) 0
    have HI := Aside0.mk h2
    have HB := Aside0.mk h3
    have HD := Aside0.mk hd
    have HDB : Aside0 (b ≤ D) := ⟨by have := HS1.out; have := HBL.out; omega⟩
    clear h1 h2 h3 hd hD
    go_wp2_with (fail)
    refine leaves_marks (v := .slice A (nodes x).length c) b (fun W => Kd.R kI 3 W w.heap.size (fun k => w.heap.size < k) (.slice A (nodes x).length c) ((nodes x).map Int.ofNat) ∧ Below b w W) ?_ ?_ ?_ [{ target := .collected D, args := #[] }] (D + 1) W (Mk.nil.cons (Nat.zero_le D) HDB.out HD.out) ⟨HI.out, HB.out⟩
    · rintro r W o hr ho ⟨g1, g2⟩
      refine ⟨R_noncells g1 (grownBy_putObj' W r _) (fun r' e => by cases e; exact ⟨_, ho, rfl⟩), g2.trans ⟨rfl, rfl, rfl, by simp, fun k hk => World.putObj_heap_other (by omega)⟩⟩
    · intro W _
      simp [results, Tryd.results79, go_sem]
    · rintro W ⟨g1, g2⟩
      exact ⟨_, rfl, Kd.R_mono g1 (fun _ _ => trivial), g2⟩
  case body =>
    intro l pre y rest W hx hI
    obtain ⟨A, c, h1, h2, h3, h4, h5⟩ := hI
    have hlen : pre.length ≤ 64 := by
      have h6 := congrArg List.length hx
      have h7 : (nodes x).length ≤ 64 := Nat.le_trans (List.length_filter_le _ _) (by simp)
      rw [List.length_append] at h6
      omega
    have HLEN := Aside0.mk hlen
    have hc0 := (blk_cell h1) 0
    have hb5 := below_alloc (Below.refl W.heap.size W) (.cells #[.int .i64 (y : Int)] 3)
    have HB5 := Aside0.mk hb5
    have HR1 := Aside0.mk (Kd.R_below h2 hb5)
    have HC1 := Aside0.mk ((blk_cell (heap_last W (.cells #[.int .i64 (y : Int)] 3))) 0)
    have HBB := Aside0.mk (Below.alloc (h3 : Below b w W) (by have := HBL.out; omega) (.cells #[.int .i64 (y : Int)] 3))
    have HX5 := Aside0.mk (blk_below h1 hb5)
    have HF1 : Aside0 (∀ k, (W.alloc (.cells #[.int .i64 (y : Int)] 3)).heap.size ≤ k → w.heap.size < k) := ⟨fun k hk => by have := hb5.size; omega⟩
    have HWW : Aside0 (w.heap.size ≤ (W.alloc (.cells #[.int .i64 (y : Int)] 3)).heap.size) := ⟨Nat.le_trans h4 hb5.size⟩
    have HH2 := Aside0.mk h2
    have HH1 := Aside0.mk h1
    have HH5 := Aside0.mk h5
    have HB0 : Aside0 (Below w.heap.size (W.alloc (.cells #[.int .i64 (y : Int)] 3)) (W.alloc (.cells #[.int .i64 (y : Int)] 3))) := ⟨Below.refl _ _⟩
    clear h1 h2 h3 hb5 hlen h5
    gi_wp2_with (first
      | ((with_reducible refine wpListIn_plain_halt ?_)))
    unfold HaltIn
    refine in_append (P := Tryd.prog) w.heap.size rfl (.tmp 8) (.tmp 10) 22 3 .i64 8 rfl Tryd.underlying22 info_int (.slice A pre.length c) (pre.map Int.ofNat) (y : Int) W.heap.size 1 (fun k => w.heap.size < k) (W.alloc (.cells #[.int .i64 (y : Int)] 3)) rfl rfl HF1.out HR1.out HC1.out HB0.out HWW.out (by decide) (by decide) (by rw [List.length_map]; have := HLEN.out; omega) ?_
    intro v1 V2 ho hbl hg
    obtain ⟨A8, c8, rfl⟩ := Kd.R_slice ho
    have e8 : (pre.map Int.ofNat ++ [(y : Int)]).length = (pre ++ [y]).length := by simp
    obtain ⟨n8, hn8⟩ : ∃ z, (pre ++ [y]).length = z := ⟨_, rfl⟩
    rw [e8, hn8] at ho
    rw [e8, hn8]
    have HN8 := Aside0.mk hn8
    clear hn8
    have hbw := HBL.out
    have hown := R_own HR1.out
    have hne : ∀ k, k ≤ w.heap.size → some k ≠ (Value.slice A pre.length c).ownBlock := fun k hk e => by
      have := (hown k e.symm).1
      omega
    have hX8 := blk_grown HX5.out hg (hne _ (Nat.le_refl _))
    have hle : W.heap.size ≤ V2.heap.size := Nat.le_trans (by simp) hg.size
    have hsz : (V2.setCell ⟨w.heap.size, 0, none⟩ (.slice A8 n8 c8)).heap.size = V2.heap.size := by simp [World.setCell]
    have hk : ∀ k, k < W.heap.size → some k ≠ (Value.slice A pre.length c).ownBlock → k ≠ w.heap.size → (V2.setCell ⟨w.heap.size, 0, none⟩ (.slice A8 n8 c8)).heap[k]? = W.heap[k]? := fun k h1 h2 h3 =>
      (Below.heap_setCell _ ⟨w.heap.size, 0, none⟩ _ _ h3).trans ((hg.block k (by rw [World.size_alloc]; omega) h2).trans (Below.heap_alloc _ _ _ h1))
    have HKF : Aside0 (KeepsFrom W1.heap.size W (V2.setCell ⟨w.heap.size, 0, none⟩ (.slice A8 n8 c8))) := ⟨⟨by rw [hsz]; exact hle, fun k o hB ho hc => by
      have hlt := blk_lt ho
      refine (hk k hlt (fun e => ?_) (by rw [HS1.out] at hB; omega)).trans ho
      obtain ⟨_, _, _, q, cs, hcs⟩ := R_own HH2.out k e.symm
      rw [ho] at hcs
      cases hcs
      cases hc⟩⟩
    have HBK : Aside0 ((V2.setCell ⟨w.heap.size, 0, none⟩ (.slice A8 n8 c8)).heap[b]? = W.heap[b]?) := ⟨hk b (by have := HH5.out; omega) (hne b (by omega)) (by omega)⟩
    have HXN := Aside0.mk (box_set (o := 0) hX8 (.slice A8 n8 c8))
    have HRN := Aside0.mk (Kd.R_far (p := ⟨w.heap.size, 0, none⟩) ho (fun k hk => Nat.ne_of_gt hk) (.slice A8 n8 c8))
    have HBN := Aside0.mk (Below.setCell (p := ⟨w.heap.size, 0, none⟩) (HBB.out.trans (⟨hg.os, hg.tape, hg.output, hg.size, fun k hk' => hg.block k (by rw [World.size_alloc]; have := HH5.out; omega) (hne k (by omega))⟩ : Below b _ V2)) (by show b ≤ w.heap.size; omega) (.slice A8 n8 c8))
    have HSN : Aside0 (w.heap.size ≤ (V2.setCell ⟨w.heap.size, 0, none⟩ (.slice A8 n8 c8)).heap.size ∧ w.heap.size < (V2.setCell ⟨w.heap.size, 0, none⟩ (.slice A8 n8 c8)).heap.size) := ⟨by rw [hsz]; have := HH5.out; omega⟩
    have hq0 := (blk_cell hX8) 0
    have hf0 := free_of hX8 0
    clear ho hbl hg hX8 hle hsz hk hown hne hc0
    gi_wp2
    refine ⟨HKF.out, HBK.out, A8, c8, by rw [HN8.out]; exact HXN.out, ?_, HBN.out, HSN.out.1, HSN.out.2⟩
    rw [List.map_append, HN8.out]
    exact HRN.out
set_option maxHeartbeats 4000000 in
theorem Collect_T (b x : Nat) (hx : x < 2 ^ 64) (h0 : 0 < b) (w : World) (hT : TabW w) (hb : w.heap[b]? = some (.cells #[.int .u64 (x : Int)] 56 (0, 0))) :
    Calls Tryd.prog 59 #[.func (.func 80) #[] #[.pointer (some ⟨b, 0, none⟩)]] w fun e w' => ∃ v, e = .returned v ∧ Kd.R kI 3 w' w.heap.size (fun _ => True) v ((nodes x).map Int.ofNat) ∧ Below b w w' := by
  have K := Aside0.mk (AppendSeq_T b x hx h0 w hT hb)
  clear hx h0 hT hb
  go_enter Tryd.func59, Tryd.ntmps59
  go_wp2_with (fail)
  refine K.out.mono ?_
  rintro e w1 ⟨v, rfl, hr, hb⟩
  have HB := Aside0.mk hb
  obtain ⟨A, c, rfl⟩ := Kd.R_slice hr
  obtain ⟨z, hz⟩ : ∃ z, ((nodes x).map Int.ofNat).length = z := ⟨_, rfl⟩
  rw [hz] at hr ⊢
  have HR := Aside0.mk hr
  clear K hr hb hz
  go_wp2
  go_ret
  exact ⟨_, rfl, HR.out, HB.out⟩
end Go.Proofs.YtplhihakeodadaaDoor.Sg
