/- The document's reader: sizes, texts, versions, by what they read. -/
import Derived.Test.YthefbeekcjchcaaRefW
import Derived.Test.YthefbeekcjchcaaGetVer
namespace Go.Proofs.Ythefbeekcjchcaa.P
open Go Go.RowKit Go.Proofs.YthefbeekcjchcaaW.PrintWords Go.Proofs.YthefbeekcjchcaaW.PrintLast Go.Proofs.YthefbeekcjchcaaW.PrintMore
set_option linter.unusedVariables false
set_option linter.unusedSimpArgs false
theorem q_dn_zero : ∀ (xs : List Int) (k : Nat) (n : Int), (dn k n xs).2.2 ≠ 0 → (dn k n xs).1 = 0
  | [], k, n, _ => by rw [dn]
  | c :: xs, k, n, h => by
    rw [dn] at h ⊢
    split
    · rfl
    · rename_i h1
      rw [if_neg h1] at h
      split
      · rename_i h2
        rw [if_pos h2] at h
        exact absurd rfl h
      · rename_i h2
        rw [if_neg h2] at h
        exact q_dn_zero xs _ _ h
theorem q_dnum_err (xs : List Int) (e : Int) (h : (dnum xs e).2.2 ≠ 0) : (dnum xs e).1 = 0 := by
  unfold dnum at h ⊢
  split
  · rename_i h1; rw [if_pos h1] at h; exact q_dn_zero xs _ _ h
  · rfl
set_option maxHeartbeats 8000000 in
set_option maxRecDepth 20000 in
theorem R_size_calls (g : Nat) (B : List Int) (i : Nat) (hi : i ≤ B.length) (e : Int) (w0 w : World) (hI : RM w0 w g B (i : Int) e) (hB : Below w0.heap.size w0 w) (hby : Bytes B) (hlen : B.length ≤ 1000000000) :
    Calls Try.prog 40 #[.pointer (some ⟨g, 0, none⟩)] w (RNum (dsize (B.drop i) e) w0 w g B) := by
  have K := Aside0.mk (R_num_calls g B i hi e w0 w hI hB hby hlen)
  have he := q_dnum_err (B.drop i) e
  have hnn := (dnum_left (B.drop i) e (fun x hx => hby x (List.mem_of_mem_drop hx))).1
  have HN := Aside0.mk hlen
  unfold dsize
  generalize dnum (B.drop i) e = r at K he hnn ⊢
  obtain ⟨n, xs, e1⟩ := r
  dsimp only at K he hnn ⊢
  have HE := Aside0.mk he
  have HNN := Aside0.mk hnn
  clear hI hB hby hlen he hi hnn
  by_cases c : n > (xs.length : Int)
  · have h0 : e1 = 0 := Classical.byContradiction fun h => by have := HE.out h; omega
    subst h0
    rw [if_pos c, if_pos rfl]
    have HC := Aside0.mk c
    clear c
    go_enter Try.func40, Try.ntmps40
    go_wp2_with (fail)
    refine K.out.mono ?_
    rintro e w1 ⟨hr, ⟨j, hj, hxs, hi⟩, hb, hk⟩
    dsimp only at hr hxs hi
    subst hr
    subst hxs
    have HI := Aside0.mk hi
    have HB := Aside0.mk hb
    have HK := Aside0.mk hk
    have HJ := Aside0.mk hj
    obtain ⟨A, c0, hg, _⟩ := hi
    have hc0 := (blk_cell hg) 0
    have hc1 := (blk_cell hg) 1
    have hc2 := (blk_cell hg) 2
    have eW : wrap64 ((B.length : Int) - (j : Int)) = ((B.length - j : Nat) : Int) := by have := HN.out; unfold wrap64; omega
    have d : decide (((B.length - j : Nat) : Int) < n) = true := by have := HC.out; rw [List.length_drop] at this; exact decide_eq_true (by omega)
    generalize ((B.length - j : Nat) : Int) = L at eW d
    clear hb hk hg hj K HC

    go_wp2
    repeat (go_quiet (fail); go_wp2_with (fail))
    refine (R_fail_calls g B (j : Int) 0 13 w0 _ (show RM w0 (w1.drewN _) g B (j : Int) 0 from HI.out) (pw_below_drewN HB.out _)).mono ?_
    rintro e w2 ⟨rfl, hi, hb, hk⟩
    rw [if_pos rfl] at hi
    have HI2 := Aside0.mk hi
    have HB2 := Aside0.mk hb
    have HK2 := Aside0.mk ((show Only w (w1.drewN _) g from HK.out).trans hk)
    obtain ⟨A, c0, hg, _⟩ := hi
    have hc2 := (blk_cell hg) 2
    clear hb hk hc1 hc0 hg
    go_wp2
    go_ret
    exact ⟨rfl, ⟨j, HJ.out, rfl, HI2.out⟩, HB2.out, HK2.out⟩
  · rw [if_neg c]
    have HC := Aside0.mk c
    clear c
    by_cases h : e1 = 0
    · subst h
      go_enter Try.func40, Try.ntmps40
      go_wp2_with (fail)
      refine K.out.mono ?_
      rintro e w1 ⟨hr, ⟨j, hj, hxs, hi⟩, hb, hk⟩
      dsimp only at hr hxs hi
      subst hr
      subst hxs
      have HI := Aside0.mk hi
      have HB := Aside0.mk hb
      have HK := Aside0.mk hk
      have HJ := Aside0.mk hj
      obtain ⟨A, c0, hg, _⟩ := hi
      have hc0 := (blk_cell hg) 0
      have hc1 := (blk_cell hg) 1
      have hc2 := (blk_cell hg) 2
      have eW : wrap64 ((B.length : Int) - (j : Int)) = ((B.length - j : Nat) : Int) := by have := HN.out; unfold wrap64; omega
      have d : decide (((B.length - j : Nat) : Int) < n) = false := by have := HC.out; rw [List.length_drop] at this; exact decide_eq_false (by omega)
      generalize ((B.length - j : Nat) : Int) = L at eW d
      clear hb hk hg hj K HC

      go_wp2
      repeat (go_quiet (fail); go_wp2_with (fail))
      go_ret
      exact ⟨rfl, ⟨j, HJ.out, rfl, show RM w0 (w1.drewN _) g B (j : Int) 0 from HI.out⟩, pw_below_drewN HB.out _, show Only w (w1.drewN _) g from HK.out⟩
    · have hn : n = 0 := HE.out h
      subst hn
      have h1 : (e1 == 0) = false := beq_eq_false_iff_ne.2 h
      have h2 : (e1 != 0) = true := by simp [h]
      clear h
      go_enter Try.func40, Try.ntmps40
      go_wp2_with (fail)
      refine K.out.mono ?_
      rintro e w1 ⟨hr, ⟨j, hj, hxs, hi⟩, hb, hk⟩
      dsimp only at hr hxs hi
      subst hr
      subst hxs
      have HI := Aside0.mk hi
      have HB := Aside0.mk hb
      have HK := Aside0.mk hk
      have HJ := Aside0.mk hj
      obtain ⟨A, c0, hg, _⟩ := hi
      have hc0 := (blk_cell hg) 0
      have hc1 := (blk_cell hg) 1
      have hc2 := (blk_cell hg) 2
      clear hb hk hg hj K HC

      go_wp2
      repeat (go_quiet (fail); go_wp2)
      go_ret
      exact ⟨rfl, ⟨j, HJ.out, rfl, show RM w0 (w1.drewN _) g B (j : Int) e1 from HI.out⟩, pw_below_drewN HB.out _, show Only w (w1.drewN _) g from HK.out⟩
/-- The document's reader in memory, by its state. -/
def RQ (w0 w : World) (g : Nat) (B : List Int) (st : St) : Prop := ∃ (i : Nat) (e : Int), i ≤ B.length ∧ RM w0 w g B (i : Int) e ∧ Rep (B.drop i) e st
theorem RQ.below {w0 w w1 : World} {g : Nat} {B : List Int} {st : St} (h : RQ w0 w g B st) (hb : Below w.heap.size w w1) : RQ w0 w1 g B st := by
  obtain ⟨i, e, h0, h1, h2⟩ := h
  exact ⟨i, e, h0, h1.below hb, h2⟩
theorem RQ.grown {w0 w w1 : World} {g : Nat} {B : List Int} {st : St} (h : RQ w0 w g B st) {row : Option Nat} (hg : w.grownBy w1 row) (hne : some g ≠ row) : RQ w0 w1 g B st := by
  obtain ⟨i, e, h0, ⟨A, c, h1, r⟩, h2⟩ := h
  exact ⟨i, e, h0, ⟨A, c, (hg.block g (blk_lt h1) hne).trans h1, r⟩, h2⟩
theorem RQ.lt {w0 w : World} {g : Nat} {B : List Int} {st : St} (h : RQ w0 w g B st) : g < w.heap.size := by
  obtain ⟨i, e, _, h1, h2⟩ := h
  exact h1.lt
theorem RQ.turned {w0 w w' : World} {g b : Nat} {B : List Int} {st : St} (h : RQ w0 w g B st) (hb : g ≠ b) (hf : ∀ k, k ≠ b → w'.heap[k]? = w.heap[k]?) : RQ w0 w' g B st := by
  obtain ⟨i, e, h0, ⟨A, c, h1, r⟩, h2⟩ := h
  exact ⟨i, e, h0, ⟨A, c, (hf g hb).trans h1, r⟩, h2⟩
theorem RQ.far {w0 w : World} {g b : Nat} {B : List Int} {st : St} (h : RQ w0 w g B st) (hb : b ≠ g) (o : Nat) (v : Value) : RQ w0 (w.setCell ⟨b, o, none⟩ v) g B st :=
  h.turned hb.symm fun k hk => Below.heap_setCell w ⟨b, o, none⟩ v k hk
theorem RQ.ecell {w0 w : World} {g : Nat} {B : List Int} {st : St} (h : RQ w0 w g B st) : ∃ e, w.cell? ⟨g, 2, none⟩ = some (.int .i64 e) ∧ ((e = 0 ∧ ∃ bs, st = .left bs) ∨ (e ≠ 0 ∧ st = .err e)) := by
  obtain ⟨i, e, _, ⟨A, c, h1, _⟩, h2⟩ := h
  refine ⟨e, (blk_cell h1) 2, ?_⟩
  rcases h2 with ⟨h2, h3⟩ | h2
  · exact .inl ⟨h2, _, h3⟩
  · exact .inr h2
/-- What a function of the document's reader comes to. -/
def RTell {α : Type} (p : Rdr α) (V : Value → α → World → Prop) (w0 w : World) (g : Nat) (B : List Int) (st : St) (e : Ending) (w' : World) : Prop :=
  ∃ v x st', e = .returned v ∧ V v x w' ∧ Step p st x st' ∧ RQ w0 w' g B st' ∧ Below w0.heap.size w0 w' ∧ Only w w' g
theorem R_num_Q (g : Nat) (B : List Int) (hB0 : Bytes B ∧ B.length ≤ 1000000000) (st : St) (w0 w : World) (hI : RQ w0 w g B st) (hB : Below w0.heap.size w0 w) :
    Calls Try.prog 41 #[.pointer (some ⟨g, 0, none⟩)] w (RTell rnum VInt w0 w g B st) := by
  obtain ⟨i, e, h0, h1, h2⟩ := hI
  obtain ⟨st', h5, h6⟩ := dnum_step h2
  refine (R_num_calls g B i h0 e w0 w h1 hB hB0.1 hB0.2).mono fun e' w' ⟨he, ⟨j, hj, hx, hi⟩, hb, hk⟩ => ?_
  rw [hx] at h6
  exact ⟨_, _, st', he, rfl, h5, ⟨j, _, hj, hi, h6⟩, hb, hk⟩
theorem R_size_M (g : Nat) (B : List Int) (hB0 : Bytes B ∧ B.length ≤ 1000000000) (st : St) (w0 w : World) (hI : RQ w0 w g B st) (hB : Below w0.heap.size w0 w) :
    Calls Try.prog 40 #[.pointer (some ⟨g, 0, none⟩)] w fun e' w' => ∃ (n i : Nat) (e : Int) (st' : St), e' = .returned (.int .i64 (n : Int)) ∧ i + n ≤ B.length ∧ Step rsize st (n : Int) st' ∧ RM w0 w' g B (i : Int) e ∧ Rep (B.drop i) e st' ∧ Below w0.heap.size w0 w' ∧ Only w w' g := by
  obtain ⟨i, e, h0, h1, h2⟩ := hI
  obtain ⟨st', h5, h6⟩ := dsize_step h2
  have h7 := dsize_left (B.drop i) e (fun x hx => hB0.1 x (List.mem_of_mem_drop hx))
  refine (R_size_calls g B i h0 e w0 w h1 hB hB0.1 hB0.2).mono fun e' w' ⟨he, ⟨j, hj, hx, hi⟩, hb, hk⟩ => ?_
  obtain ⟨n, hn⟩ : ∃ n : Nat, (dsize (B.drop i) e).1 = (n : Int) := ⟨(dsize (B.drop i) e).1.toNat, by omega⟩
  rw [hx] at h6 h7
  rw [hn] at he h5 h7
  rw [List.length_drop] at h7
  exact ⟨n, j, _, st', he, by omega, h5, hi, h6, hb, hk⟩
theorem R_size_Q (g : Nat) (B : List Int) (hB0 : Bytes B ∧ B.length ≤ 1000000000) (st : St) (w0 w : World) (hI : RQ w0 w g B st) (hB : Below w0.heap.size w0 w) :
    Calls Try.prog 40 #[.pointer (some ⟨g, 0, none⟩)] w fun e' w' => ∃ (n : Nat) (st' : St), e' = .returned (.int .i64 (n : Int)) ∧ n ≤ 1000000000 ∧ Step rsize st (n : Int) st' ∧ RQ w0 w' g B st' ∧ Below w0.heap.size w0 w' ∧ Only w w' g :=
  (R_size_M g B hB0 st w0 w hI hB).mono fun e' w' ⟨n, i, e, st', h1, h2, h3, h4, h5, h6, h7⟩ => ⟨n, st', h1, by omega, h3, ⟨i, e, by omega, h4, h5⟩, h6, h7⟩
set_option maxHeartbeats 8000000 in
set_option maxRecDepth 20000 in
theorem R_text_Q (g : Nat) (B : List Int) (hB0 : Bytes B ∧ B.length ≤ 1000000000) (st : St) (w0 w : World) (hI : RQ w0 w g B st) (hB : Below w0.heap.size w0 w) :
    Calls Try.prog 84 #[.pointer (some ⟨g, 0, none⟩)] w (RTell rText VStr w0 w g B st) := by
  have K := Aside0.mk (R_size_M g B hB0 st w0 w hI hB)
  have HBL := Aside0.mk hB0.2
  clear hI hB hB0
  go_enter Try.func84, Try.ntmps84
  go_wp2_with (fail)
  refine K.out.mono ?_
  rintro e w1 ⟨n, i, e1, st1, rfl, hn, hs, hi, hrep, hb, hk⟩
  have HI := Aside0.mk hi
  obtain ⟨A, c, hg, hg0, hC, hc⟩ := hi
  obtain ⟨i0, hi0, _, hsz, _⟩ := info_parts infoB5
  obtain ⟨A2, hcut, hA2, hC2⟩ := print_mid_of (P := Try.prog) (Value.int .u8) 0 25 5 .i64 .i64 Try.underlying25 hi0 hsz A c B (i : Int) ((i + n : Nat) : Int) (by omega) (by omega) (by omega) hc
  rw [Int.toNat_natCast, Int.toNat_natCast, List.drop_take, Nat.add_sub_cancel_left] at hcut hA2 hC2
  have hst : ∃ st2, Step rText st (strOfNums ((B.drop i).take n)) st2 ∧ Rep (B.drop (i + n)) e1 st2 := by
    rw [← List.drop_drop]
    rcases hrep with ⟨rfl, rfl⟩ | ⟨h, rfl⟩
    · refine ⟨.left ((B.drop i).drop n), Step.map (f := strOfNums) (Step.bind hs ?_), .inl ⟨rfl, rfl⟩⟩
      simp only [Step, rtake, Int.toNat_natCast, and_self]
    · exact ⟨.err e1, Step.map (f := strOfNums) (Step.bind hs rfl), .inr ⟨h, rfl⟩⟩
  obtain ⟨st2, hst, hrep2⟩ := hst
  have hCt : Kd.C (Kd.int .u8) w1.drew A2 ((B.drop i).take n).length ((B.drop i).take n) :=
    Kd.C_below (Kd.C_of_reads (h1 := fun _ => rfl) (hA2 w0 (Kd.reads_of_C (h1 := fun _ => rfl) hC))) (below_drew hb)
  have hstr := Kd.C_string (P := Try.prog) (src := 25) (dst := 9) (c := c - i) Try.underlying25 Try.underlying5 Try.underlying9 hCt
  have eJ : wrap64 ((i : Int) + (n : Int)) = ((i + n : Nat) : Int) := by have := HBL.out; unfold wrap64; omega
  generalize (B.drop i).take n = T at *
  have HST := Aside0.mk hst
  have HREP := Aside0.mk hrep2
  have HNL := Aside0.mk hn
  have HB := Aside0.mk hb
  have HK := Aside0.mk hk
  have HG0 := Aside0.mk hg0
  have hc0 := (blk_cell hg) 0
  have hc1 := (blk_cell hg) 1
  have hz := free_of hg 1
  clear hn hs hg hg0 hC hc hrep hb hk hA2 hC2 hst hrep2 hCt hi0 hsz K
  generalize hN : ((i + n : Nat) : Int) = N at *
  have HNN := Aside0.mk hN
  clear hN
  go_wp2
  go_region
  go_wp2
  go_wp2
  go_ret
  exact ⟨_, strOfNums T, st2, rfl, rfl, HST.out, ⟨i + n, e1, HNL.out, by rw [HNN.out]; exact (show RM w0 w1.drew g B (i : Int) e1 from HI.out).set1 N, HREP.out⟩, (below_drew HB.out).setCell (p := ⟨g, 1, none⟩) HG0.out _, (show Only w w1.drew g from HK.out).trans (Only.set _ _ 1 _)⟩
end Go.Proofs.Ythefbeekcjchcaa.P
