/- lattice: Way, walked. -/
import Derived.Test.YtplhihakeodadaaDoorLtCol
namespace Go.Proofs.YtplhihakeodadaaDoor.Sg
open Go Go.RowKit Go.Proofs.YtplhihakeodadaaDoorW.PrintWords Go.Proofs.YtplhihakeodadaaDoorW.PrintLast Go.Proofs.YtplhihakeodadaaDoorW.PrintMore
set_option linter.unusedVariables false
set_option linter.unusedSimpArgs false
/-- Where in a list of n a pick leads. -/
def pickIx (k : Int) (n : Nat) : Nat := if k.tmod n < wrap64 (-(k.tmod n)) then (wrap64 (-(k.tmod n))).toNat else (k.tmod n).toNat
theorem pickIx_is (k : Int) (n : Nat) (h0 : 0 < n) (hn : n ≤ 1000000) : ∃ t : Int, k.tmod n = t ∧ pickIx k n < n ∧ ((t < ((pickIx k n : Nat) : Int) ∧ wrap64 (-t) = ((pickIx k n : Nat) : Int)) ∨ (¬ t < wrap64 (-t) ∧ 0 ≤ t ∧ t < (n : Int) ∧ t.toNat = pickIx k n)) := by
  have h1 := Int.tmod_lt_of_pos k (show (0 : Int) < n by omega)
  have h2 : -(n : Int) < k.tmod n := by
    have h3 := Int.tmod_lt_of_pos (-k) (show (0 : Int) < n by omega)
    rw [Int.neg_tmod] at h3
    omega
  unfold pickIx
  obtain ⟨t, ht⟩ : ∃ t, k.tmod n = t := ⟨_, rfl⟩
  rw [ht] at h1 h2 ⊢
  have hw : wrap64 (-t) = -t := by unfold wrap64; omega
  refine ⟨t, rfl, ?_⟩
  rw [hw]
  by_cases c : t < -t
  · rw [if_pos c]
    exact ⟨by omega, .inl ⟨by omega, by omega⟩⟩
  · rw [if_neg c]
    exact ⟨by omega, .inr ⟨c, by omega, by omega, rfl⟩⟩
/-- The pick at a place. -/
def pickOf (ps : List Int) (at_ : Nat) : Int := if at_ < ps.length then ps.getD at_ 0 else 0
/-- The next node of a way. -/
def wayNext (E : List Stp) (N : Nat) (ps : List Int) (at_ s : Nat) : Nat := (nodes (accR E s N)).getD (pickIx (pickOf ps at_) (nodes (accR E s N)).length) 0
def wayRun (E : List Stp) (N : Nat) (ps : List Int) : Nat → List Nat → Nat → List Nat
  | 0, out, _ => out
  | f + 1, out, s => wayRun E N ps f (out ++ [wayNext E N ps out.length s]) (s ||| 2 ^ wayNext E N ps out.length s)
theorem wayRun_succ (E : List Stp) (N : Nat) (ps : List Int) (f : Nat) (out : List Nat) (s : Nat) : wayRun E N ps (f + 1) out s = wayRun E N ps f (out ++ [wayNext E N ps out.length s]) (s ||| 2 ^ wayNext E N ps out.length s) := rfl
theorem nodes_acc {E : List Stp} {N s i : Nat} (hN : N ≤ 64) : i ∈ nodes (accR E s N) ↔ i < N ∧ rdy E s i = true := by
  have h := Nat.lt_of_lt_of_le (accR_lt E s N) (Nat.pow_le_pow_right (by decide) hN : 2 ^ N ≤ 2 ^ 64)
  rw [nodes_mem _ _ h, accR_bit, Bool.and_eq_true, decide_eq_true_eq]
theorem nodes_len64 (x : Nat) : (nodes x).length ≤ 64 := Nat.le_trans (List.length_filter_le _ _) (by simp)
/-- While nodes are left, the next one may come. -/
theorem way_next {E : List Stp} {N s : Nat} {out : List Nat} {ps : List Int} (at_ : Nat) (hN : N ≤ 64) (hE : EdgesIn 64 E) (hEN : ∀ e ∈ E, e.1.toNat < N ∧ e.2.toNat < N) (hc : ¬ Circ E N) (hw : Way N out s) (hl : out.length < N) :
    0 < (nodes (accR E s N)).length ∧ wayNext E N ps at_ s < N ∧ rdy E s (wayNext E N ps at_ s) = true := by
  obtain ⟨x, hx, hb⟩ := hw.some_left hl
  obtain ⟨i, hi, hr⟩ := some_ready hE hEN hc s _ x (Nat.le_refl _) hx hb
  have hpos : 0 < (nodes (accR E s N)).length := List.length_pos_of_mem ((nodes_acc hN).2 ⟨hi, hr⟩)
  have hlt := (pickIx_is (pickOf ps at_) _ hpos (Nat.le_trans (nodes_len64 _) (by decide))).choose_spec.2.1
  refine ⟨hpos, (nodes_acc hN).1 ?_⟩
  unfold wayNext
  exact getD_mem hlt 0
set_option maxHeartbeats 16000000 in
set_option maxRecDepth 100000 in
theorem Way_T (N : Nat) (E : List Stp) (A : Option Addr) (c : Nat) (ps : List Int) (Ap : Option Addr) (cp : Nat) (w : World) (hT : TabW w) (h : Kd.C kP w A E.length E) (hP : Kd.C kI w Ap ps.length ps) (hps : ps.length ≤ 1000) (hR : rightG (N : Int) E = true) (ho : orderErr (N : Int) E = 0) :
    Calls Tryd.prog 40 #[.agg #[.int .i64 (N : Int), .slice A E.length c], .slice Ap ps.length cp] w fun e w' => ∃ v, e = .returned (.tuple #[v, .int .i64 0]) ∧ Kd.R kI 3 w' w.heap.size (fun _ => True) v ((wayRun E N ps N [] 0).map Int.ofNat) ∧ Below w.heap.size w w' := by
  obtain ⟨hE64, ⟨_, hN64⟩, hEl, _⟩ := rightG_in hR
  have hb0 := below_alloc (Below.refl w.heap.size w) (.cells #[.int .i64 (N : Int), .slice A E.length c] 62)
  have HX := Aside0.mk (heap_last w (.cells #[.int .i64 (N : Int), .slice A E.length c] 62))
  have K := Aside0.mk (Order_T (N : Int) E A c (w.alloc (.cells #[.int .i64 (N : Int), .slice A E.length c] 62)) (hT.below hb0) (Kd.C_below h hb0) (by omega) (by omega))
  rw [ho] at K
  have HB := Aside0.mk hb0
  have HT := Aside0.mk hT
  have HC := Aside0.mk h
  have HCP := Aside0.mk hP
  have HPS := Aside0.mk hps
  have HRG := Aside0.mk hR
  have HEE := Aside0.mk hE64
  have HNC := Aside0.mk ((orderErr_iff hR).1 ho)
  have HEN := Aside0.mk (right_edges hR)
  have HN : Aside0 (N ≤ 64) := ⟨by omega⟩
  have HZ : Aside0 (0 < w.heap.size) := ⟨by
    have := hT 0 (by decide)
    rcases Nat.eq_zero_or_pos w.heap.size with h0 | h0
    · simp [World.cell?, Array.getElem?_eq_none (show w.heap.size ≤ 0 by omega)] at this
    · exact h0⟩
  have h0 := (blk_cell HX.out) 0
  have h1 := (blk_cell HX.out) 1
  clear hb0 h hT hP hps hR ho hE64 hN64 hEl
  go_enter Tryd.func40, Tryd.ntmps40
  go_wp2_with (fail)
  refine K.out.mono ?_
  rintro e w1 ⟨v1, rfl, hb⟩
  have HB1 := Aside0.mk (below_step HB.out hb)
  have HX1 := Aside0.mk (blk_below HX.out hb)
  clear K hb h0 h1 HB HX
  go_wp2_with (fail)
  go_loopg [8, 9] N (fun kq v8 v9 w' => ∃ (out : List Nat) (s : Nat), v9 = .int .u64 (s : Int) ∧ Aside0 (out.length + kq = N) ∧ Aside0 (Way N out s) ∧ Aside0 (Cl Prod.snd Prod.fst E s) ∧ Aside0 (wayRun E N ps kq out s = wayRun E N ps N [] 0) ∧ Aside0 (Kd.R kI 3 w' w.heap.size (fun _ => True) v8 (out.map Int.ofNat)) ∧ Aside0 (w'.heap[w.heap.size]? = some (.cells #[.int .i64 (N : Int), .slice A E.length c] 62 (0, 0))) ∧ Aside0 (Below w.heap.size w w'))
  case atStart => exact ⟨[], 0, rfl, ⟨by simp⟩, ⟨Way.nil N⟩, ⟨cl_nil E⟩, ⟨rfl⟩, ⟨Kd.R_nil _ _ _ _ _⟩, HX1, HB1⟩
  case round =>
    clear HX1 HB1
    obtain ⟨out, s, rfl, HJ, HW, HCL, HRN, HO, HX, HB⟩ := hrel
    obtain ⟨A8, c8, rfl⟩ := Kd.R_slice HO.out
    obtain ⟨z8, hz8⟩ : ∃ z, (out.map Int.ofNat).length = z := ⟨_, rfl⟩
    have hzo : z8 = out.length := by rw [← hz8, List.length_map]
    have HZO := Aside0.mk hzo
    rw [hz8] at HO ⊢
    have h0 := (blk_cell HX.out) 0
    have h1 := (blk_cell HX.out) 1
    by_cases c1 : z8 < N
    · have e1 : decide (z8 < N) = true := decide_eq_true c1
      have e0 : (z8 : Int) < (N : Int) := by omega
      have hwn := way_next (ps := ps) out.length HN.out HEE.out HEN.out HNC.out HW.out (by omega)
      have hs64 : s < 2 ^ 64 := Nat.lt_of_lt_of_le HW.out.sl (Nat.pow_le_pow_right (by decide) HN.out)
      have K := Aside0.mk (Ready_T N E A c s wr hs64 (Kd.C_below HC.out HB.out) HRG.out (by rw [inside_iff hs64 HRG.out, if_pos HW.out.sl]))
      have HI := Aside0.mk c1
      have HS := Aside0.mk hs64
      have HWN := Aside0.mk hwn
      clear hz8 hzo hwn hs64 c1
      go_wp2_with (fail)
      refine K.out.mono ?_
      rintro e w3 ⟨rfl, hb⟩
      have HB3 := Aside0.mk (below_step HB.out hb)
      have HX3 := Aside0.mk (blk_below HX.out hb)
      have HO3 := Aside0.mk (Kd.R_below HO.out hb)
      clear K hb h0 h1 HB HX HO
      obtain ⟨x, hx⟩ : ∃ x, accR E s N = x := ⟨_, rfl⟩
      rw [hx]
      have HXA := Aside0.mk hx
      have hx64 : x < 2 ^ 64 := by rw [← hx]; exact Nat.lt_of_lt_of_le (accR_lt E s N) (Nat.pow_le_pow_right (by decide) HN.out)
      have K1 := Aside0.mk (members_T (x : Int) w3)
      have KC := Aside0.mk (Collect_T w3.heap.size x hx64 (Nat.lt_of_lt_of_le HZ.out (below_size HB3.out)) (w3.alloc (.cells #[.int .u64 (x : Int)] 56)) ((HT.out.below HB3.out).below (below_alloc (Below.refl _ _) _)) (heap_last w3 _))
      clear hx hx64
      go_wp2_with (fail)
      refine K1.out.mono ?_
      rintro e w4 ⟨rfl, rfl⟩
      go_wp2_with (fail)
      refine KC.out.mono ?_
      rintro e w5 ⟨v12, rfl, hr, hb⟩
      have hB5 : Below w3.heap.size w3 w5 := (below_alloc (Below.refl w3.heap.size w3) (.cells #[.int .u64 (x : Int)] 56)).trans hb
      have HB5 := Aside0.mk (below_step HB3.out hB5)
      have HX5 := Aside0.mk (blk_below HX3.out hB5)
      have HO5 := Aside0.mk (Kd.R_below HO3.out hB5)
      obtain ⟨A12, c12, rfl⟩ := Kd.R_slice hr
      obtain ⟨zl, hzl⟩ : ∃ z, (nodes x).length = z := ⟨_, rfl⟩
      have hC5 := (Kd.R_reads' hr).2.2
      rw [List.length_map, hzl]
      rw [List.length_map, hzl] at hC5
      have hpos : 0 < zl := by have := HWN.out.1; rw [HXA.out, hzl] at this; exact this
      have hl64 : zl ≤ 64 := by rw [← hzl]; exact nodes_len64 x
      obtain ⟨kk, hkk⟩ : ∃ k, pickOf ps out.length = k := ⟨_, rfl⟩
      obtain ⟨t, ht, hq, hqq⟩ := pickIx_is kk zl hpos (by omega)
      obtain ⟨q, hqe⟩ : ∃ q, pickIx kk zl = q := ⟨_, rfl⟩
      rw [hqe] at hq hqq
      have hnx : wayNext E N ps out.length s = (nodes x).getD q 0 := by unfold wayNext; rw [HXA.out, hzl, hkk, hqe]
      have HC5 := Aside0.mk hC5
      have HQ := Aside0.mk hq
      have HQQ := Aside0.mk hqq
      have HNX := Aside0.mk hnx
      have HLZ := Aside0.mk hl64
      have HZL := Aside0.mk hzl
      have e3 : ((zl : Int) == 0) = false := by rw [beq_eq_false_iff_ne]; omega
      have e4 : ¬ ((zl : Int) = 0) := by omega
      clear hr hb hB5 hC5 hqe hnx hq hqq hpos hl64 hzl K1 KC HB3 HX3 HO3
      rcases Nat.lt_or_ge z8 ps.length with c2 | c2
      case' inl =>
        have e5 : decide (z8 < ps.length) = true := decide_eq_true c2
        have e6 : (z8 : Int) < (ps.length : Int) := by omega
        obtain ⟨ad, ea, hx⟩ := at_int (Kd.C_below HCP.out HB5.out) z8 c2
        cases ea
        have hkv : ps.getD z8 0 = kk := by rw [← hkk]; unfold pickOf; rw [← HZO.out, if_pos c2]
        rw [hkv] at hx
        clear hkv hkk
        go_upto_region 12 with (fail)
        clear hx ht
      case' inr =>
        have e5 : decide (z8 < ps.length) = false := decide_eq_false (by omega)
        have e6 : ¬ (z8 : Int) < (ps.length : Int) := by omega
        obtain rfl : t = 0 := by
          rw [← ht, ← hkk]
          unfold pickOf
          rw [← HZO.out, if_neg (by omega)]
          simp
        clear hkk ht
        go_upto_region 12 with (fail)
      all_goals
        clear e3 e4 e5 e6 c2
        go_cut [14] (fun v14 wx => v14 = .int .i64 ((wayNext E N ps out.length s : Nat) : Int) ∧ wx = w5)
        case first =>
          obtain ⟨ad3, ea, hx⟩ := at_int (l := (nodes x).map Int.ofNat) (by rw [List.length_map, HZL.out]; exact HC5.out) q (by rw [List.length_map, HZL.out]; exact HQ.out)
          cases ea
          have hxv : ((nodes x).map Int.ofNat).getD q 0 = ((wayNext E N ps out.length s : Nat) : Int) := by
            rw [HNX.out]
            have hq := HQ.out
            rw [← HZL.out] at hq
            simp [List.getD_eq_getElem?_getD, hq]
          rw [hxv] at hx
          clear hxv
          first
            | (obtain rfl : q = 0 := by have := HQQ.out; unfold wrap64 at this; omega
               have hq := HQ.out
               have hq2 : (0 : Int) < (zl : Int) := by omega
               simp [Addr.add] at hx
               go_wp2_with (fail)
               go_meet
               exact ⟨rfl, rfl⟩)
            | (rcases HQQ.out with ⟨hq1, hq2⟩ | ⟨hq1, hq2, hq3, hq4⟩
               · have hq := HQ.out
                 have hm : max t ((q : Nat) : Int) = ((q : Nat) : Int) := Int.max_eq_right (Int.le_of_lt hq1)
                 clear hq1
                 go_wp2_with (fail)
                 go_meet
                 exact ⟨rfl, rfl⟩
               · rw [← hq4] at hx
                 have hm : max t (wrap64 (-t)) = t := Int.max_eq_left (by omega)
                 clear hq4
                 go_wp2_with (fail)
                 go_meet
                 exact ⟨rfl, rfl⟩)
        case rest =>
          obtain ⟨rfl, rfl⟩ := hcut
          obtain ⟨y, hy⟩ : ∃ y, wayNext E N ps out.length s = y := ⟨_, rfl⟩
          have hyw := HWN.out.2
          rw [hy] at hyw ⊢
          have hy64 : y < 64 := by have := HN.out; omega
          have s0 : min y 64 = y := by omega
          have s1 := shlU y hy64
          have s2 := orPow s y HS.out hy64
          have HY := Aside0.mk hy
          have HYW := Aside0.mk hyw
          have HL7 := Aside0.mk (lit_int wc (y : Int) 3)
          have HO7 := Aside0.mk (Kd.R_drew (Kd.R_alloc HO5.out (.cells #[.int .i64 (y : Int)] 3)))
          have HB7 := Aside0.mk (below_drew1 (below_alloc HB5.out (.cells #[.int .i64 (y : Int)] 3)))
          have HG7 := Aside0.mk (blk_drew (blk_alloc HX5.out (.cells #[.int .i64 (y : Int)] 3)))
          have HLL : Aside0 (((out.map Int.ofNat).length + 1) * 8 ≤ 140737488355328) := ⟨by rw [List.length_map]; have := HN.out; have := HZO.out; have := HI.out; omega⟩
          clear hy hyw hy64
          go_wp2_with (fail)
          go_region_law (refine Kd.R_append_rows_step kI (w0 := w) w.heap.size (by simp [Region.wanted]) (.tmp 57) (.tmp 59) 22 3 (.int .i64 0) 8 rfl Tryd.underlying22 info_int rfl (by decide) (by decide) (.slice A8 z8 c8) (out.map Int.ofNat) [(y : Int)] (some ⟨wc.heap.size, 0, none⟩) 1 1 (fun _ => True) (fun k => some k ≠ (Value.slice A8 z8 c8).ownBlock) (by simp [Act.eval, Act.put]) (by simp [Act.eval, Act.put]) HO7.out HL7.out (fun p cs h => h) (fun k hk => ⟨trivial, hk⟩) (fun k hk => trivial) HB7.out (below_size HB7.out) HLL.out ?_; intro v44 w8 ho hb hgr hat; obtain ⟨A9, c9, rfl⟩ := Kd.R_slice ho; have HO8 := Aside0.mk ho; have HB8 := Aside0.mk hb; have HG8 := Aside0.mk (blk_grown HG7.out hgr (Kd.R_ne HO7.out HG7.out (by decide))); clear ho hb hgr hat)
          all_goals
            go_wp2_with (fail)
            go_roundg (gk - 1)
            case measure => have := HJ.out; have := HI.out; have := HZO.out; omega
            case rel =>
              refine ⟨out ++ [y], s ||| 2 ^ y, rfl, ⟨by have := HJ.out; have := HI.out; have := HZO.out; rw [List.length_append, List.length_singleton]; omega⟩, ⟨HW.out.step HYW.out.1 (rdy_clr HYW.out.2)⟩, ⟨cl_add HEE.out HCL.out HYW.out.2⟩, ⟨?_⟩, ⟨?_⟩, HG8, HB8⟩
              · have hrn := HRN.out
                obtain ⟨g, hg⟩ : ∃ g, gk = g + 1 := ⟨gk - 1, by have := HJ.out; have := HI.out; have := HZO.out; omega⟩
                rw [hg] at hrn ⊢
                rw [wayRun_succ, HY.out] at hrn
                exact hrn
              · rw [List.map_append]
                have h8 := HO8.out
                rw [List.length_append, List.length_map] at h8
                exact h8
    · have e1 : decide (z8 < N) = false := decide_eq_false c1
      have e0 : ¬ (z8 : Int) < (N : Int) := by omega
      have hk : gk = 0 := by have := HJ.out; omega
      subst hk
      have hrn : out = wayRun E N ps N [] 0 := HRN.out
      have HRN2 := Aside0.mk hrn
      clear hrn c1 hz8 hzo HJ
      go_wp2
      refine bodyPost_ret (v := .tuple #[.slice A8 z8 c8, .int .i64 0]) (by simp [results, Tryd.results40, go_sem]) rfl ?_
      exact ⟨_, rfl, by rw [← HRN2.out]; exact HO.out, HB.out⟩
end Go.Proofs.YtplhihakeodadaaDoor.Sg
