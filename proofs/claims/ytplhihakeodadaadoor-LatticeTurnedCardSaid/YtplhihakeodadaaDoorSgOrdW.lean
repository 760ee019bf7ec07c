/- digraph: Order, walked. -/
import Derived.Test.YtplhihakeodadaaDoorSgOrder
namespace Go.Proofs.YtplhihakeodadaaDoor.Sg
open Go Go.RowKit Go.Proofs.YtplhihakeodadaaDoorW.PrintWords Go.Proofs.YtplhihakeodadaaDoorW.PrintLast Go.Proofs.YtplhihakeodadaaDoorW.PrintMore
set_option linter.unusedVariables false
set_option linter.unusedSimpArgs false
/-- A scope with one label: whoever stands at the label in a state that J tells goes on; the way ahead of the first pass may use it. -/
theorem wp_scope_jumps1 {P : Program} {a : Act} {w : World} {Q : Exit → Act → World → Prop} {c X : Code} (l : Nat) (J : Act → World → Prop) (μ : Act → World → Nat) (hf : findLabel c l = some (Code.skip.seq X))
    (pass : ∀ a w, J a w → X.wp P (Exit.jump l (fun a' w' => J a' w' ∧ μ a' w' < μ a w) Q) a w)
    (first : (∀ a w, J a w → X.wp P (Exit.jump l J Q) a w) → c.wp P (Exit.jump l J Q) a w) : (Code.scope c).wp P Q a w := by
  refine wp_scope_jumps l J μ hf (first fun a w hJ => Code.wp_mono ?_ (pass a w hJ)) fun a w hJ => wp_seq (wp_skip (pass a w hJ))
  intro e a' w' h
  cases e with
  | goto l' => exact ⟨h.1, h.2.1⟩
  | _ => exact h
def slotInt : Value → Int | .int _ q => q | _ => 0
theorem lit_int (W : World) (x : Int) (T : TypeId) : ReadsRow (fun (p : Int) cs => cs = [.int .i64 p]) 1 ((W.alloc (.cells #[.int .i64 x] T)).drew) (some ⟨W.heap.size, 0, none⟩) 1 [x] := by
  refine ⟨rfl, by decide, fun _ => ⟨_, rfl, fun j p hj => ?_⟩⟩
  match j, hj with
  | 0, hj =>
    cases hj
    refine ⟨_, rfl, rfl, fun i u hu => ?_⟩
    match i, hu with
    | 0, hu => cases hu; exact (blk_cell (heap_last W (.cells #[.int .i64 x] T))) 0
set_option maxHeartbeats 8000000 in
set_option maxRecDepth 100000 in
theorem Order_T (N : Int) (E : List Stp) (A : Option Addr) (c : Nat) (w : World) (hT : TabW w) (h : Kd.C kP w A E.length E) (hl : E.length ≤ 1000000000000) (hN : -9223372036854775808 ≤ N ∧ N < 9223372036854775808) :
    Calls Tryd.prog 57 #[.agg #[.int .i64 N, .slice A E.length c]] w fun e w' => ∃ v, e = .returned (.tuple #[v, .int .i64 (orderErr N E)]) ∧ Below w.heap.size w w' := by
  have hb := below_alloc (Below.refl w.heap.size w) (.cells #[.int .i64 N, .slice A E.length c] 62)
  have HB0 := Aside0.mk hb
  have HG0 := Aside0.mk (heap_last w (.cells #[.int .i64 N, .slice A E.length c] 62))
  have hg0 := (blk_cell HG0.out) 0
  have hg1 := (blk_cell HG0.out) 1
  have K := Aside0.mk (Check_T N E A c (w.alloc (.cells #[.int .i64 N, .slice A E.length c] 62)) (Kd.C_below h hb) hl hN)
  have HT := Aside0.mk hT
  have HC := Aside0.mk h
  by_cases q : rightG N E = true
  · obtain ⟨_, ⟨hN0, hN1⟩, _, _⟩ := rightG_in q
    obtain ⟨N, rfl⟩ := Int.eq_ofNat_of_zero_le hN0
    have HQ := Aside0.mk q
    obtain ⟨F, hF⟩ : ∃ F, orderRun E N (N + 1) [] 0 = F := ⟨_, rfl⟩
    have HFF := Aside0.mk hF
    clear hF
    have HN : Aside0 (N ≤ 64) := ⟨by omega⟩
    rw [show checkG (N : Int) E = 0 by unfold checkG; rw [if_pos q]] at K
    clear hb h hl hN hT q hN0 hN1
    go_enter Tryd.func57, Tryd.ntmps57
    go_wp2_with (fail)
    refine wp_scope_jumps1 0 (fun a' w' => ∃ (kq s : Nat) (out : List Nat) (u4 v5 u7 u8 u9 u10 u11 u12 u13 u14 u15 u16 u17 u18 u19 u20 u21 u22 u23 u24 u25 u26 u27 u28 u29 u30 u31 u32 u33 u34 : Value), a' = { tmps := #[.agg #[.int .i64 (N : Int), .slice A E.length c], .pointer (some ⟨w.heap.size, 0, none⟩), .slice none 0 0, .int .i64 0, u4, v5, .int .u64 (s : Int), u7, u8, u9, u10, u11, u12, u13, u14, u15, u16, u17, u18, u19, u20, u21, u22, u23, u24, u25, u26, u27, u28, u29, u30, u31, u32, u33, u34], defers := [] } ∧ Aside0 (Way N out s) ∧ Aside0 (kq + out.length = N + 1) ∧ Aside0 (orderRun E N kq out s = F) ∧ Aside0 (Kd.R kI 3 w' w.heap.size (fun _ => True) v5 (out.map fun x : Nat => (x : Int))) ∧ Aside0 (w'.heap[w.heap.size]? = some (.cells #[.int .i64 (N : Int), .slice A E.length c] 62 (0, 0))) ∧ Aside0 (Below w.heap.size w w')) (fun a' _ => (18446744073709551616 - slotInt (a'.tmps.getD 6 undef)).toNat) rfl ?_ ?_
    rotate_left
    · intro hpass
      go_wp2_with (fail)
      refine K.out.mono ?_
      rintro e w1 ⟨rfl, hb⟩
      have HB := Aside0.mk (below_step HB0.out hb)
      have HG := Aside0.mk (blk_below HG0.out hb)
      clear hb hg0 hg1 K HB0 HG0
      go_wp2
      go_step3
      rename_i hK
      refine hK _ _ (hpass _ _ ?_)
      exact ⟨N + 1, 0, [], _, _, _, _, _, _, _, _, _, _, _, _, _, _, _, _, _, _, _, _, _, _, _, _, _, _, _, _, _, _, rfl, ⟨Way.nil N⟩, ⟨rfl⟩, HFF, ⟨Kd.R_nil _ _ _ _ _⟩, HG, HB⟩
    · clear hg0 hg1 K HB0 HG0
      rintro a' wr ⟨kq, s, out, u4, v5, u7, u8, u9, u10, u11, u12, u13, u14, u15, u16, u17, u18, u19, u20, u21, u22, u23, u24, u25, u26, u27, u28, u29, u30, u31, u32, u33, u34, rfl, HW, HK, HF, HO, HG, HB⟩
      have hg0 := (blk_cell HG.out) 0
      have hg1 := (blk_cell HG.out) 1
      have hlen := HW.out.len
      obtain ⟨kq, rfl⟩ : ∃ k, kq = k + 1 := ⟨kq - 1, by have := HK.out; omega⟩
      have hs64 : s < 2 ^ 64 := Nat.lt_of_lt_of_le HW.out.sl (Nat.pow_le_pow_right (by decide) HN.out)
      have K := Aside0.mk (ready_T N E A c s wr hs64 (Kd.C_below HC.out HB.out) HQ.out)
      have HS := Aside0.mk hs64
      have HL := Aside0.mk hlen
      have hrun := HF.out
      unfold orderRun at hrun
      obtain ⟨v, hv⟩ : ∃ v, accR E s N = v := ⟨_, rfl⟩
      rw [hv] at K
      obtain ⟨A5, c5, rfl⟩ := Kd.R_slice HO.out
      clear hs64 hlen HF
      by_cases q : v = 0
      · subst q
        rw [if_pos hv] at hrun
        have HR := Aside0.mk hrun
        clear hrun hv
        go_wp2_with (fail)
        refine K.out.mono ?_
        rintro e w1 ⟨rfl, hb⟩
        have HB1 := Aside0.mk (below_step HB.out hb)
        have hg2 := (blk_cell (blk_below HG.out hb)) 0
        clear hb K hg0 hg1
        by_cases q : out.length < N
        · have HQ2 := Aside0.mk q
          go_wp2
          (try simp only [Exit.jump])
          go_ret2
          refine ⟨.slice none 0 0, ?_, HB1.out⟩
          unfold orderErr
          rw [if_pos HQ.out, Int.toNat_natCast, HFF.out, ← HR.out, if_pos HQ2.out]
          rfl
        · have HQ2 := Aside0.mk q
          go_wp2
          (try simp only [Exit.jump])
          go_ret2
          refine ⟨.slice A5 (out.map fun x : Nat => (x : Int)).length c5, ?_, HB1.out⟩
          unfold orderErr
          rw [if_pos HQ.out, Int.toNat_natCast, HFF.out, ← HR.out, if_neg HQ2.out]
          simp
      · have hvn : accR E s N ≠ 0 := by rw [hv]; exact q
        obtain ⟨hi, hri⟩ := next_node HN.out hvn
        have hvl := Nat.lt_of_lt_of_le (accR_lt E s N) (Nat.pow_le_pow_right (by decide) HN.out : 2 ^ N ≤ 2 ^ 64)
        rw [hv] at hi hri hvl
        rw [if_neg hvn, hv] at hrun
        have K2 := Aside0.mk (fun W hW => TZ_T v hvl q W hW)
        obtain ⟨i, hii⟩ : ∃ i, Lib.ctz 64 v = i := ⟨_, rfl⟩
        rw [hii] at hi hri hrun K2
        have HW2 := Aside0.mk (HW.out.step hi (rdy_clr hri))
        have hgr := or_grows (rdy_clr hri)
        have HGR := Aside0.mk hgr
        have HR := Aside0.mk hrun
        have q1 : ((v : Int) != 0) = true := by simpa using q
        have hi64 : i < 64 := by have := HN.out; omega
        have s0 : min i 64 = i := by omega
        have s1 := shlU i hi64
        have s2 := orPow s i HS.out hi64
        clear hv hvn hri hvl hrun hii hgr q hi
        go_wp2_with (fail)
        refine K.out.mono ?_
        rintro e w1 ⟨rfl, hb⟩
        have HB1 := Aside0.mk (below_step HB.out hb)
        have HG1 := Aside0.mk (blk_below HG.out hb)
        have HO1 := Aside0.mk (Kd.R_below HO.out hb)
        clear hb K hg0 hg1 HB HG HO
        go_wp2_with (fail)
        refine (K2.out w1 (HT.out.below HB1.out)).mono ?_
        rintro e w2 ⟨rfl, rfl⟩
        clear K2
        have HL7 := Aside0.mk (lit_int w1 (i : Int) 3)
        have HO7 := Aside0.mk (Kd.R_drew (Kd.R_alloc HO1.out (.cells #[.int .i64 (i : Int)] 3)))
        have HB7 := Aside0.mk (below_drew1 (below_alloc HB1.out (.cells #[.int .i64 (i : Int)] 3)))
        have HG7 := Aside0.mk (blk_drew (blk_alloc HG1.out (.cells #[.int .i64 (i : Int)] 3)))
        go_wp2_with (fail)
        go_region_law (refine Kd.R_append_rows_step kI (w0 := w) w.heap.size (by simp [Region.wanted]) (.tmp 21) (.tmp 23) 22 3 (.int .i64 0) 8 rfl Tryd.underlying22 info_int rfl (by decide) (by decide) (.slice A5 (out.map fun x : Nat => (x : Int)).length c5) (out.map fun x : Nat => (x : Int)) [(i : Int)] (some ⟨w1.heap.size, 0, none⟩) 1 1 (fun _ => True) (fun k => some k ≠ (Value.slice A5 (out.map fun x : Nat => (x : Int)).length c5).ownBlock) (by simp [Act.eval, Act.put]) (by simp [Act.eval, Act.put]) HO7.out HL7.out (fun p cs h => h) (fun k hk => ⟨trivial, hk⟩) (fun k hk => trivial) HB7.out (below_size HB7.out) (by rw [List.length_map]; have := HL.out; have := HN.out; omega) ?_; intro v44 w8 ho hb hgr hat; obtain ⟨A8, c8, rfl⟩ := Kd.R_slice ho; have HO8 := Aside0.mk ho; have HB8 := Aside0.mk hb; have HG8 := Aside0.mk (blk_grown HG7.out hgr (Kd.R_ne HO7.out HG7.out (by decide))); clear ho hb hgr hat)
        all_goals
          go_wp2_with (fail)
          go_step3
          refine ⟨rfl, ⟨kq, s ||| 2 ^ i, out ++ [i], _, _, _, _, _, _, _, _, _, _, _, _, _, _, _, _, _, _, _, _, _, _, _, _, _, _, _, _, _, _, rfl, HW2, ⟨by have := HK.out; simp; omega⟩, HR, ⟨?_⟩, HG8, HB8⟩, ?_⟩
          · have h8 := HO8.out
            rw [List.length_append, List.length_map] at h8
            rw [List.map_append]
            exact h8
          · have h1 := HS.out; have h2 := HGR.out; show (18446744073709551616 - ((s ||| 2 ^ i : Nat) : Int)).toNat < (18446744073709551616 - (s : Int)).toNat; omega
  · have HQ : Aside0 (orderErr N E = 20) := ⟨by unfold orderErr; rw [if_neg q]⟩
    rw [show checkG N E = 20 by unfold checkG; rw [if_neg q]] at K
    clear hb h hl hN hT q
    go_enter Tryd.func57, Tryd.ntmps57
    go_wp2_with (fail)
    go_step3
    go_wp2_with (fail)
    refine K.out.mono ?_
    rintro e w1 ⟨rfl, hb⟩
    have HB1 := Aside0.mk (below_step HB0.out hb)
    go_wp2
    (try simp only [Exit.jump])
    rw [Exit.noGoto_ret]
    go_ret2
    exact ⟨.slice none 0 0, by rw [HQ.out]; rfl, HB1.out⟩
end Go.Proofs.YtplhihakeodadaaDoor.Sg
