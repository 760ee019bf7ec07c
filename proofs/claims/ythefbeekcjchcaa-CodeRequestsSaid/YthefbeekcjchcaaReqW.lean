/- The document's writer and reader of requests, and the statement's own form of them: walked. -/
import Derived.Test.YthefbeekcjchcaaRefWC
import Derived.Test.YthefbeekcjchcaaRefG
namespace Go.Proofs.Ythefbeekcjchcaa.P
open Go Go.RowKit Go.Proofs.YthefbeekcjchcaaW.PrintWords Go.Proofs.YthefbeekcjchcaaW.PrintLast Go.Proofs.YthefbeekcjchcaaW.PrintMore
set_option linter.unusedVariables false
set_option linter.unusedSimpArgs false
set_option maxHeartbeats 8000000 in
set_option maxRecDepth 20000 in
theorem W_Request_T (g : Nat) (ts : List Tok) (nds : List Nd) (ms : List Int) (A A1 : Option Addr) (c c1 : Nat) (w0 w : World) (hO : OT 27 w0 w g ts) (hB : Below w0.heap.size w0 w) (h0 : Kd.C kNdR w0 A nds.length nds) (h1 : Kd.C (Kd.int .i64) w0 A1 ms.length ms) (hc : costT ts + costT (tReq (nds, ms)) ≤ 1000000000) :
    Calls Try.prog 27 #[.pointer (some ⟨g, 0, none⟩), .agg #[.slice A nds.length c, .slice A1 ms.length c1]] w (Wrote 27 w0 w g (ts ++ tReq (nds, ms))) := by
  obtain ⟨us, hus⟩ : ∃ us, ts ++ tReq (nds, ms) = us := ⟨_, rfl⟩
  rw [hus]
  have hct : costT (tReq (nds, ms)) = 6 + costT (nds.flatMap tNd) + costT (listT tNum ms) := by unfold tReq; rw [costT_app]; exact congrArg (· + _) (costT_num _ _)
  have hxl := len_cost cost_nd6 nds
  have HXL : Aside0 (nds.length ≤ 1000000000) := ⟨by omega⟩
  have HU0 : Aside0 ((ts ++ [.num (nds.length : Int)]) ++ nds.flatMap tNd ++ listT tNum ms = us) := ⟨by rw [← hus, tReq, listT, listT]; simp⟩
  have HC0 : Aside0 (costT (ts ++ [.num (nds.length : Int)]) + costT (nds.flatMap tNd) + costT (listT tNum ms) ≤ 1000000000) := ⟨by rw [costT_app, costT_num, costT_nil]; omega⟩
  have H0 := Aside0.mk h0
  have H1 := Aside0.mk h1
  have hb1 := below_alloc (Below.refl w.heap.size w) (Obj.cells #[.slice A nds.length c, .slice A1 ms.length c1] 75)
  have HP := Aside0.mk (heap_last w (Obj.cells #[.slice A nds.length c, .slice A1 ms.length c1] 75))
  have HK := Aside0.mk (Keeps.below (g := g) hb1)
  have HNE : Aside0 (w.heap.size ≠ g) := ⟨by have := hO.lt; omega⟩
  have K := Aside0.mk (W_num_T g ts (nds.length : Int) w0 _ (hO.below hb1) (below_alloc hB _) (by omega))
  clear hO hB hc hb1 h0 h1 hus hct hxl
  go_enter Try.func27, Try.ntmps27
  go_wp2_with (fail)
  refine K.out.mono ?_
  rintro e w1 ⟨rfl, ho, hb, hk⟩
  have HP1 := Aside0.mk (box_keep HP.out hk HNE.out (by decide))
  have HK1 := Aside0.mk (HK.out.trans hk)
  have HO1 := Aside0.mk ho
  have HB1 := Aside0.mk hb
  clear K ho hb hk HP HK
  generalize ts ++ [.num (nds.length : Int)] = s0 at HU0 HC0 HO1
  go_wp2
  go_loopg [4] nds.length (fun kq v4 w' => ∃ (i : Nat) (s : List Tok), v4 = .int .i64 (i : Int) ∧ Aside0 (i + kq = nds.length) ∧ Aside0 (costT s + costT ((nds.drop i).flatMap tNd) + costT (listT tNum ms) ≤ 1000000000) ∧ Aside0 (s ++ (nds.drop i).flatMap tNd ++ listT tNum ms = us) ∧ Aside0 (OT 27 w0 w' g s) ∧ Aside0 (Below w0.heap.size w0 w') ∧ Aside0 (Keeps w w' g) ∧ Aside0 (w'.heap[w.heap.size]? = some (.cells #[.slice A nds.length c, .slice A1 ms.length c1] 75 (0, 0))))
  case atStart => exact ⟨0, s0, rfl, ⟨by omega⟩, ⟨by rw [List.drop_zero]; exact HC0.out⟩, ⟨by rw [List.drop_zero]; exact HU0.out⟩, HO1, HB1, HK1, HP1⟩
  case round =>
    clear HO1 HB1 HK1 HP1 HC0 HU0
    obtain ⟨k, s, rfl, HJ3, HC, HU, HO, HB, HK, HP⟩ := hrel
    have hr5 := (blk_cell HP.out) 0
    have hr6 := (blk_cell HP.out) 1
    by_cases c3 : k < nds.length
    · have e3 : decide (k < nds.length) = true := decide_eq_true c3
      have HE53 : Aside0 (wrap64 ((k : Int) + 1) = ((k + 1 : Nat) : Int)) := ⟨by have := HXL.out; unfold wrap64; omega⟩
      have HI3 := Aside0.mk c3
      obtain ⟨ad3, Ak, ck, ea3, y0, y1, hle, hCn⟩ := at_ndR H0.out k c3
      cases ea3
      have hx0 := pw_cell_below HB.out y0
      have HY1 := Aside0.mk y1
      obtain ⟨ef, ec⟩ := flat_split (f := tNd) nds k c3 zNd
      have hC := HC.out
      have hU := HU.out
      rw [ec] at hC
      rw [ef] at hU
      generalize nds.getD k zNd = nd at hx0 hle hCn hC hU HY1
      obtain ⟨sv, rg⟩ := nd
      dsimp only at hx0 hle hCn HY1
      have HCN := Aside0.mk hCn
      obtain ⟨r3, hr3⟩ : ∃ r3, (nds.drop (k + 1)).flatMap tNd = r3 := ⟨_, rfl⟩
      have HR3 := Aside0.mk hr3
      rw [hr3] at hC hU
      have htc : costT (tNd (sv, rg)) = 6 + costT (tRng rg) := by unfold tNd; rw [costT_num]
      rw [htc] at hC
      have HC1 := Aside0.mk hC
      have HU1 : Aside0 (((s ++ [.num sv]) ++ tRng rg) ++ r3 ++ listT tNum ms = us) := ⟨by rw [← hU, tNd]; simp⟩
      have K := Aside0.mk (W_num_T g s sv w0 wr HO.out HB.out (by omega))
      clear y0 y1 hle hCn ef ec hC hU hr3 htc HC HU
      go_wp2_with (fail)
      refine K.out.mono ?_
      rintro e w7 ⟨rfl, ho, hb, hk⟩
      have HP7 := Aside0.mk (box_keep HP.out hk HNE.out (by decide))
      have HK7 := Aside0.mk (HK.out.trans hk)
      clear hr5 hr6 hx0
      have hr5 := (blk_cell HP7.out) 0
      have hx1 := pw_cell_below hb HY1.out
      have K' := Aside0.mk (W_ranged_T g _ rg Ak ck w0 w7 ho hb HCN.out (by rw [costT_app, costT_num, costT_nil]; have := HC1.out; omega))
      clear K ho hb hk HP HK HO HB
      go_wp2_with (fail)
      refine K'.out.mono ?_
      rintro e w8 ⟨rfl, ho, hb, hk⟩
      have HP8 := Aside0.mk (box_keep HP7.out hk HNE.out (by decide))
      have HK8 := Aside0.mk (HK7.out.trans hk)
      have HO8 := Aside0.mk ho
      have HB8 := Aside0.mk hb
      clear K' ho hb hk hr5 hx1 e3
      go_wp2
      go_roundg (gk - 1)
      case measure => have := HJ3.out; have := HI3.out; omega
      case rel => exact ⟨k + 1, (s ++ [.num sv]) ++ tRng rg, (by first | exact congrArg _ HE53.out | rfl), ⟨by have := HJ3.out; have := HI3.out; omega⟩, ⟨by rw [HR3.out, costT_app, costT_app, costT_num, costT_nil]; have := HC1.out; omega⟩, ⟨by rw [HR3.out]; exact HU1.out⟩, HO8, HB8, HK8, HP8⟩
    · have e3 : decide (k < nds.length) = false := decide_eq_false c3
      have hC := HC.out
      have hU := HU.out
      rw [List.drop_eq_nil_of_le (by omega), List.flatMap_nil, List.append_nil] at hU
      rw [List.drop_eq_nil_of_le (by omega), List.flatMap_nil, costT_nil, Nat.add_zero] at hC
      have K := Aside0.mk (W_Ints_T g s A1 c1 ms w0 wr HO.out HB.out H1.out hC)
      rw [hU] at K
      clear hC hU HU HC
      go_wp2_with (fail)
      refine K.out.mono ?_
      rintro e w8 ⟨rfl, ho, hb, hk⟩
      have HK8 := Aside0.mk (HK.out.trans hk)
      have HO8 := Aside0.mk ho
      have HB8 := Aside0.mk hb
      clear K ho hb hk
      go_wp2
      go_end0
      exact ⟨rfl, HO8.out, HB8.out, HK8.out⟩
theorem info_p12 : (Try.prog.info? 149).map (fun i => (i.zero, i.size, i.bytes)) = some (some (.agg #[.int .i64 0, .slice none 0 0]), 2, 32) := by kernel_rfl
theorem info_i12 : (Try.prog.info? 3).map (fun i => (i.zero, i.size, i.bytes)) = some (some (.int .i64 0), 1, 8) := by kernel_rfl
def VIn (v : Value) (_ : List Int) (_ : World) : Prop := ∃ A n c, v = .slice A n c
set_option maxHeartbeats 8000000 in
set_option maxRecDepth 20000 in
theorem R_Ints_Q (g : Nat) (B : List Int) (hB0 : Bytes B ∧ B.length ≤ 1000000000) (st : St) (w0 w : World) (hI : RQ w0 w g B st) (hB : Below w0.heap.size w0 w) :
    Calls Try.prog 17 #[.pointer (some ⟨g, 0, none⟩)] w (RTell (rlist rnum) VIn w0 w g B st) := by
  have HBB := Aside0.mk hB0
  have HLT : Aside0 (g < w.heap.size) := ⟨hI.lt⟩
  have HLE := Aside0.mk hB.size
  have K := Aside0.mk (R_size_Q g B hB0 st w0 w hI hB)
  clear hB0 hI hB
  go_enter Try.func17, Try.ntmps17
  go_wp2_with (fail)
  refine K.out.mono ?_
  rintro e w1 ⟨m, st1, rfl, hm, hs, hi, hb, hk⟩
  have R1 := Aside0.mk hi
  have B1 := Aside0.mk hb
  have K1 := Aside0.mk hk
  have HS1 := Aside0.mk hs
  have HM := Aside0.mk hm
  clear hm hs hi hb hk K
  go_wp2
  go_loopg [3, 5] m (fun kq v3 v5 w' => ∃ (i : Nat) (xs : List Int) (out : List Unit) (s : St) (A : Option Addr) (c : Nat), v5 = .int .i64 (i : Int) ∧ v3 = .slice A out.length c ∧ Aside0 (i + kq = m) ∧ Aside0 (out.length = i) ∧ Aside0 (Goes rnum m st1 kq xs s) ∧ Aside0 ((kAny 1).R 3 w' w.heap.size (fun k => k ≠ g) (.slice A out.length c) out) ∧ Aside0 (RQ w0 w' g B s) ∧ Aside0 (Below w0.heap.size w0 w') ∧ Aside0 (Only w w' g))
  case atStart => exact ⟨0, [], [], st1, none, 0, rfl, rfl, ⟨by omega⟩, ⟨rfl⟩, ⟨Goes.start _ _ _⟩, ⟨Kd.R_nil _ _ _ _ _⟩, R1, B1, K1⟩
  case round =>
    clear R1 B1 K1
    obtain ⟨i, xs, out, s1, A, c1, rfl, rfl, HJ, HOL, HGO, O1, R1, B1, K1⟩ := hrel
    obtain ⟨ee, hc1, hee⟩ := R1.out.ecell
    have HEE := Aside0.mk hee
    clear hee
    by_cases hgo : 0 < gk ∧ ee = 0
    · obtain ⟨hgk, he⟩ := hgo
      have e1 : decide (i < m) = true := decide_eq_true (by have := HJ.out; omega)
      have HE5 : Aside0 (wrap64 ((i : Int) + 1) = ((i + 1 : Nat) : Int)) := ⟨by have := HJ.out; have := HM.out; unfold wrap64; omega⟩
      have h0 : (ee == 0) = true := beq_iff_eq.2 he
      obtain ⟨gn, hgn⟩ : ∃ gn, gk = gn + 1 := ⟨gk - 1, by omega⟩
      have HGN := Aside0.mk hgn
      have hG := HGO.out
      rw [hgn] at hG
      have HG1 := Aside0.mk hG
      have K := Aside0.mk (R_num_Q g B HBB.out _ w0 wr R1.out B1.out)
      clear he hgk hgn hG
      go_wp2_with (fail)
      refine K.out.mono ?_
      rintro e w4 ⟨v, x, s2, rfl, hv, hs, hi, hb, hk⟩
      have hv' : v = .int .i64 x := hv
      subst hv'
      have R4 := Aside0.mk hi
      have B4 := Aside0.mk hb
      have K4 := Aside0.mk (K1.out.trans hk)
      have O4 := Aside0.mk (R_only O1.out hk)
      have HS4 := Aside0.mk hs
      clear K hs hi hb hk hv hc1 e1 h0
      go_wp2_with (first
        | ((with_reducible refine gate_dst (N := 23) rfl ?_); go_must (refine Kd.R_lit (kAny 1) (w0 := w4) w.heap.size 3 ?hg (N := 23) ?hd (xs := [()]) (inner := [.int .i64 x]) (ok := fun k => k ≠ g ∧ some k ≠ (Value.slice A out.length c1).ownBlock) (okp := fun k => k ≠ g ∧ some k ≠ (Value.slice A out.length c1).ownBlock) ?hr ?hp (fun _ hk => hk) ⟨by have := R4.out.lt; omega, Kd.R_fresh O4.out⟩ (Below.refl _ _) K4.out.1 (by simp) ?_; (case hd => rfl); (case hg => rfl); (case hr => first | (go_simp; done) | (go_simp; rfl)); (case hp => exact reps1 ⟨rfl, by simp [Value.oneCell']⟩ rfl); intro v43 w7 ho hb hg_ hnew_; obtain ⟨A43, c43, rfl, hcl43, hC43⟩ := OwnRow.reads ho.2; have HC43 := Aside0.mk hC43; have O5 := Aside0.mk (Kd.R_grown O4.out hg_ (fun _ _ => by simp)); have R5 := Aside0.mk (R4.out.grown hg_ (by simp)); have B5 := Aside0.mk (B4.out.trans (hb.mono HLE.out)); have K5 := Aside0.mk (K4.out.belowG hb hg_.size); clear ho hb hC43 hcl43 hg_ hnew_))
        | ((with_reducible refine gate_builtin (b := .append) (xs := #[.tmp 20, .tmp 23]) rfl ?_); at_builtin; go_must (refine Kd.R_append_rows (kAny 1) (w0 := w7) w.heap.size rfl (.tmp 20) (.tmp 23) 22 3 (.int .i64 0) 8 rfl Try.underlying22 info_i12 rfl (by decide) (by decide) (.slice A out.length c1) out [()] A43 1 c43 (fun k => k ≠ g) _ rfl rfl O5.out HC43.out (fun _ _ h => h) (fun k hk => ⟨hk.1.1, hk.1.2⟩) (fun k hk => by have := R5.out.lt; omega) (Below.refl _ _) K5.out.1 (by have := HOL.out; have := HJ.out; have := HM.out; omega) ?_; intro v44 w8 ho hb hgr hat; obtain ⟨A8, c8, rfl⟩ := Kd.R_slice ho; have O6 := Aside0.mk ho; have R6 := Aside0.mk (R5.out.grown hgr (Kd.R_away O5.out (fun k hk => hk))); have B6 := Aside0.mk (B5.out.trans (hb.mono HLE.out)); have K6 := Aside0.mk (K5.out.belowG hb hgr.size); clear ho hb hgr hat)))
      go_roundg gn
      case measure => have := HGN.out; omega
      case rel => exact ⟨i + 1, xs ++ [x], out ++ [()], s2, A8, c8, (by first | exact congrArg _ HE5.out | rfl), (by rw [len_snoc]), ⟨by have := HJ.out; have := HGN.out; omega⟩, ⟨by simp [HOL.out]⟩, ⟨HG1.out.next HS4.out⟩, O6, R6, B6, K6⟩
    · obtain ⟨hT, hex⟩ := goes_out HGO.out HJ.out HEE.out hgo
      have HT := Aside0.mk hT
      clear hT hgo HEE HGO
      rcases hex with e1 | ⟨e1, h0⟩
      all_goals
        go_wp2
        go_ret
        obtain ⟨y, t⟩ := HT.out
        exact ⟨_, y, s1, rfl, ⟨_, _, _, rfl⟩, Step.list HS1.out t, R1.out, B1.out, K1.out⟩
set_option maxHeartbeats 8000000 in
set_option maxRecDepth 20000 in
theorem R_Request_Q (g : Nat) (B : List Int) (hB0 : Bytes B ∧ B.length ≤ 1000000000) (st : St) (w0 w : World) (hI : RQ w0 w g B st) (hB : Below w0.heap.size w0 w) :
    Calls Try.prog 30 #[.pointer (some ⟨g, 0, none⟩)] w (RTell rReq (fun _ _ _ => True) w0 w g B st) := by
  have HBB := Aside0.mk hB0
  have R0 := Aside0.mk (RS.start hI hB #[.slice none 0 0, .slice none 0 0] 75)
  have K2 := Aside0.mk (R_size_Q g B hB0 st w0 _ R0.out.q R0.out.b)
  clear hB0 hI hB
  go_enter Try.func30, Try.ntmps30
  go_wp2_with (fail)
  refine K2.out.mono ?_
  rintro e w3 ⟨m, st3, rfl, hm, hs, hi, hb, hk⟩
  have R3 := Aside0.mk (R0.out.next hi hb hk)
  have HS3 := Aside0.mk hs
  have HM := Aside0.mk hm
  clear hm hs hi hb hk K2 R0
  go_wp2
  go_loopg [5, 6] m (fun kq v5 v6 w' => ∃ (i : Nat) (xs : List Nd) (out : List Unit) (s1 : St) (A : Option Addr) (c1 : Nat), v5 = .int .i64 (i : Int) ∧ Aside0 (i + kq = m) ∧ Aside0 (out.length = i) ∧ Aside0 (Goes rNd m st3 kq xs s1) ∧ Aside0 ((kAny 2).R 149 w' w.heap.size (fun k => k ≠ g) (.slice A out.length c1) out) ∧ Aside0 (RS w0 w g B 75 #[.slice none 0 0, .slice none 0 0] #[.slice A out.length c1, .slice none 0 0] s1 w'))
  case atStart => exact ⟨0, [], [], st3, none, 0, rfl, ⟨by omega⟩, ⟨rfl⟩, ⟨Goes.start _ _ _⟩, ⟨Kd.R_nil _ _ _ _ _⟩, R3⟩
  case round =>
    clear R3
    obtain ⟨i, xs, out, s1, A, c1, rfl, HJ, HOL, HGO, O1, R1⟩ := hrel
    obtain ⟨ee, hc1, hee⟩ := R1.out.q.ecell
    have HEE := Aside0.mk hee
    clear hee
    by_cases hgo : 0 < gk ∧ ee = 0
    · obtain ⟨hgk, he⟩ := hgo
      have e1 : decide (i < m) = true := decide_eq_true (by have := HJ.out; omega)
      have HE5 : Aside0 (wrap64 ((i : Int) + 1) = ((i + 1 : Nat) : Int)) := ⟨by have := HJ.out; have := HM.out; unfold wrap64; omega⟩
      have h0 : (ee == 0) = true := beq_iff_eq.2 he
      obtain ⟨gn, hgn⟩ : ∃ gn, gk = gn + 1 := ⟨gk - 1, by omega⟩
      have HGN := Aside0.mk hgn
      have hG := HGO.out
      rw [hgn] at hG
      have HG1 := Aside0.mk hG
      have K := Aside0.mk (R_num_Q g B HBB.out _ w0 wr R1.out.q R1.out.b)
      clear he hgk hgn hG
      go_wp2_with (fail)
      refine K.out.mono ?_
      rintro e w4 ⟨v, x, s2, rfl, hv, hs, hi, hb, hk⟩
      have hv' : v = .int .i64 x := hv
      subst hv'
      have R4 := Aside0.mk ((R1.out.next hi hb hk).below (below_drew (Below.refl w4.heap.size w4)))
      have O4 := Aside0.mk (Kd.R_below (R_only O1.out hk) (below_drew (Below.refl w4.heap.size w4)))
      have HS4 := Aside0.mk hs
      have hq4 : w4.drew.cell? ⟨w.heap.size + 1, 0, none⟩ = some (.slice A out.length c1) := (blk_cell R4.out.c0) 0
      have K' := Aside0.mk (R_ranged_Q g B HBB.out s2 w0 w4.drew R4.out.q R4.out.b)
      clear K hs hi hb hk hv hc1
      go_wp2
      go_region_law (first
        | (go_simp; go_at_call 72; go_must (refine K'.out.mono ?_; rintro e w5 ⟨v, y, s3, rfl, ⟨Ar, nr, cr, rfl⟩, hs, hi, hb, hk⟩; have R5 := Aside0.mk (R4.out.next hi hb hk); have hb7 := below_alloc (Below.refl w5.heap.size w5) (Obj.cells #[.int .i64 x, .slice Ar nr cr] 149); have R7 := Aside0.mk (R5.out.below hb7); have O7 := Aside0.mk (Kd.R_below (R_only O4.out hk) hb7); have HS5 := Aside0.mk hs; have HL7 := Aside0.mk (lit_any w5 [.int .i64 x, .slice Ar nr cr] 149 2 rfl (by simp [Value.oneCell']) (by decide)); have hq5 := (blk_cell R5.out.c0) 0; have hq7 := (blk_cell R7.out.c0) 0; clear K' hs hi hb hk hb7))
        | (refine Kd.R_append_rows_step (kAny 2) (w0 := w5.alloc (.cells #[.int .i64 x, .slice Ar nr cr] 149)) w.heap.size (by simp [Region.wanted]) (.tmp 24) (.tmp 29) 73 149 (.agg #[.int .i64 0, .slice none 0 0]) 32 rfl Try.underlying73 info_p12 rfl (by decide) (by decide) (.slice A out.length c1) out [()] (some ⟨w5.heap.size, 0, none⟩) 1 1 (fun k => k ≠ g) (fun k => k ≠ g ∧ some k ≠ (Value.slice A out.length c1).ownBlock) (by simp [Act.eval, Act.put]) (by simp [Act.eval, Act.put]) O7.out HL7.out (fun p cs h => h) (fun k hk => hk) (fun k hk => by have := R7.out.q.lt; omega) (Below.refl _ _) R7.out.o.1 (by have := HOL.out; have := HJ.out; have := HM.out; omega) ?_; intro v44 w8 ho hb hgr hat; obtain ⟨A8, c8, rfl⟩ := Kd.R_slice ho; have O8 := Aside0.mk ho; have R8 := Aside0.mk (R7.out.grow hb hgr (Kd.R_ne O7.out R7.out.z0 (by decide)) (Kd.R_ne O7.out R7.out.c0 (by decide))); have hq8 := (blk_cell R8.out.c0) 0; have hf8 := free_of R8.out.c0 0; clear ho hb hgr hat))
      all_goals
        go_wp2
        go_roundg gn
        case measure => have := HGN.out; omega
        case rel =>
          refine ⟨i + 1, xs ++ [(x, y)], out ++ [()], s3, A8, c8, (by first | exact congrArg _ HE5.out | rfl), ⟨by have := HJ.out; have := HGN.out; omega⟩, ⟨by simp [HOL.out]⟩, ⟨HG1.out.next (Step.bind HS4.out (Step.map (f := fun b => (x, b)) HS5.out))⟩, ⟨Kd.R_set O8.out R8.out.c0 (by simp [kAny]) 0 (.slice A8 (out.length + 1) c8)⟩, ⟨by rw [len_snoc]; exact R8.out.set 0 (.slice A8 (out.length + 1) c8)⟩⟩
    · obtain ⟨hT, hex⟩ := goes_out HGO.out HJ.out HEE.out hgo
      have HT := Aside0.mk hT
      have K := Aside0.mk (R_Ints_Q g B HBB.out s1 w0 _ R1.out.q R1.out.b)
      have hf1 := free_of R1.out.c0 1
      clear hT hgo HEE HGO
      rcases hex with e1 | ⟨e1, h0⟩
      all_goals
        go_wp2_with (fail)
        refine K.out.mono ?_
        rintro e w4 ⟨v, ms, s2, rfl, ⟨Am, nm, cm, rfl⟩, hs, hi, hb, hk⟩
        have R4a := R1.out.next hi hb hk
        have hq1 := (blk_cell R4a.c0) 1
        have hf4 := free_of R4a.c0 1
        have R4 := Aside0.mk (show RS w0 w g B 75 #[.slice none 0 0, .slice none 0 0] #[.slice A out.length c1, .slice Am nm cm] s2 _ from R4a.set 1 (.slice Am nm cm))
        have HS4 := Aside0.mk hs
        have hz0 := (blk_cell R4.out.z0) 0
        have hz1 := (blk_cell R4.out.z0) 1
        have hg0 := free_of R4.out.z0 0
        have hg1 := free_of R4.out.z0 1
        have hy0 := (blk_cell R4.out.c0) 0
        have hy1 := (blk_cell R4.out.c0) 1
        clear K hs hi hb hk R4a hc1 R1 O1
        go_wp2
        refine bodyPost_ret (v := .agg #[.slice A out.length c1, .slice Am nm cm]) (by simp [results, Try.results30, go_sem, hz0, hz1]) rfl ?_
        obtain ⟨y, t⟩ := HT.out
        exact ⟨_, (y, ms), s2, rfl, trivial, Step.bind (Step.list HS3.out t) (Step.map (f := fun m => (y, m)) HS4.out), (R4.out.q.far (b := w.heap.size) (by have := R4.out.lt; omega) _ _).far (b := w.heap.size) (by have := R4.out.lt; omega) _ _, (R4.out.b.setCell (p := ⟨w.heap.size, 0, none⟩) R4.out.le _).setCell (p := ⟨w.heap.size, 1, none⟩) R4.out.le _, (R4.out.o.far (Nat.le_refl _) _ _).far (Nat.le_refl _) _ _⟩
end Go.Proofs.Ythefbeekcjchcaa.P
namespace Go.Proofs.Ythefbeekcjchcaa.P
open Go Go.RowKit Go.Proofs.YthefbeekcjchcaaW.PrintWords Go.Proofs.YthefbeekcjchcaaW.PrintLast Go.Proofs.YthefbeekcjchcaaW.PrintMore
set_option linter.unusedVariables false
set_option linter.unusedSimpArgs false
def okReq (p : List Nd) (m : List Int) : Bool := decide (p.length ≤ 40) && decide (m.length ≤ 100) && p.all okNd
theorem MB.start2 (w : World) (a z c : Array Value) (T0 T1 : Nat) : MB w T0 T1 a z c (((w.alloc (.cells a T0)).alloc (.cells z T1)).alloc (.cells c T1)) where
  a0 := ((below_alloc (below_alloc (Below.refl _ (w.alloc (.cells a T0))) (.cells z T1)) (.cells c T1)).block w.heap.size (by rw [World.size_alloc]; omega)).trans (heap_last w _)
  z0 := by
    have h := box_lit (w.alloc (.cells a T0)) (.cells z T1) (.cells c T1)
    rwa [World.size_alloc] at h
  c0 := by
    have h := heap_last ((w.alloc (.cells a T0)).alloc (.cells z T1)) (.cells c T1)
    rwa [World.size_alloc, World.size_alloc] at h
  b := below_alloc (below_alloc (below_alloc (Below.refl _ _) _) _) _
theorem info_mp : (Try.prog.info? 149).map (fun i => (i.zero, i.size, i.bytes)) = some (some (.agg #[.int .i64 0, .slice none 0 0]), 2, 32) := by kernel_rfl
set_option maxHeartbeats 8000000 in
set_option maxRecDepth 20000 in
theorem request_T (p : List Nd) (m : List Int) (A A1 : Option Addr) (c c1 : Nat) (w : World) (h : Kd.C kNd w A p.length p) :
    Calls Try.prog 26 #[.agg #[.slice A p.length c, .slice A1 m.length c1]] w fun e w' => ∃ Au nu cu, e = .returned (.tuple #[.agg #[.slice Au nu cu, .slice A1 m.length c1], .bool (okReq p m)]) ∧ (okReq p m = true → kNdR.R 149 w' w.heap.size (fun _ => True) (.slice Au nu cu) p) ∧ Below w.heap.size w w' := by
  have HC := Aside0.mk h
  obtain ⟨R, hR⟩ : ∃ r, okReq p m = r := ⟨_, rfl⟩
  rw [hR]
  have HR := Aside0.mk hR
  clear hR
  have M0 := Aside0.mk (MB.start2 w #[.slice A p.length c, .slice A1 m.length c1] #[.slice none 0 0, .slice none 0 0] #[.slice none 0 0, .slice A1 m.length c1] 72 75)
  have hp0 := (blk_cell M0.out.a0) 0
  have hp1 := (blk_cell M0.out.a0) 1
  clear h
  by_cases q : p.length ≤ 40
  · have d : decide (40 < (p.length : Int)) = false := decide_eq_false (by omega)
    have HQ := Aside0.mk q
    clear q
    by_cases q1 : m.length ≤ 100
    · have d1 : decide (100 < (m.length : Int)) = false := decide_eq_false (by omega)
      have HQ1 := Aside0.mk q1
      clear q1
      go_enter Try.func26, Try.ntmps26
      go_wp2
      clear hp0 hp1 d d1
      go_loopg [6, 7, 8, 26] p.length (fun kq v6 v7 v8 v26 w' => ∃ (i : Nat) (A2 : Option Addr) (c2 : Nat), v26 = .int .i64 (i : Int) ∧ Aside0 (i + kq = p.length) ∧ Aside0 ((p.take i).all okNd = true) ∧ Aside0 (kNdR.R 149 w' w.heap.size (fun _ => True) (.slice A2 i c2) (p.take i)) ∧ Aside0 (MB w 72 75 #[.slice A p.length c, .slice A1 m.length c1] #[.slice none 0 0, .slice none 0 0] #[.slice A2 i c2, .slice A1 m.length c1] w'))
      case atStart => exact ⟨0, none, 0, rfl, ⟨by omega⟩, ⟨rfl⟩, ⟨Kd.R_nil _ _ _ _ _⟩, M0⟩
      case round =>
        clear M0
        obtain ⟨i, A2, c2, rfl, HJ, HOK, O1, M1⟩ := hrel
        by_cases cl : i < p.length
        · have e1 : decide (i < p.length) = true := decide_eq_true cl
          have HE5 : Aside0 (wrap64 ((i : Int) + 1) = ((i + 1 : Nat) : Int)) := ⟨by have := HQ.out; unfold wrap64; omega⟩
          have HI := Aside0.mk cl
          obtain ⟨ad, Ai, ci, ea, y0, y1, hle, hCn⟩ := at_nd HC.out i cl
          cases ea
          have hx0 := pw_cell_below M1.out.b y0
          have hx1 := pw_cell_below M1.out.b y1
          obtain ⟨nd, hl⟩ : ∃ nd, p.getD i zNd = nd := ⟨_, rfl⟩
          rw [hl] at hx0 hx1 hle hCn
          have HL := Aside0.mk hl
          obtain ⟨sv, rg⟩ := nd
          dsimp only at hx0 hx1 hle hCn
          have hbN := below_alloc (Below.refl wr.heap.size wr) (Obj.cells #[.int .i64 sv, .slice Ai rg.length ci] 148)
          have HN5 := Aside0.mk (heap_last wr (Obj.cells #[.int .i64 sv, .slice Ai rg.length ci] 148))
          have M2 := Aside0.mk (M1.out.below hbN)
          have O2 := Aside0.mk (Kd.R_below O1.out hbN)
          have K := Aside0.mk (Range_T rg Ai ci (wr.alloc (Obj.cells #[.int .i64 sv, .slice Ai rg.length ci] 148)) (Kd.C_below hCn M2.out.b))
          obtain ⟨OK, hOK⟩ : ∃ b, okRng rg = b := ⟨_, rfl⟩
          rw [hOK] at K
          have HOKV := Aside0.mk hOK
          clear y0 y1 hle hCn hl hbN hOK
          go_wp2_with (fail)
          refine K.out.mono ?_
          rintro e w5 ⟨Au, nu, cu, rfl, hok, hb⟩
          have M3 := Aside0.mk (M2.out.below hb)
          have O3 := Aside0.mk (Kd.R_below O2.out hb)
          have HN6 := Aside0.mk ((hb.block _ (blk_lt HN5.out)).trans HN5.out)
          clear hb K hx0 hx1 e1
          cases OK with
          | true =>
            have hr := hok rfl
            obtain ⟨Au', cu', hv⟩ := Kd.R_slice hr
            cases hv
            have hbZ := below_alloc (Below.refl w5.heap.size w5) (Obj.cells #[.slice Au rg.length cu] 133)
            have O6 := Aside0.mk (Kd.R_below O3.out hbZ)
            have HV := Aside0.mk (Kd.M_apart (M_nd (sv := sv) (Kd.R_below hr hbZ) M2.out.b.size) O6.out (by decide))
            have M6 := Aside0.mk (M3.out.below hbZ)
            have HN7 := Aside0.mk ((hbZ.block _ (blk_lt HN6.out)).trans HN6.out)
            have hq6 := (blk_cell M6.out.c0) 0
            have hn6 := (blk_cell HN7.out) 0
            clear hok hr hbZ
            go_wp2_with (first
              | ((with_reducible refine gate_dst (N := 45) rfl ?_); go_must (refine Kd.R_lit kNdR (w0 := (w5.alloc (Obj.cells #[.slice Au rg.length cu] 133))) w.heap.size 149 ?hg (N := 45) ?hd (xs := [(sv, rg)]) (inner := [.int .i64 sv, .slice Au rg.length cu]) (ok := fun kk_ => True ∧ some kk_ ≠ (Value.slice A2 i c2).ownBlock) (okp := fun kk_ => True ∧ some kk_ ≠ (Value.slice A2 i c2).ownBlock) ?hr ?hp (fun _ hk => hk) ⟨trivial, Kd.R_fresh O6.out⟩ (Below.refl _ _) M6.out.b.size (by simp) ?_; (case hd => rfl); (case hg => rfl); (case hr => first | (go_simp; done) | (go_simp; rfl)); (case hp => exact reps1 HV.out rfl); intro v43 w7 ho hb hg_ hnew_; obtain ⟨A43, c43, rfl, hcl43, hC43⟩ := OwnRow.reads ho.2; have HC43 := Aside0.mk hC43; have O7 := Aside0.mk (Kd.R_grown O6.out hg_ (fun _ _ => by simp)); have M7 := Aside0.mk (M6.out.grow hb hg_ (by simp) (by simp) (by simp)); have hq7 := (blk_cell M7.out.c0) 0; clear hq6; clear ho hb hC43 hcl43 hg_ hnew_))
              | ((with_reducible refine gate_builtin (b := .append) (xs := #[.tmp 40, .tmp 45]) rfl ?_); at_builtin; go_must (refine Kd.R_append_rows kNdR (w0 := w7) w.heap.size rfl (.tmp 40) (.tmp 45) 73 149 (.agg #[.int .i64 0, .slice none 0 0]) 32 rfl Try.underlying73 info_mp rfl (by decide) (by decide) (.slice A2 i c2) (p.take i) [(sv, rg)] A43 1 c43 (fun _ => True) _ rfl rfl O7.out HC43.out (fun _ _ h => h) (fun k hk => ⟨trivial, hk.1.2⟩) (fun k hk => trivial) (Below.refl _ _) M7.out.b.size (by have := HQ.out; have := HI.out; simp only [List.length_take]; omega) ?_; intro v44 w8 ho hb hgr hat; rw [← HL.out, take_snoc HI.out zNd] at ho; obtain ⟨A8, c8, hv8⟩ := Kd.R_slice ho; rw [List.length_take, Nat.min_eq_left (Nat.succ_le_of_lt HI.out)] at hv8; subst hv8; have O8 := Aside0.mk ho; have M8 := Aside0.mk (M7.out.grow hb hgr (Kd.R_ne O7.out M7.out.a0 (by decide)) (Kd.R_ne O7.out M7.out.z0 (by decide)) (Kd.R_ne O7.out M7.out.c0 (by decide))); have hq8 := (blk_cell M8.out.c0) 0; have hf8 := free_of M8.out.c0 0; clear hq7; clear ho hb hgr hat)))
            go_roundg (gk - 1)
            case measure => have := HJ.out; have := HI.out; omega
            case rel => exact ⟨i + 1, A8, c8, (by first | exact congrArg _ HE5.out | rfl), ⟨by have := HJ.out; have := HI.out; omega⟩, ⟨take_ok HI.out zNd HOK.out (by rw [HL.out]; exact HOKV.out)⟩, ⟨Kd.R_set O8.out M8.out.c0 (by decide) 0 (.slice A8 (i + 1) c8)⟩, ⟨M8.out.set 0 (.slice A8 (i + 1) c8)⟩⟩
          | false =>
            have q5 := HOKV.out
            have hbZ := below_alloc (Below.refl w5.heap.size w5) (Obj.cells #[.slice Au nu cu] 133)
            have M6 := Aside0.mk (M3.out.below hbZ)
            have ho : okReq p m = false := by
              unfold okReq
              rw [take_bad HI.out zNd (show okNd (p.getD i zNd) = false by rw [HL.out]; exact q5), Bool.and_false]
            obtain rfl : R = false := HR.out.symm.trans ho
            have hz0 := (blk_cell M6.out.z0) 0
            have hz1 := (blk_cell M6.out.z0) 1
            have hf0 := free_of M6.out.z0 0
            have hf1 := free_of M6.out.z0 1
            have hc0 := (blk_cell M6.out.c0) 0
            have hc1 := (blk_cell M6.out.c0) 1
            clear ho hok hbZ q5
            go_wp2
            refine bodyPost_ret (v := .tuple #[.agg #[.slice A2 i c2, .slice A1 m.length c1], .bool false]) (by simp [results, Try.results26, go_sem, hz0, hz1]) rfl ?_
            exact ⟨_, _, _, rfl, (fun h => by cases h), (M6.out.b.setCell (p := ⟨w.heap.size + 1, 0, none⟩) (by show _ ≤ w.heap.size + 1; omega) _).setCell (p := ⟨w.heap.size + 1, 1, none⟩) (by show _ ≤ w.heap.size + 1; omega) _⟩
        · have e1 : decide (i < p.length) = false := decide_eq_false cl
          have hi : i = p.length := by have := HJ.out; omega
          subst hi
          have ho : okReq p m = true := by
            have := HOK.out
            rw [List.take_length] at this
            unfold okReq
            rw [this, Bool.and_true, decide_eq_true HQ.out, decide_eq_true HQ1.out]
            rfl
          obtain rfl : R = true := HR.out.symm.trans ho
          have hz0 := (blk_cell M1.out.z0) 0
          have hz1 := (blk_cell M1.out.z0) 1
          have hf0 := free_of M1.out.z0 0
          have hf1 := free_of M1.out.z0 1
          have hc0 := (blk_cell M1.out.c0) 0
          have hc1 := (blk_cell M1.out.c0) 1
          clear ho
          go_wp2
          refine bodyPost_ret (v := .tuple #[.agg #[.slice A2 p.length c2, .slice A1 m.length c1], .bool true]) (by simp [results, Try.results26, go_sem, hz0, hz1]) rfl ?_
          have hfin : kNdR.R 149 ((wr.setCell ⟨w.heap.size + 1, 0, none⟩ (.slice A2 p.length c2)).setCell ⟨w.heap.size + 1, 1, none⟩ (.slice A1 m.length c1)) w.heap.size (fun _ => True) (.slice A2 p.length c2) p := by
            have h1 := Kd.R_set O1.out M1.out.z0 (by decide) 0 (.slice A2 p.length c2)
            have h2 := Kd.R_set h1 (box_set (o := 0) M1.out.z0 (.slice A2 p.length c2)) (by decide) 1 (.slice A1 m.length c1)
            rwa [List.take_length] at h2
          exact ⟨_, _, _, rfl, (by first | exact hfin | exact fun _ => hfin), (M1.out.b.setCell (p := ⟨w.heap.size + 1, 0, none⟩) (by show _ ≤ w.heap.size + 1; omega) _).setCell (p := ⟨w.heap.size + 1, 1, none⟩) (by show _ ≤ w.heap.size + 1; omega) _⟩
    · have d1 : decide (100 < (m.length : Int)) = true := decide_eq_true (by omega)
      have ho : okReq p m = false := by unfold okReq; rw [decide_eq_false q1, Bool.and_false, Bool.false_and]
      obtain rfl : R = false := HR.out.symm.trans ho
      have hz0 := (blk_cell M0.out.z0) 0
      have hz1 := (blk_cell M0.out.z0) 1
      have hf0 := free_of M0.out.z0 0
      have hf1 := free_of M0.out.z0 1
      have hc0 := (blk_cell M0.out.c0) 0
      have hc1 := (blk_cell M0.out.c0) 1
      clear ho
      go_enter Try.func26, Try.ntmps26
      go_wp2
      refine bodyPost_ret (v := .tuple #[.agg #[.slice none 0 0, .slice A1 m.length c1], .bool false]) (by simp [results, Try.results26, go_sem, hz0, hz1]) rfl ?_
      exact ⟨_, _, _, rfl, (fun h => by cases h), below_alloc (below_alloc (below_alloc (Below.refl _ _) _) _) _⟩
  · have d : decide (40 < (p.length : Int)) = true := decide_eq_true (by omega)
    have ho : okReq p m = false := by unfold okReq; rw [decide_eq_false q, Bool.false_and, Bool.false_and]
    obtain rfl : R = false := HR.out.symm.trans ho
    have hz0 := (blk_cell M0.out.z0) 0
    have hz1 := (blk_cell M0.out.z0) 1
    have hf0 := free_of M0.out.z0 0
    have hf1 := free_of M0.out.z0 1
    have hc0 := (blk_cell M0.out.c0) 0
    have hc1 := (blk_cell M0.out.c0) 1
    clear ho
    go_enter Try.func26, Try.ntmps26
    go_wp2
    refine bodyPost_ret (v := .tuple #[.agg #[.slice none 0 0, .slice A1 m.length c1], .bool false]) (by simp [results, Try.results26, go_sem, hz0, hz1]) rfl ?_
    exact ⟨_, _, _, rfl, (fun h => by cases h), below_alloc (below_alloc (below_alloc (Below.refl _ _) _) _) _⟩
end Go.Proofs.Ythefbeekcjchcaa.P
