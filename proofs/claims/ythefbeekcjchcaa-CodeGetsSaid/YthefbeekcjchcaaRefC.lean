/- The document's reader: releases, catalogues; what they give is not told. -/
import Derived.Test.YthefbeekcjchcaaRefG
import Derived.Deep.RegionLaw
namespace Go.Proofs.Ythefbeekcjchcaa.P
open Go Go.RowKit Go.Proofs.YthefbeekcjchcaaW.PrintWords Go.Proofs.YthefbeekcjchcaaW.PrintLast Go.Proofs.YthefbeekcjchcaaW.PrintMore
set_option linter.unusedVariables false
set_option linter.unusedSimpArgs false
def VRl (v : Value) (_ : Rel) (_ : World) : Prop := ∃ a b c s l A n k, v = .agg #[.int .i64 a, .int .i64 b, .int .i64 c, .string s, .int .i64 l, .slice A n k]
theorem info_n12 : (Try.prog.info? 137).map (fun i => (i.zero, i.size, i.bytes)) = some (some (.agg #[.int .i64 0, .slice none 0 0]), 2, 32) := by kernel_rfl
/-- A literal of one element, of whose cells nothing is told. -/
theorem lit_any (W : World) (cs : List Value) (T n : Nat) (hn : cs.length = n) (h1 : ∀ u ∈ cs, u.oneCell' = true) (h0 : 0 < n) : ReadsRow (fun (_ : Unit) (cs : List Value) => cs.length = n ∧ ∀ u ∈ cs, u.oneCell' = true) n (W.alloc (.cells cs.toArray T)) (some ⟨W.heap.size, 0, none⟩) 1 [()] := by
  refine ⟨rfl, by decide, fun _ => ⟨_, rfl, fun j p hj => ?_⟩⟩
  match j, hj with
  | 0, hj =>
    cases hj
    refine ⟨cs, hn, ⟨hn, h1⟩, fun i u hu => ?_⟩
    have := (blk_cell (heap_last W (.cells cs.toArray T))) i
    rw [List.getElem?_toArray, hu] at this
    rcases i with _ | i <;> simpa [Addr.add] using this
set_option maxHeartbeats 8000000 in
set_option maxRecDepth 20000 in
theorem R_release_Q (g : Nat) (B : List Int) (hB0 : Bytes B ∧ B.length ≤ 1000000000) (st : St) (w0 w : World) (hI : RQ w0 w g B st) (hB : Below w0.heap.size w0 w) :
    Calls Try.prog 85 #[.pointer (some ⟨g, 0, none⟩)] w (RTell rRel VRl w0 w g B st) := by
  have HBB := Aside0.mk hB0
  have R0 := Aside0.mk (RS.start hI hB #[.int .i64 0, .int .i64 0, .int .i64 0, .string ⟨#[]⟩, .int .i64 0, .slice none 0 0] 125)
  have K := Aside0.mk (R_version_Q g B hB0 st w0 _ R0.out.q R0.out.b)
  clear hB0 hI hB
  go_enter Try.func85, Try.ntmps85
  go_wp2_with (fail)
  refine K.out.mono ?_
  rintro e w1 ⟨v, ⟨a, b, c, s⟩, st1, rfl, hv, hs, hi, hb, hk⟩
  have hv' : v = .agg #[.int .i64 a, .int .i64 b, .int .i64 c, .string s] := hv
  subst hv'
  have R1a := R0.out.next hi hb hk
  have hq0 := (blk_cell R1a.c0) 0
  have hq1 := (blk_cell R1a.c0) 1
  have hq2 := (blk_cell R1a.c0) 2
  have hq3 := (blk_cell R1a.c0) 3
  have hf0 := free_of R1a.c0 0
  have hf1 := free_of R1a.c0 1
  have hf2 := free_of R1a.c0 2
  have hf3 := free_of R1a.c0 3
  have R1 := Aside0.mk (show RS w0 w g B 125 #[.int .i64 0, .int .i64 0, .int .i64 0, .string ⟨#[]⟩, .int .i64 0, .slice none 0 0] #[.int .i64 a, .int .i64 b, .int .i64 c, .string s, .int .i64 0, .slice none 0 0] st1 _ from (((R1a.set 0 (.int .i64 a)).set 1 (.int .i64 b)).set 2 (.int .i64 c)).set 3 (.string s))
  have HS1 := Aside0.mk hs
  have K1 := Aside0.mk (R_num_Q g B HBB.out st1 w0 _ R1.out.q R1.out.b)
  clear hv hs hi hb hk K R0 R1a
  go_wp2_with (fail)
  refine K1.out.mono ?_
  rintro e w2 ⟨v, l, st2, rfl, hv, hs, hi, hb, hk⟩
  have hv' : v = .int .i64 l := hv
  subst hv'
  have R2a := R1.out.next hi hb hk
  clear hq0 hq1 hq2 hq3 hf0 hf1 hf2 hf3
  have hq4 := (blk_cell R2a.c0) 4
  have hf4 := free_of R2a.c0 4
  have R2 := Aside0.mk (show RS w0 w g B 125 #[.int .i64 0, .int .i64 0, .int .i64 0, .string ⟨#[]⟩, .int .i64 0, .slice none 0 0] #[.int .i64 a, .int .i64 b, .int .i64 c, .string s, .int .i64 l, .slice none 0 0] st2 _ from R2a.set 4 (.int .i64 l))
  have HS2 := Aside0.mk hs
  have K2 := Aside0.mk (R_size_Q g B HBB.out st2 w0 _ R2.out.q R2.out.b)
  clear hv hs hi hb hk K1 R1 R2a
  go_wp2_with (fail)
  refine K2.out.mono ?_
  rintro e w3 ⟨m, st3, rfl, hm, hs, hi, hb, hk⟩
  have R3 := Aside0.mk (R2.out.next hi hb hk)
  have HS3 := Aside0.mk hs
  have HM := Aside0.mk hm
  clear hm hs hi hb hk K2 R2 hq4 hf4
  go_wp2
  go_loopg [5, 6] m (fun kq v5 v6 w' => ∃ (i : Nat) (xs : List Nd) (out : List Unit) (s1 : St) (A : Option Addr) (c1 : Nat), v5 = .int .i64 (i : Int) ∧ Aside0 (i + kq = m) ∧ Aside0 (out.length = i) ∧ Aside0 (Goes rNd m st3 kq xs s1) ∧ Aside0 ((kAny 2).R 137 w' w.heap.size (fun k => k ≠ g) (.slice A out.length c1) out) ∧ Aside0 (RS w0 w g B 125 #[.int .i64 0, .int .i64 0, .int .i64 0, .string ⟨#[]⟩, .int .i64 0, .slice none 0 0] #[.int .i64 a, .int .i64 b, .int .i64 c, .string s, .int .i64 l, .slice A out.length c1] s1 w'))
  case atStart => exact ⟨0, [], [], st3, none, 0, rfl, ⟨by omega⟩, ⟨rfl⟩, ⟨Goes.start _ _ _⟩, ⟨Kd.R_nil _ _ _ _ _⟩, R3⟩
  case round =>
    clear R3
    obtain ⟨i, xs, out, s1, A, c1, rfl, HJ, HOL, HGO, O1, R1⟩ := hrel
    obtain ⟨ee, hc1, hee⟩ := R1.out.q.ecell
    have HEE := Aside0.mk hee
    clear hee
    by_cases hgo : 0 < gk ∧ ee = 0
    · obtain ⟨hgk, he⟩ := hgo
      have e1 : decide (i < m) = true := decide_eq_true (by have := HJ.out; omega)
      have HE5 : Aside0 (wrap64 ((i : Int) + 1) = ((i + 1 : Nat) : Int)) := ⟨by have := HJ.out; have := HM.out; unfold wrap64; omega⟩
      have h0 : (ee == 0) = true := beq_iff_eq.2 he
      obtain ⟨gn, hgn⟩ : ∃ gn, gk = gn + 1 := ⟨gk - 1, by omega⟩
      have HGN := Aside0.mk hgn
      have hG := HGO.out
      rw [hgn] at hG
      have HG1 := Aside0.mk hG
      have K := Aside0.mk (R_num_Q g B HBB.out _ w0 wr R1.out.q R1.out.b)
      clear he hgk hgn hG
      go_wp2_with (fail)
      refine K.out.mono ?_
      rintro e w4 ⟨v, x, s2, rfl, hv, hs, hi, hb, hk⟩
      have hv' : v = .int .i64 x := hv
      subst hv'
      have R4 := Aside0.mk ((R1.out.next hi hb hk).below (below_drew (Below.refl w4.heap.size w4)))
      have O4 := Aside0.mk (Kd.R_below (R_only O1.out hk) (below_drew (Below.refl w4.heap.size w4)))
      have HS4 := Aside0.mk hs
      have hq4 : w4.drew.cell? ⟨w.heap.size + 1, 5, none⟩ = some (.slice A out.length c1) := (blk_cell R4.out.c0) 5
      have K' := Aside0.mk (R_ranged_Q g B HBB.out s2 w0 w4.drew R4.out.q R4.out.b)
      clear K hs hi hb hk hv hc1
      go_wp2
      go_region_law (first
        | (go_simp; go_at_call 72; go_must (refine K'.out.mono ?_; rintro e w5 ⟨v, y, s3, rfl, ⟨Ar, nr, cr, rfl⟩, hs, hi, hb, hk⟩; have R5 := Aside0.mk (R4.out.next hi hb hk); have hb7 := below_alloc (Below.refl w5.heap.size w5) (Obj.cells #[.int .i64 x, .slice Ar nr cr] 137); have R7 := Aside0.mk (R5.out.below hb7); have O7 := Aside0.mk (Kd.R_below (R_only O4.out hk) hb7); have HS5 := Aside0.mk hs; have HL7 := Aside0.mk (lit_any w5 [.int .i64 x, .slice Ar nr cr] 137 2 rfl (by simp [Value.oneCell']) (by decide)); have hq5 := (blk_cell R5.out.c0) 5; have hq7 := (blk_cell R7.out.c0) 5; clear K' hs hi hb hk hb7))
        | (refine Kd.R_append_rows_step (kAny 2) (w0 := w5.alloc (.cells #[.int .i64 x, .slice Ar nr cr] 137)) w.heap.size (by simp [Region.wanted]) (.tmp 30) (.tmp 35) 123 137 (.agg #[.int .i64 0, .slice none 0 0]) 32 rfl Try.underlying123 info_n12 rfl (by decide) (by decide) (.slice A out.length c1) out [()] (some ⟨w5.heap.size, 0, none⟩) 1 1 (fun k => k ≠ g) (fun k => k ≠ g ∧ some k ≠ (Value.slice A out.length c1).ownBlock) (by simp [Act.eval, Act.put]) (by simp [Act.eval, Act.put]) O7.out HL7.out (fun p cs h => h) (fun k hk => hk) (fun k hk => by have := R7.out.q.lt; omega) (Below.refl _ _) R7.out.o.1 (by have := HOL.out; have := HJ.out; have := HM.out; omega) ?_; intro v44 w8 ho hb hgr hat; obtain ⟨A8, c8, rfl⟩ := Kd.R_slice ho; have O8 := Aside0.mk ho; have R8 := Aside0.mk (R7.out.grow hb hgr (Kd.R_ne O7.out R7.out.z0 (by decide)) (Kd.R_ne O7.out R7.out.c0 (by decide))); have hq8 := (blk_cell R8.out.c0) 5; have hf8 := free_of R8.out.c0 5; clear ho hb hgr hat))
      all_goals
        go_wp2
        go_roundg gn
        case measure => have := HGN.out; omega
        case rel =>
          refine ⟨i + 1, xs ++ [(x, y)], out ++ [()], s3, A8, c8, (by first | exact congrArg _ HE5.out | rfl), ⟨by have := HJ.out; have := HGN.out; omega⟩, ⟨by simp [HOL.out]⟩, ⟨HG1.out.next (Step.bind HS4.out (Step.map (f := fun b => (x, b)) HS5.out))⟩, ⟨Kd.R_set O8.out R8.out.c0 (by simp [kAny]) 5 (.slice A8 (out.length + 1) c8)⟩, ⟨by rw [len_snoc]; exact R8.out.set 5 (.slice A8 (out.length + 1) c8)⟩⟩
    · obtain ⟨hT, hex⟩ := goes_out HGO.out HJ.out HEE.out hgo
      have HT := Aside0.mk hT
      have hz0 := (blk_cell R1.out.z0) 0
      have hg0 := free_of R1.out.z0 0
      have hy0 := (blk_cell R1.out.c0) 0
      have hz1 := (blk_cell R1.out.z0) 1
      have hg1 := free_of R1.out.z0 1
      have hy1 := (blk_cell R1.out.c0) 1
      have hz2 := (blk_cell R1.out.z0) 2
      have hg2 := free_of R1.out.z0 2
      have hy2 := (blk_cell R1.out.c0) 2
      have hz3 := (blk_cell R1.out.z0) 3
      have hg3 := free_of R1.out.z0 3
      have hy3 := (blk_cell R1.out.c0) 3
      have hz4 := (blk_cell R1.out.z0) 4
      have hg4 := free_of R1.out.z0 4
      have hy4 := (blk_cell R1.out.c0) 4
      have hz5 := (blk_cell R1.out.z0) 5
      have hg5 := free_of R1.out.z0 5
      have hy5 := (blk_cell R1.out.c0) 5
      clear hT hgo HEE HGO
      rcases hex with e1 | ⟨e1, h0⟩
      all_goals
        go_wp2
        refine bodyPost_ret (v := .agg #[.int .i64 a, .int .i64 b, .int .i64 c, .string s, .int .i64 l, .slice A out.length c1]) (by simp [results, Try.results85, go_sem, hz0, hz1, hz2, hz3, hz4, hz5]) rfl ?_
        obtain ⟨y, t⟩ := HT.out
        exact ⟨_, ((a, b, c, s), l, y), s1, rfl, ⟨_, _, _, _, _, _, _, _, rfl⟩, Step.bind HS1.out (Step.map (f := fun y => ((a, b, c, s), y)) (Step.bind HS2.out (Step.map (f := fun y => (l, y)) (Step.list HS3.out t)))), R1.out.q.turned (b := w.heap.size) (by have := R1.out.lt; omega) (fun k hk => far6 _ hk _ _ _ _ _ _), (((((R1.out.b.setCell (p := ⟨w.heap.size, 0, none⟩) R1.out.le _).setCell (p := ⟨w.heap.size, 1, none⟩) R1.out.le _).setCell (p := ⟨w.heap.size, 2, none⟩) R1.out.le _).setCell (p := ⟨w.heap.size, 3, none⟩) R1.out.le _).setCell (p := ⟨w.heap.size, 4, none⟩) R1.out.le _).setCell (p := ⟨w.heap.size, 5, none⟩) R1.out.le _, R1.out.o.turned (b := w.heap.size) (Nat.le_refl _) (by simp) (fun k hk => far6 _ hk _ _ _ _ _ _)⟩
theorem info_r12 : (Try.prog.info? 125).map (fun i => (i.zero, i.size, i.bytes)) = some (some (.agg #[.int .i64 0, .int .i64 0, .int .i64 0, .string ⟨#[]⟩, .int .i64 0, .slice none 0 0]), 6, 72) := by kernel_rfl
theorem info_s12 : (Try.prog.info? 116).map (fun i => (i.zero, i.size, i.bytes)) = some (some (.agg #[.string ⟨#[]⟩, .slice none 0 0]), 2, 40) := by kernel_rfl
set_option maxHeartbeats 8000000 in
set_option maxRecDepth 20000 in
theorem R_Catalog_Q (g : Nat) (B : List Int) (hB0 : Bytes B ∧ B.length ≤ 1000000000) (st : St) (w0 w : World) (hI : RQ w0 w g B st) (hB : Below w0.heap.size w0 w) :
    Calls Try.prog 33 #[.pointer (some ⟨g, 0, none⟩)] w (RTell rCat (fun _ _ _ => True) w0 w g B st) := by
  have HBB := Aside0.mk hB0
  have R0 := Aside0.mk (RS.start hI hB #[.slice none 0 0] 64)
  have K := Aside0.mk (R_size_Q g B hB0 st w0 _ R0.out.q R0.out.b)
  clear hB0 hI hB
  go_enter Try.func33, Try.ntmps33
  go_wp2_with (fail)
  refine K.out.mono ?_
  rintro e w1 ⟨m, st1, rfl, hm, hs, hi, hb, hk⟩
  have R1 := Aside0.mk (R0.out.next hi hb hk)
  have HS1 := Aside0.mk hs
  have HM := Aside0.mk hm
  clear hm hs hi hb hk K R0
  go_wp2
  go_loopg [5, 6, 7, 8] m (fun kq v5 v6 v7 v8 w' => ∃ (i : Nat) (xs : List Svc) (out : List Unit) (s : St) (A : Option Addr) (c : Nat), v5 = .int .i64 (i : Int) ∧ Aside0 (i + kq = m) ∧ Aside0 (out.length = i) ∧ Aside0 (Goes rSvc m st1 kq xs s) ∧ Aside0 ((kAny 2).R 116 w' w.heap.size (fun k => k ≠ g) (.slice A out.length c) out) ∧ Aside0 (RS w0 w g B 64 #[.slice none 0 0] #[.slice A out.length c] s w'))
  case atStart => exact ⟨0, [], [], st1, none, 0, rfl, ⟨by omega⟩, ⟨rfl⟩, ⟨Goes.start _ _ _⟩, ⟨Kd.R_nil _ _ _ _ _⟩, R1⟩
  case round =>
    clear R1
    obtain ⟨i, xs, out, s1, A, c1, rfl, HJ, HOL, HGO, O1, R1⟩ := hrel
    obtain ⟨ee, hc1, hee⟩ := R1.out.q.ecell
    have HEE := Aside0.mk hee
    clear hee
    by_cases hgo : 0 < gk ∧ ee = 0
    · obtain ⟨hgk, he⟩ := hgo
      have e1 : decide (i < m) = true := decide_eq_true (by have := HJ.out; omega)
      have HE5 : Aside0 (wrap64 ((i : Int) + 1) = ((i + 1 : Nat) : Int)) := ⟨by have := HJ.out; have := HM.out; unfold wrap64; omega⟩
      have h0 : (ee == 0) = true := beq_iff_eq.2 he
      obtain ⟨gn, hgn⟩ : ∃ gn, gk = gn + 1 := ⟨gk - 1, by omega⟩
      have HGN1 := Aside0.mk hgn
      have hG := HGO.out
      rw [hgn] at hG
      have HG1 := Aside0.mk hG
      obtain ⟨Z2, hZ2⟩ : ∃ o, o = Obj.cells #[.string ⟨#[]⟩, .slice none 0 0] 116 := ⟨_, rfl⟩
      have hbx := below_alloc (Below.refl wr.heap.size wr) Z2
      have R1a := Aside0.mk (R1.out.below hbx)
      have O1a := Aside0.mk (Kd.R_below O1.out hbx)
      have HQ := heap_last wr Z2
      obtain ⟨bs, hbs⟩ : ∃ bs, wr.heap.size = bs := ⟨_, rfl⟩
      have HBS : Aside0 (w.heap.size + 2 ≤ bs) := ⟨by rw [← hbs]; exact R1.out.size⟩
      have HGL : Aside0 (g < w.heap.size) := ⟨R1.out.lt⟩
      have HFR : Aside0 (some bs ≠ (Value.slice A out.length c1).ownBlock) := ⟨by rw [← hbs]; exact Kd.R_fresh O1.out⟩
      rw [hbs] at HQ
      have K := Aside0.mk (R_text_Q g B HBB.out _ w0 (wr.alloc Z2) R1a.out.q R1a.out.b)
      subst hZ2
      have HQ := Aside0.mk HQ
      clear he hgk hgn hG hbx R1 O1
      go_wp2_with (fail)
      refine K.out.mono ?_
      rintro e w2 ⟨v, nm, st2, rfl, hv, hs, hi, hb, hk⟩
      have hv' : v = .string nm := hv
      subst hv'
      have HQ2 := Aside0.mk ((hk.2 bs (blk_lt HQ.out) (by have := HGL.out; have := HBS.out; omega)).trans HQ.out)
      have R2 := Aside0.mk ((R1a.out.next hi hb hk).far (b := bs) HBS.out 0 (.string nm))
      have O2 := Aside0.mk (Kd.R_mono (Kd.R_far (p := ⟨bs, 0, none⟩) (Kd.R_far1 (R_only O1a.out hk) rfl HFR.out) (fun _ h => h.2) (.string nm)) (fun _ h => h.1))
      have HS2 := Aside0.mk hs
      have hq0 := (blk_cell HQ2.out) 0
      have hf0 := free_of HQ2.out 0
      have HQ3 := Aside0.mk (box_set (o := 0) HQ2.out (.string nm))
      have K := Aside0.mk (R_size_Q g B HBB.out st2 w0 _ R2.out.q R2.out.b)
      clear hs hi hb hk hv HQ HQ2 R1a O1a hc1 e1 h0
      go_wp2_with (fail)
      refine K.out.mono ?_
      rintro e w3 ⟨m2, st3, rfl, hm, hs, hi, hb, hk⟩
      have R3 := Aside0.mk (R2.out.next hi hb hk)
      have O3 := Aside0.mk (R_only O2.out hk)
      have HQ4 := Aside0.mk ((hk.2 bs (blk_lt HQ3.out) (by have := HGL.out; have := HBS.out; omega)).trans HQ3.out)
      have HS3 := Aside0.mk hs
      have HM2 := Aside0.mk hm
      clear hm hs hi hb hk K R2 O2 HQ3 hq0 hf0
      obtain ⟨wo, hwo⟩ : ∃ wo : World, wo = wr := ⟨_, rfl⟩
      clear hwo hbs
      go_wp2
      go_loopg [8] m2 (fun kq v8 w' => ∃ (k : Nat) (xs2 : List Rel) (ys : List Unit) (s : St) (A2 : Option Addr) (c2 : Nat), v8 = .int .i64 (k : Int) ∧ Aside0 (k + kq = m2) ∧ Aside0 (ys.length = k) ∧ Aside0 (Goes rRel m2 st3 kq xs2 s) ∧ Aside0 ((kAny 6).R 125 w' w.heap.size (fun k => k ≠ g) (.slice A2 ys.length c2) ys) ∧ Aside0 ((kAny 2).R 116 w' w.heap.size (fun k => k ≠ g) (.slice A out.length c1) out) ∧ Aside0 (w'.heap[bs]? = some (.cells #[.string nm, .slice A2 ys.length c2] 116)) ∧ Aside0 (RS w0 w g B 64 #[.slice none 0 0] #[.slice A out.length c1] s w'))
      case atStart => exact ⟨0, [], [], st3, none, 0, rfl, ⟨by omega⟩, ⟨rfl⟩, ⟨Goes.start _ _ _⟩, ⟨Kd.R_nil _ _ _ _ _⟩, O3, HQ4, R3⟩
      case round =>
        clear O3 R3 HQ4
        obtain ⟨k, xs2, ys, s2, A2, c2, rfl, HJ2, HYL, HGO2, A3, O3, HQ, R3⟩ := hrel
        obtain ⟨ee2, hc1, hee⟩ := R3.out.q.ecell
        have HEE2 := Aside0.mk hee
        clear hee
        by_cases hgo2 : 0 < gk ∧ ee2 = 0
        · obtain ⟨hgk, he⟩ := hgo2
          have e1 : decide (k < m2) = true := decide_eq_true (by have := HJ2.out; omega)
          have HE52 : Aside0 (wrap64 ((k : Int) + 1) = ((k + 1 : Nat) : Int)) := ⟨by have := HJ2.out; have := HM2.out; unfold wrap64; omega⟩
          have h0 : (ee2 == 0) = true := beq_iff_eq.2 he
          obtain ⟨gn2, hgn⟩ : ∃ gn, gk = gn + 1 := ⟨gk - 1, by omega⟩
          have HGN2 := Aside0.mk hgn
          have hG := HGO2.out
          rw [hgn] at hG
          have HG2 := Aside0.mk hG
          have hd4 := below_drew (Below.refl wr.heap.size wr)
          have R4 := Aside0.mk (R3.out.below hd4)
          have O4 := Aside0.mk (Kd.R_below O3.out hd4)
          have A4 := Aside0.mk (Kd.R_below A3.out hd4)
          have HQ4 : Aside0 (wr.drew.heap[bs]? = some (.cells #[.string nm, .slice A2 ys.length c2] 116)) := ⟨HQ.out⟩
          have hq4 : wr.drew.cell? ⟨bs, 1, none⟩ = some (.slice A2 ys.length c2) := (blk_cell HQ4.out) 1
          have K' := Aside0.mk (R_release_Q g B HBB.out _ w0 wr.drew R4.out.q R4.out.b)
          clear he hgk hgn hG hd4
          go_wp2
          go_region_law (first
            | (go_simp; go_at_call 85; go_must (refine K'.out.mono ?_; rintro e w5 ⟨v, y, s3, rfl, ⟨a, b, c, sx, l, Ar, nr, cr, rfl⟩, hs, hi, hb, hk⟩; have R5 := Aside0.mk (R4.out.next hi hb hk); have HQ5 := Aside0.mk ((hk.2 bs (blk_lt HQ4.out) (by have := HGL.out; have := HBS.out; omega)).trans HQ4.out); have hb7 := below_alloc (Below.refl w5.heap.size w5) (Obj.cells #[.int .i64 a, .int .i64 b, .int .i64 c, .string sx, .int .i64 l, .slice Ar nr cr] 125); have R7 := Aside0.mk (R5.out.below hb7); have O7 := Aside0.mk (Kd.R_below (R_only O4.out hk) hb7); have A7 := Aside0.mk (Kd.R_below (R_only A4.out hk) hb7); have HQ7 := Aside0.mk ((hb7.block _ (blk_lt HQ5.out)).trans HQ5.out); have HS5 := Aside0.mk hs; have HL7 := Aside0.mk (lit_any w5 [.int .i64 a, .int .i64 b, .int .i64 c, .string sx, .int .i64 l, .slice Ar nr cr] 125 6 rfl (by simp [Value.oneCell']) (by decide)); have hq5 := (blk_cell HQ5.out) 1; have hq7 := (blk_cell HQ7.out) 1; clear K' hs hi hb hk hb7))
            | (refine Kd.R_append_rows_step (kAny 6) (w0 := w5.alloc (.cells #[.int .i64 a, .int .i64 b, .int .i64 c, .string sx, .int .i64 l, .slice Ar nr cr] 125)) w.heap.size (by simp [Region.wanted]) (.tmp 41) (.tmp 44) 114 125 (.agg #[.int .i64 0, .int .i64 0, .int .i64 0, .string ⟨#[]⟩, .int .i64 0, .slice none 0 0]) 72 rfl Try.underlying114 info_r12 rfl (by decide) (by decide) (.slice A2 ys.length c2) ys [()] (some ⟨w5.heap.size, 0, none⟩) 1 1 (fun k => k ≠ g) (fun k => k ≠ g ∧ some k ≠ (Value.slice A2 ys.length c2).ownBlock) (by simp [Act.eval, Act.put]) (by simp [Act.eval, Act.put]) A7.out HL7.out (fun p cs h => h) (fun k hk => hk) (fun k hk => by have := R7.out.q.lt; omega) (Below.refl _ _) R7.out.o.1 (by have := HYL.out; have := HJ2.out; have := HM2.out; omega) ?_; intro v44 w8 ho hb hgr hat; obtain ⟨A8, c8, rfl⟩ := Kd.R_slice ho; have A9 := Aside0.mk ho; have O8 := Aside0.mk (Kd.R_over O7.out A7.out (by simp [kAny]) hgr); have HQ8 := Aside0.mk ((hgr.block _ (blk_lt HQ7.out) (Kd.R_ne A7.out HQ7.out (by decide))).trans HQ7.out); have R8 := Aside0.mk (R7.out.grow hb hgr (Kd.R_ne A7.out R7.out.z0 (by decide)) (Kd.R_ne A7.out R7.out.c0 (by decide))); have hq8 := (blk_cell HQ8.out) 1; have hf8 := free_of HQ8.out 1; clear ho hb hgr hat))
          all_goals
            go_wp2
            go_roundg gn2
            case measure => have := HGN2.out; omega
            case rel =>
              refine ⟨k + 1, xs2 ++ [y], ys ++ [()], s3, A8, c8, (by first | exact congrArg _ HE52.out | rfl), ⟨by have := HJ2.out; have := HGN2.out; omega⟩, ⟨by simp [HYL.out]⟩, ⟨HG2.out.next HS5.out⟩, ⟨Kd.R_set A9.out HQ8.out (by simp [kAny]) 1 (.slice A8 (ys.length + 1) c8)⟩, ⟨Kd.R_mono (Kd.R_far (p := ⟨bs, 1, none⟩) (Kd.R_far1 O8.out rfl HFR.out) (fun _ h => h.2) (.slice A8 (ys.length + 1) c8)) (fun _ h => h.1)⟩, ⟨by rw [len_snoc]; exact box_set (o := 1) HQ8.out (.slice A8 (ys.length + 1) c8)⟩, ⟨R8.out.far (b := bs) HBS.out 1 (.slice A8 (ys.length + 1) c8)⟩⟩
        · obtain ⟨hT2, hex2⟩ := goes_out HGO2.out HJ2.out HEE2.out hgo2
          have HT2 := Aside0.mk hT2
          have hq := (blk_cell R3.out.c0) 0
          have hf := free_of R3.out.c0 0
          have hp0 := (blk_cell HQ.out) 0
          have hp1 := (blk_cell HQ.out) 1
          clear hT2 hgo2 HEE2 HGO2
          rcases hex2 with e1 | ⟨e1, h0⟩
          all_goals
            go_wp2_with (first
              | ((with_reducible refine gate_dst (N := 50) rfl ?_); go_must (refine Kd.R_lit (kAny 2) (w0 := wr) w.heap.size 116 ?hg (N := 50) ?hd (xs := [()]) (inner := [.string nm, .slice A2 ys.length c2]) (ok := fun k => k ≠ g ∧ some k ≠ (Value.slice A out.length c1).ownBlock) (okp := fun k => k ≠ g ∧ some k ≠ (Value.slice A out.length c1).ownBlock) ?hr ?hp (fun _ hk => hk) ⟨by have := R3.out.q.lt; omega, Kd.R_fresh O3.out⟩ (Below.refl _ _) R3.out.o.1 (by simp) ?_; (case hd => rfl); (case hg => rfl); (case hr => first | (go_simp; done) | (go_simp; rfl)); (case hp => exact reps1 ⟨rfl, by simp [Value.oneCell']⟩ rfl); intro v43 w7 ho hb hg_ hnew_; obtain ⟨A43, c43, rfl, hcl43, hC43⟩ := OwnRow.reads ho.2; have HC43 := Aside0.mk hC43; have O5 := Aside0.mk (Kd.R_grown O3.out hg_ (fun _ _ => by simp)); have R5 := Aside0.mk (R3.out.grow hb hg_ (by simp) (by simp)); have hq5 := (blk_cell R5.out.c0) 0; clear ho hb hC43 hcl43 hg_ hnew_))
              | ((with_reducible refine gate_builtin (b := .append) (xs := #[.tmp 48, .tmp 50]) rfl ?_); at_builtin; go_must (refine Kd.R_append_rows (kAny 2) (w0 := w7) w.heap.size rfl (.tmp 48) (.tmp 50) 62 116 (.agg #[.string ⟨#[]⟩, .slice none 0 0]) 40 rfl Try.underlying62 info_s12 rfl (by decide) (by decide) (.slice A out.length c1) out [()] A43 1 c43 (fun k => k ≠ g) _ rfl rfl O5.out HC43.out (fun _ _ h => h) (fun k hk => ⟨hk.1.1, hk.1.2⟩) (fun k hk => by have := R5.out.q.lt; omega) (Below.refl _ _) R5.out.o.1 (by have := HOL.out; have := HJ.out; have := HM.out; omega) ?_; intro v44 w8 ho hb hgr hat; obtain ⟨A8, c8, rfl⟩ := Kd.R_slice ho; have O6 := Aside0.mk ho; have R6 := Aside0.mk (R5.out.grow hb hgr (Kd.R_ne O5.out R5.out.z0 (by decide)) (Kd.R_ne O5.out R5.out.c0 (by decide))); have hq8 := (blk_cell R6.out.c0) 0; have hf8 := free_of R6.out.c0 0; clear hq5 ho hb hgr hat)))
            go_roundg gn
            case measure => have := HGN1.out; omega
            case rel =>
              obtain ⟨ys2, t2⟩ := HT2.out
              refine ⟨i + 1, xs ++ [(nm, ys2)], out ++ [()], s2, A8, c8, (by first | exact congrArg _ HE5.out | rfl), ⟨by have := HJ.out; have := HGN1.out; omega⟩, ⟨by simp [HOL.out]⟩, ⟨HG1.out.next (Step.bind HS2.out (Step.map (f := fun y => (nm, y)) (Step.list HS3.out t2)))⟩, ⟨Kd.R_set O6.out R6.out.c0 (by simp [kAny]) 0 (.slice A8 (out.length + 1) c8)⟩, ⟨by rw [len_snoc]; exact R6.out.set 0 (.slice A8 (out.length + 1) c8)⟩⟩
    · obtain ⟨hT, hex⟩ := goes_out HGO.out HJ.out HEE.out hgo
      have HT := Aside0.mk hT
      have hz0 := (blk_cell R1.out.z0) 0
      have hg0 := free_of R1.out.z0 0
      have hy0 := (blk_cell R1.out.c0) 0
      clear hT hgo HEE HGO
      rcases hex with e1 | ⟨e1, h0⟩
      all_goals
        go_wp2
        refine bodyPost_ret (v := .agg #[.slice A out.length c1]) (by simp [results, Try.results33, go_sem, hz0]) rfl ?_
        obtain ⟨y, t⟩ := HT.out
        exact ⟨_, y, s1, rfl, trivial, Step.list HS1.out t, R1.out.q.far (by have := R1.out.lt; omega) _ _, R1.out.b.setCell (p := ⟨w.heap.size, 0, none⟩) R1.out.le _, R1.out.o.far (Nat.le_refl _) _ _⟩
end Go.Proofs.Ythefbeekcjchcaa.P
