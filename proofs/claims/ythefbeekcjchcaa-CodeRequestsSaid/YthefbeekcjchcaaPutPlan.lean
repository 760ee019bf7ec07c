import Derived.Test.YthefbeekcjchcaaOT
import Derived.Deep.RegionWith
namespace Go.Proofs.Ythefbeekcjchcaa.P
open Go Go.RowKit Go.Proofs.YthefbeekcjchcaaW.PrintWords Go.Proofs.YthefbeekcjchcaaW.PrintLast Go.Proofs.YthefbeekcjchcaaW.PrintMore
set_option linter.unusedVariables false
set_option linter.unusedSimpArgs false
theorem lits_R (W : World) (base : Nat) (hb : base ≤ W.heap.size) (xs : List Int) (h : xs.length ≤ 1000000000) : Kd.R (Kd.int .i64) 3 (W.alloc (.cells (xs.map (Value.int .i64)).toArray 3)) base (fun _ => True) (.slice (some ⟨W.heap.size, 0, none⟩) xs.length xs.length) xs := by
  have h2 := World.ownsRow_lit (base := base) (e := 3) (size := 1) W (xs.map (Value.int .i64)).toArray xs.length hb (by simp [maxLen]; omega) (by simp)
  exact Kd.R_of_own (h1 := fun _ => rfl) (by simpa [encs] using h2) (fun _ _ => trivial)
theorem BX.below {w w1 : World} {gb g : Nat} (h : BX w gb g) (hb : Below w.heap.size w w1) : BX w1 gb g := ⟨(hb.block gb (blk_lt h.1)).trans h.1, h.2⟩
set_option maxHeartbeats 4000000 in
set_option maxRecDepth 20000 in
theorem stp1_T (g gb : Nat) (ts : List Tok) (x : Stp) (w0 w : World) (hO : OT 94 w0 w g ts) (hX : BX w gb g) (hB : Below w0.heap.size w0 w) (hc : costT ts + costT (tStp x) ≤ 1000000000) :
    Calls Try.prog 44 #[.agg #[.int .i64 x.1, .int .i64 x.2], .pointer (some ⟨gb, 0, none⟩)] w (Wrote 94 w0 w g (ts ++ tStp x)) := by
  obtain ⟨a, b⟩ := x
  dsimp only
  have hbb := below_alloc (below_alloc (Below.refl w.heap.size w) (Obj.cells #[.int .i64 a, .int .i64 b] 51)) (Obj.cells #[.int .i64 a, .int .i64 b] 3)
  have hX1 := hX.below (below_alloc (Below.refl w.heap.size w) (Obj.cells #[.int .i64 a, .int .i64 b] 51))
  have hc0 := (blk_cell hX1.1) 0
  have hcost : costT (tStp (a, b)) = 12 := rfl
  have HK := Aside0.mk (Keeps.below (g := g) hbb)
  have HL := lits_R (w.alloc (.cells #[.int .i64 a, .int .i64 b] 51)) 0 (Nat.zero_le _) [a, b] (by simp)
  rw [World.size_alloc] at HL
  have K := Aside0.mk (out_num_T g ts 0 (.slice (some ⟨w.heap.size + 1, 0, none⟩) 2 2) [a, b] w0 _ (hO.below hbb) (below_alloc (below_alloc hB (Obj.cells #[.int .i64 a, .int .i64 b] 51)) (Obj.cells #[.int .i64 a, .int .i64 b] 3)) HL (by simp; omega))
  have hbx : (w.alloc (.cells #[.int .i64 a, .int .i64 b] 51)).heap[w.heap.size]? = some (.cells #[.int .i64 a, .int .i64 b] 51 (0, 0)) := by show (w.heap.push _)[w.heap.size]? = _; simp
  have hq0 := (blk_cell hbx) 0
  have hq1 := (blk_cell hbx) 1
  clear hO hB hX hc hbb hX1 hbx HL hcost
  go_enter Try.func44, Try.ntmps44
  go_wp2_with (fail)
  refine K.out.mono ?_
  rintro e w1 ⟨rfl, ho, hb, hk⟩
  have HO1 := Aside0.mk ho
  have HB1 := Aside0.mk hb
  have HK1 := Aside0.mk (HK.out.trans hk)
  clear ho hb hk K
  go_wp2
  go_end0
  exact ⟨rfl, HO1.out, HB1.out, HK1.out⟩
theorem costT_stp_ (l : List Stp) (i : Nat) (h : i < l.length) (z : Stp) : costT ((l.drop i).flatMap tStp) = costT (tStp (l.getD i z)) + costT ((l.drop (i + 1)).flatMap tStp) := by
  rw [List.drop_eq_getElem_cons h, List.flatMap_cons, costT_app, List.getD_eq_getElem?_getD, List.getElem?_eq_getElem h]
  rfl
theorem flat_stp_ (l : List Stp) (i : Nat) (h : i < l.length) (z : Stp) : (l.drop i).flatMap tStp = tStp (l.getD i z) ++ (l.drop (i + 1)).flatMap tStp := by
  rw [List.drop_eq_getElem_cons h, List.flatMap_cons, List.getD_eq_getElem?_getD, List.getElem?_eq_getElem h]
  rfl
set_option maxHeartbeats 4000000 in
set_option maxRecDepth 20000 in
theorem list_stp_T (g gb : Nat) (ts : List Tok) (A : Option Addr) (c : Nat) (l : List Stp) (w0 w : World) (hO : OT 94 w0 w g ts) (hX : BX w gb g) (hB : Below w0.heap.size w0 w) (hr : Kd.C (Kd.pair (Kd.int .i64) (Kd.int .i64)) w0 A l.length l) (hc : costT ts + costT (listT tStp l) ≤ 1000000000) (hl : l.length ≤ 1000000000) :
    Calls Try.prog 43 #[.pointer (some ⟨g, 0, none⟩), .slice A l.length c, .func (.func 44) #[] #[.pointer (some ⟨gb, 0, none⟩)]] w (Wrote 94 w0 w g (ts ++ listT tStp l)) := by
  have HR := Aside0.mk hr
  have HLEN := Aside0.mk hl
  have HX := Aside0.mk hX
  have hce : costT (listT tStp l) = 6 + costT (l.flatMap tStp) := costT_num _ _
  have K := Aside0.mk (out_num_T g ts w.heap.size _ [(l.length : Int)] w0 _ (hO.below (below_alloc (Below.refl w.heap.size w) (Obj.cells #[.int .i64 (l.length : Int)] 3))) (below_alloc hB _) (lit_R w w.heap.size (Nat.le_refl _) (l.length : Int)) (by simp; omega))
  have HK0 := Aside0.mk (Keeps.below (g := g) (below_alloc (Below.refl w.heap.size w) (Obj.cells #[.int .i64 (l.length : Int)] 3)))
  obtain ⟨us, hus⟩ : ∃ us, ts ++ listT tStp l = us := ⟨_, rfl⟩
  have HN0 : Aside0 (costT (ts ++ [.num (l.length : Int)]) + costT ((l.drop 0).flatMap tStp) ≤ 1000000000) := ⟨by rw [costT_app, costT_num, costT_nil, List.drop_zero]; omega⟩
  have HP : Aside0 ((ts ++ [.num (l.length : Int)]) ++ (l.drop 0).flatMap tStp = us) := ⟨by rw [← hus, List.drop_zero, listT, List.append_assoc]; rfl⟩
  rw [hus]
  simp only [List.map_cons, List.map_nil] at K
  generalize ts ++ [.num (l.length : Int)] = s0 at K HN0 HP
  clear hO hB hr hc hl hX hce hus
  go_enter Try.func43, Try.ntmps43
  go_wp2_with (fail)
  refine K.out.mono ?_
  rintro e w1 ⟨rfl, ho, hb, hk⟩
  have HO := Aside0.mk ho
  have HB := Aside0.mk hb
  have HKP := Aside0.mk (HK0.out.trans hk)
  clear ho hb hk K
  go_wp2
  go_loopg [7, 15] l.length (fun kq v7 v15 w' => ∃ (i : Nat) (s : List Tok), v15 = .int .i64 (i : Int) ∧ Aside0 (i + kq = l.length) ∧ Aside0 (costT s + costT ((l.drop i).flatMap tStp) ≤ 1000000000) ∧ Aside0 (s ++ (l.drop i).flatMap tStp = us) ∧ Aside0 (OT 94 w0 w' g s) ∧ Aside0 (Below w0.heap.size w0 w') ∧ Aside0 (Keeps w w' g))
  case atStart => exact ⟨0, s0, rfl, ⟨by omega⟩, HN0, HP, HO, HB, HKP⟩
  case round =>
    clear HO HB HP HN0 HKP
    obtain ⟨i, s, rfl, HI, HN, HP, HO, HB, HKP⟩ := hrel
    by_cases c1 : i < l.length
    · have e1 : decide (i < l.length) = true := decide_eq_true c1
      have e5 : wrap64 ((i : Int) + 1) = ((i + 1 : Nat) : Int) := by have := HLEN.out; unfold wrap64; omega
      obtain ⟨ad, cs, ea, hcl, hK, hcc⟩ := Kd.C_get HR.out (0, 0) (i : Int) (by omega) (by omega)
      cases ea
      rw [Int.toNat_natCast] at hK hcc
      have hN := HN.out
      have hP := HP.out
      rw [costT_stp_ l i c1 (0, 0)] at hN
      rw [flat_stp_ l i c1 (0, 0), ← List.append_assoc] at hP
      generalize l.getD i (0, 0) = x at hK hN hP
      obtain ⟨a, b⟩ := x
      obtain ⟨c0, c1, rfl, h0, h1⟩ := hK
      cases h0
      cases h1
      have hx0 : wr.cell? (ad.add (i * 2)) = some (.int .i64 a) := pw_cell_below HB.out (hcc 0 _ rfl)
      have hx1 : wr.cell? ⟨(ad.add (i * 2)).block, (ad.add (i * 2)).off + 1, none⟩ = some (.int .i64 b) := (by have := (show w0.cell? (ad.add (i * 2 + 1)) = some (.int .i64 b) from hcc 1 _ rfl); rw [show ad.add (i * 2 + 1) = (ad.add (i * 2)).add 1 from (Addr.add_add _ _ _).symm] at this; exact pw_cell_below HB.out this)
      have HN1 := Aside0.mk hN
      have HP1 := Aside0.mk hP
      have hbx := below_alloc (Below.refl wr.heap.size wr) (Obj.cells #[.int .i64 a, .int .i64 b] 51)
      have K := Aside0.mk (stp1_T g gb s (a, b) w0 _ (HO.out.below hbx) ((HX.out.keep HKP.out).below hbx) (below_alloc HB.out _)  (by have := HN1.out; omega))
      clear hN hP hcc
      go_wp2_with (fail)
      refine K.out.mono ?_
      rintro e w2 ⟨rfl, ho, hb, hk⟩
      have HO1 := Aside0.mk ho
      have HB1 := Aside0.mk hb
      have HK1 := Aside0.mk ((HKP.out.trans (Keeps.below hbx)).trans hk)
      clear ho hb hk K
      go_wp2
      go_roundg (gk - 1)
      case measure => have := HI.out; omega
      case rel => exact ⟨i + 1, s ++ tStp (a, b), congrArg _ e5, ⟨by have := HI.out; omega⟩, ⟨by have := HN1.out; rw [costT_app]; omega⟩, HP1, HO1, HB1, HK1⟩
    · have e1 : decide (i < l.length) = false := decide_eq_false c1
      have hP := HP.out
      rw [List.drop_eq_nil_of_le (by omega), List.flatMap_nil, List.append_nil] at hP
      subst hP
      go_wp2
      go_end0
      exact ⟨rfl, HO.out, HB.out, HKP.out⟩
theorem out_num_K (g : Nat) (ts : List Tok) (A : Option Addr) (c : Nat) (l : List Int) (w0 w : World) (hO : OT 94 w0 w g ts) (hB : Below w0.heap.size w0 w) (hr : ∀ w', Keeps w w' g → Kd.C (Kd.int .i64) w' A l.length l) (hc : costT ts + 6 * l.length ≤ 1000000000) :
    Calls Try.prog 45 #[.pointer (some ⟨g, 0, none⟩), .slice A l.length c] w (Wrote 94 w0 w g (ts ++ l.map .num)) := by
  obtain ⟨bs, bad, h1, h2⟩ := hO
  exact (out_num_keep g bs bad A c l w0 w h1 hB hr (by have := h2.2.2; dsimp only at this; omega)).mono fun e w' ⟨he, ho, hb, hk⟩ => ⟨he, ⟨_, _, ho, h2.putl l⟩, hb, hk⟩
theorem box2_C {w : World} {b T : Nat} {x y : Int} (h : w.heap[b]? = some (.cells #[.int .i64 x, .int .i64 y] T (0, 0))) : Kd.C (Kd.int .i64) w (some ⟨b, 0, none⟩) 2 [x, y] := by
  refine ⟨rfl, by decide, fun _ => ⟨_, rfl, fun j p hj => ?_⟩⟩
  match j, hj with
  | 0, hj =>
    cases hj
    exact ⟨[.int .i64 x], rfl, rfl, fun i u hu => by
      match i, hu with
      | 0, hu => cases hu; exact (blk_cell h) 0⟩
  | 1, hj =>
    cases hj
    exact ⟨[.int .i64 y], rfl, rfl, fun i u hu => by
      match i, hu with
      | 0, hu => cases hu; exact (blk_cell h) 1⟩
set_option maxHeartbeats 4000000 in
set_option maxRecDepth 20000 in
theorem pr1_T (g gb : Nat) (ts : List Tok) (x : Stp) (w0 w : World) (hO : OT 94 w0 w g ts) (hX : BX w gb g) (hB : Below w0.heap.size w0 w) (hc : costT ts + costT (tStp x) ≤ 1000000000) :
    Calls Try.prog 47 #[.agg #[.int .i64 x.1, .int .i64 x.2], .pointer (some ⟨gb, 0, none⟩)] w (Wrote 94 w0 w g (ts ++ tStp x)) := by
  obtain ⟨a, b⟩ := x
  dsimp only
  have hbb := below_drew (below_alloc (Below.refl w.heap.size w) (Obj.cells #[.int .i64 a, .int .i64 b] 100))
  have hX1 := hX.below (below_alloc (Below.refl w.heap.size w) (Obj.cells #[.int .i64 a, .int .i64 b] 100))
  have hc0 := (blk_cell hX1.1) 0
  have hcost : costT (tStp (a, b)) = 12 := rfl
  have HK := Aside0.mk (Keeps.below (g := g) hbb)
  have hbx : (w.alloc (.cells #[.int .i64 a, .int .i64 b] 100)).drew.heap[w.heap.size]? = some (.cells #[.int .i64 a, .int .i64 b] 100 (0, 0)) := by show (w.heap.push _)[w.heap.size]? = _; simp
  have hgw := hO.lt
  have K := Aside0.mk (out_num_K g ts (some ⟨w.heap.size, 0, none⟩) 2 [a, b] w0 _ (hO.below hbb) (below_drew (below_alloc hB (Obj.cells #[.int .i64 a, .int .i64 b] 100))) (fun w' hk => box2_C (hk _ _ hbx (by omega) (fun cs m e => by cases e))) (by simp; omega))
  clear hO hB hX hc hbb hX1 hbx hcost hgw
  go_enter Try.func47, Try.ntmps47
  go_wp2
  go_region_with (refine K.out.mono ?_; rintro e w1 ⟨rfl, ho, hb, hk⟩)
  all_goals
   have HO1 := Aside0.mk ho
   have HB1 := Aside0.mk hb
   have HK1 := Aside0.mk (HK.out.trans hk)
   clear ho hb hk K
   go_wp2
   go_end0
   exact ⟨rfl, HO1.out, HB1.out, HK1.out⟩
theorem costT_pr_ (l : List Stp) (i : Nat) (h : i < l.length) (z : Stp) : costT ((l.drop i).flatMap tStp) = costT (tStp (l.getD i z)) + costT ((l.drop (i + 1)).flatMap tStp) := by
  rw [List.drop_eq_getElem_cons h, List.flatMap_cons, costT_app, List.getD_eq_getElem?_getD, List.getElem?_eq_getElem h]
  rfl
theorem flat_pr_ (l : List Stp) (i : Nat) (h : i < l.length) (z : Stp) : (l.drop i).flatMap tStp = tStp (l.getD i z) ++ (l.drop (i + 1)).flatMap tStp := by
  rw [List.drop_eq_getElem_cons h, List.flatMap_cons, List.getD_eq_getElem?_getD, List.getElem?_eq_getElem h]
  rfl
set_option maxHeartbeats 4000000 in
set_option maxRecDepth 20000 in
theorem list_pr_T (g gb : Nat) (ts : List Tok) (A : Option Addr) (c : Nat) (l : List Stp) (w0 w : World) (hO : OT 94 w0 w g ts) (hX : BX w gb g) (hB : Below w0.heap.size w0 w) (hr : Kd.C (Kd.pair (Kd.int .i64) (Kd.int .i64)) w0 A l.length l) (hc : costT ts + costT (listT tStp l) ≤ 1000000000) (hl : l.length ≤ 1000000000) :
    Calls Try.prog 46 #[.pointer (some ⟨g, 0, none⟩), .slice A l.length c, .func (.func 47) #[] #[.pointer (some ⟨gb, 0, none⟩)]] w (Wrote 94 w0 w g (ts ++ listT tStp l)) := by
  have HR := Aside0.mk hr
  have HLEN := Aside0.mk hl
  have HX := Aside0.mk hX
  have hce : costT (listT tStp l) = 6 + costT (l.flatMap tStp) := costT_num _ _
  have K := Aside0.mk (out_num_T g ts w.heap.size _ [(l.length : Int)] w0 _ (hO.below (below_alloc (Below.refl w.heap.size w) (Obj.cells #[.int .i64 (l.length : Int)] 3))) (below_alloc hB _) (lit_R w w.heap.size (Nat.le_refl _) (l.length : Int)) (by simp; omega))
  have HK0 := Aside0.mk (Keeps.below (g := g) (below_alloc (Below.refl w.heap.size w) (Obj.cells #[.int .i64 (l.length : Int)] 3)))
  obtain ⟨us, hus⟩ : ∃ us, ts ++ listT tStp l = us := ⟨_, rfl⟩
  have HN0 : Aside0 (costT (ts ++ [.num (l.length : Int)]) + costT ((l.drop 0).flatMap tStp) ≤ 1000000000) := ⟨by rw [costT_app, costT_num, costT_nil, List.drop_zero]; omega⟩
  have HP : Aside0 ((ts ++ [.num (l.length : Int)]) ++ (l.drop 0).flatMap tStp = us) := ⟨by rw [← hus, List.drop_zero, listT, List.append_assoc]; rfl⟩
  rw [hus]
  simp only [List.map_cons, List.map_nil] at K
  generalize ts ++ [.num (l.length : Int)] = s0 at K HN0 HP
  clear hO hB hr hc hl hX hce hus
  go_enter Try.func46, Try.ntmps46
  go_wp2_with (fail)
  refine K.out.mono ?_
  rintro e w1 ⟨rfl, ho, hb, hk⟩
  have HO := Aside0.mk ho
  have HB := Aside0.mk hb
  have HKP := Aside0.mk (HK0.out.trans hk)
  clear ho hb hk K
  go_wp2
  go_loopg [7, 15] l.length (fun kq v7 v15 w' => ∃ (i : Nat) (s : List Tok), v15 = .int .i64 (i : Int) ∧ Aside0 (i + kq = l.length) ∧ Aside0 (costT s + costT ((l.drop i).flatMap tStp) ≤ 1000000000) ∧ Aside0 (s ++ (l.drop i).flatMap tStp = us) ∧ Aside0 (OT 94 w0 w' g s) ∧ Aside0 (Below w0.heap.size w0 w') ∧ Aside0 (Keeps w w' g))
  case atStart => exact ⟨0, s0, rfl, ⟨by omega⟩, HN0, HP, HO, HB, HKP⟩
  case round =>
    clear HO HB HP HN0 HKP
    obtain ⟨i, s, rfl, HI, HN, HP, HO, HB, HKP⟩ := hrel
    by_cases c1 : i < l.length
    · have e1 : decide (i < l.length) = true := decide_eq_true c1
      have e5 : wrap64 ((i : Int) + 1) = ((i + 1 : Nat) : Int) := by have := HLEN.out; unfold wrap64; omega
      obtain ⟨ad, cs, ea, hcl, hK, hcc⟩ := Kd.C_get HR.out (0, 0) (i : Int) (by omega) (by omega)
      cases ea
      rw [Int.toNat_natCast] at hK hcc
      have hN := HN.out
      have hP := HP.out
      rw [costT_pr_ l i c1 (0, 0)] at hN
      rw [flat_pr_ l i c1 (0, 0), ← List.append_assoc] at hP
      generalize l.getD i (0, 0) = x at hK hN hP
      obtain ⟨a, b⟩ := x
      obtain ⟨c0, c1, rfl, h0, h1⟩ := hK
      cases h0
      cases h1
      have hx0 : wr.cell? (ad.add (i * 2)) = some (.int .i64 a) := pw_cell_below HB.out (hcc 0 _ rfl)
      have hx1 : wr.cell? ⟨(ad.add (i * 2)).block, (ad.add (i * 2)).off + 1, none⟩ = some (.int .i64 b) := (by have := (show w0.cell? (ad.add (i * 2 + 1)) = some (.int .i64 b) from hcc 1 _ rfl); rw [show ad.add (i * 2 + 1) = (ad.add (i * 2)).add 1 from (Addr.add_add _ _ _).symm] at this; exact pw_cell_below HB.out this)
      have HN1 := Aside0.mk hN
      have HP1 := Aside0.mk hP
      have hbx := below_alloc (Below.refl wr.heap.size wr) (Obj.cells #[.int .i64 a, .int .i64 b] 100)
      have K := Aside0.mk (pr1_T g gb s (a, b) w0 _ (HO.out.below hbx) ((HX.out.keep HKP.out).below hbx) (below_alloc HB.out _)  (by have := HN1.out; omega))
      clear hN hP hcc
      go_wp2_with (fail)
      refine K.out.mono ?_
      rintro e w2 ⟨rfl, ho, hb, hk⟩
      have HO1 := Aside0.mk ho
      have HB1 := Aside0.mk hb
      have HK1 := Aside0.mk ((HKP.out.trans (Keeps.below hbx)).trans hk)
      clear ho hb hk K
      go_wp2
      go_roundg (gk - 1)
      case measure => have := HI.out; omega
      case rel => exact ⟨i + 1, s ++ tStp (a, b), congrArg _ e5, ⟨by have := HI.out; omega⟩, ⟨by have := HN1.out; rw [costT_app]; omega⟩, HP1, HO1, HB1, HK1⟩
    · have e1 : decide (i < l.length) = false := decide_eq_false c1
      have hP := HP.out
      rw [List.drop_eq_nil_of_le (by omega), List.flatMap_nil, List.append_nil] at hP
      subst hP
      go_wp2
      go_end0
      exact ⟨rfl, HO.out, HB.out, HKP.out⟩
theorem OT.new' (T : TypeId) {w0 w : World} (hB : Below w0.heap.size w0 w) : OT T w0 (w.alloc (.cells #[.slice none 0 0, .bool false] T)) w.heap.size [] := ⟨[], false, ⟨_, by show (w.heap.push _)[w.heap.size]? = _; simp, hB.size, Kd.R_nil _ _ _ _ _⟩, Says.nil⟩
def endE (ts : List Tok) : Int := if okT ts = true then 0 else 12
def endL (ts : List Tok) : List Int := if okT ts = true then outT ts else []
theorem done_T (g : Nat) (ts : List Tok) (w0 w : World) (hO : OT 94 w0 w g ts) :
    Calls Try.prog 37 #[.pointer (some ⟨g, 0, none⟩)] w fun e w' => ∃ v, e = .returned (.tuple #[v, .int .i64 (endE ts)]) ∧ Kd.R (Kd.int .u8) 5 w' w0.heap.size (fun _ => True) v (endL ts) ∧ w' = w := by
  obtain ⟨bs, bad, h1, h2⟩ := hO
  have hd := done_calls g bs bad w0 w h1
  obtain ⟨e1, e2, _⟩ := h2
  dsimp only at e1 e2
  unfold endE endL
  cases hk : okT ts with
  | true =>
    rw [hk] at e1
    rw [e2 hk] at hd
    have e1' : bad = false := e1
    rw [e1'] at hd
    exact hd
  | false =>
    rw [hk] at e1
    have e1' : bad = true := e1
    rw [e1'] at hd
    exact hd
theorem box_keep {w w1 : World} {b g : Nat} {cs : Array Value} {t : TypeId} {m : Nat × Nat} (h : w.heap[b]? = some (.cells cs t m)) (hk : Keeps w w1 g) (hb : b ≠ g) (ht : t ≠ 5) : w1.heap[b]? = some (.cells cs t m) := hk b _ h hb (fun cs' m' e => by cases e; exact ht rfl)
theorem box_set {w : World} {b t o : Nat} {cs : Array Value} (h : w.heap[b]? = some (.cells cs t (0, 0))) (v : Value) : (w.setCell ⟨b, o, none⟩ v).heap[b]? = some (.cells (cs.set! o v) t (0, 0)) := by
  obtain ⟨hlt, hv⟩ := Array.getElem?_eq_some_iff.1 h
  simp [World.setCell, Array.getElem?_modify, h]
theorem heap_last (w : World) (o : Obj) : (w.alloc o).heap[w.heap.size]? = some o := by show (w.heap.push _)[w.heap.size]? = _; simp
set_option maxHeartbeats 4000000 in
set_option maxRecDepth 20000 in
theorem PutPlan_T (p : Pln) (A0 A1 A2 A3 : Option Addr) (c0 c1 c2 c3 : Nat) (w : World) (h0 : Kd.C (Kd.int .i64) w A0 p.1.length p.1) (h1 : Kd.C (Kd.int .i64) w A1 p.2.1.length p.2.1) (h2 : Kd.C (Kd.pair (Kd.int .i64) (Kd.int .i64)) w A2 p.2.2.1.length p.2.2.1) (h3 : Kd.C (Kd.pair (Kd.int .i64) (Kd.int .i64)) w A3 p.2.2.2.length p.2.2.2) (hc : costT (tPln p) ≤ 1000000000) (hl2 : p.2.2.1.length ≤ 1000000000) (hl3 : p.2.2.2.length ≤ 1000000000) :
    Calls Try.prog 20 #[.agg #[.slice A0 p.1.length c0, .slice A1 p.2.1.length c1, .slice A2 p.2.2.1.length c2, .slice A3 p.2.2.2.length c3]] w fun e w' => ∃ v, e = .returned (.tuple #[v, .int .i64 (endE (tPln p))]) ∧ Kd.R (Kd.int .u8) 5 w' w.heap.size (fun _ => True) v (endL (tPln p)) ∧ Below w.heap.size w w' := by
  obtain ⟨l0, l1, l2, l3⟩ := p
  dsimp only at h0 h1 h2 h3 hl2 hl3 ⊢
  obtain ⟨us, hus⟩ : ∃ us, tPln (l0, l1, l2, l3) = us := ⟨_, rfl⟩
  have HUS := Aside0.mk (show ((([] ++ listT tNum l0) ++ listT tNum l1) ++ listT tStp l2) ++ listT tStp l3 = us by rw [← hus]; simp [tPln])
  have hcc : costT (listT tNum l0) + (costT (listT tNum l1) + (costT (listT tStp l2) + costT (listT tStp l3))) ≤ 1000000000 := by
    have := hc
    simp only [tPln, costT_app] at this
    omega
  have HC := Aside0.mk hcc
  rw [hus]
  obtain ⟨E, hE⟩ : ∃ E, endE us = E := ⟨_, rfl⟩
  obtain ⟨L, hL⟩ : ∃ L, endL us = L := ⟨_, rfl⟩
  rw [hE, hL]
  have HE := Aside0.mk hE
  have HLL := Aside0.mk hL
  clear hE hL
  have H0 := Aside0.mk h0
  have H1 := Aside0.mk h1
  have H2 := Aside0.mk h2
  have H3 := Aside0.mk h3
  have HL := Aside0.mk (And.intro hl2 hl3)
  have hmf : ∀ (fn : Fn) (first cap : Array Value) (w : World), (Instr.makeFunc fn first cap).run Try.prog w = .ok (.func fn first cap) w := fun _ _ _ _ => rfl
  obtain ⟨B0, hB0⟩ : ∃ o, o = Obj.cells #[.slice A0 l0.length c0, .slice A1 l1.length c1, .slice A2 l2.length c2, .slice A3 l3.length c3] 46 := ⟨_, rfl⟩
  have hb1 := below_alloc (Below.refl w.heap.size w) B0
  have hO := OT.new' 94 hb1
  have hb2 := below_alloc hb1 (.cells #[.slice none 0 0, .bool false] 94)
  have hX : BX (((w.alloc B0).alloc (.cells #[.slice none 0 0, .bool false] 94)).alloc (.cells #[.pointer (some ⟨w.heap.size + 1, 0, none⟩)] 92)) (w.heap.size + 2) (w.heap.size + 1) := ⟨by
    have := heap_last ((w.alloc B0).alloc (.cells #[.slice none 0 0, .bool false] 94)) (.cells #[.pointer (some ⟨w.heap.size + 1, 0, none⟩)] 92)
    rwa [World.size_alloc, World.size_alloc] at this, by omega⟩
  have hP : (((w.alloc B0).alloc (.cells #[.slice none 0 0, .bool false] 94)).alloc (.cells #[.pointer (some ⟨w.heap.size + 1, 0, none⟩)] 92)).heap[w.heap.size]? = some B0 := by
    have e := heap_last w B0
    have hlt : w.heap.size < (w.alloc B0).heap.size := by rw [World.size_alloc]; omega
    exact ((below_alloc (below_alloc (Below.refl _ (w.alloc B0)) (.cells #[.slice none 0 0, .bool false] 94)) (.cells #[.pointer (some ⟨w.heap.size + 1, 0, none⟩)] 92)).block _ hlt).trans e
  have hO2 := hO.below (below_alloc (Below.refl _ _) (.cells #[.pointer (some ⟨w.heap.size + 1, 0, none⟩)] 92))
  rw [World.size_alloc] at hO2
  have K := Aside0.mk (ints_T (w.heap.size + 1) [] A0 c0 l0 w _ hO2 (below_alloc hb2 _) H0.out (by have := HC.out; rw [costT_nil]; omega))
  subst hB0
  have HX := Aside0.mk hX
  have HP := Aside0.mk hP
  have hx0 := (blk_cell hX.1) 0
  have hp0 := (blk_cell hP) 0
  clear h0 h1 h2 h3 hl2 hl3 hc hcc hus hO hO2 hb1 hb2 hX hP
  go_enter Try.func20, Try.ntmps20
  go_wp2_with (fail)
  refine K.out.mono ?_
  rintro e w1 ⟨rfl, ho, hb, hk⟩
  clear hx0 hp0 K
  have HX1 := Aside0.mk (HX.out.keep hk)
  have HP1 := Aside0.mk (box_keep HP.out hk (by omega) (by decide))
  have K := Aside0.mk (ints_T (w.heap.size + 1) _ A1 c1 l1 w w1 ho hb H1.out (by have := HC.out; rw [costT_app, costT_nil]; omega))
  have hx0 := (blk_cell HX1.out.1) 0
  have hp0 := (blk_cell HP1.out) 1
  clear ho hb hk HX HP
  go_wp2_with (fail)
  refine K.out.mono ?_
  rintro e w2 ⟨rfl, ho, hb, hk⟩
  clear hx0 hp0 K
  have HX2 := Aside0.mk (HX1.out.keep hk)
  have HP2 := Aside0.mk (box_keep HP1.out hk (by omega) (by decide))
  have K := Aside0.mk (list_stp_T (w.heap.size + 1) (w.heap.size + 2) _ A2 c2 l2 w w2 ho HX2.out hb H2.out (by have := HC.out; rw [costT_app, costT_app, costT_nil]; omega) HL.out.1)
  have hx0 := (blk_cell HX2.out.1) 0
  have hp0 := (blk_cell HP2.out) 2
  clear ho hb hk HX1 HP1
  go_wp2_with (fail)
  refine K.out.mono ?_
  rintro e w3 ⟨rfl, ho, hb, hk⟩
  clear hx0 hp0 K
  have HX3 := Aside0.mk (HX2.out.keep hk)
  have HP3 := Aside0.mk (box_keep HP2.out hk (by omega) (by decide))
  have K := Aside0.mk (list_pr_T (w.heap.size + 1) (w.heap.size + 2) _ A3 c3 l3 w w3 ho HX3.out hb H3.out (by have := HC.out; rw [costT_app, costT_app, costT_app, costT_nil]; omega) HL.out.2)
  have hx0 := (blk_cell HX3.out.1) 0
  have hp0 := (blk_cell HP3.out) 3
  clear ho hb hk HX2 HP2
  go_wp2_with (fail)
  refine K.out.mono ?_
  rintro e w4 ⟨rfl, ho, hb, hk⟩
  clear hx0 hp0 K
  have HX4 := Aside0.mk (HX3.out.keep hk)
  rw [HUS.out] at ho
  have K := Aside0.mk (done_T (w.heap.size + 1) us w w4 ho)
  have HB4 := Aside0.mk hb
  have hx0 := (blk_cell HX4.out.1) 0
  clear ho hb hk HX3 HP3
  rw [HE.out, HLL.out] at K
  go_wp2_with (fail)
  refine K.out.mono ?_
  rintro e w5 ⟨v, rfl, hR, rfl⟩
  have HR := Aside0.mk hR
  clear hR K
  go_wp2
  go_ret2
  exact ⟨v, rfl, HR.out, HB4.out⟩
end Go.Proofs.Ythefbeekcjchcaa.P
