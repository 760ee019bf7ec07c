/- The document's writer: texts, versions, ranges, catalogues. -/
import Derived.Test.YthefbeekcjchcaaPutCat
import Derived.Test.YthefbeekcjchcaaMadeCat
import Derived.Deep.RegionLaw
namespace Go.Proofs.Ythefbeekcjchcaa.P
open Go Go.RowKit Go.Proofs.YthefbeekcjchcaaW.PrintWords Go.Proofs.YthefbeekcjchcaaW.PrintLast Go.Proofs.YthefbeekcjchcaaW.PrintMore
set_option linter.unusedVariables false
set_option linter.unusedSimpArgs false
theorem lit_u8 (W : World) (x : Int) (T : TypeId) : ReadsRow (fun (p : Int) cs => cs = [.int .u8 p]) 1 (W.alloc (.cells #[.int .u8 x] T)) (some ⟨W.heap.size, 0, none⟩) 1 [x] := by
  refine ⟨rfl, by decide, fun _ => ⟨_, rfl, fun j p hj => ?_⟩⟩
  match j, hj with
  | 0, hj =>
    cases hj
    refine ⟨_, rfl, rfl, fun i u hu => ?_⟩
    match i, hu with
    | 0, hu => cases hu; exact (blk_cell (heap_last W (.cells #[.int .u8 x] T))) 0
theorem bytes_take (s : ByteArray) (i : Nat) (h : i < s.size) : (bytesOf s).take (i + 1) = (bytesOf s).take i ++ [((s[i]'h).toNat : Int)] := by
  rw [List.take_add_one]
  congr 1
  have h2 : i < s.data.toList.length := by simpa using h
  simp only [bytesOf, List.getElem?_map, List.getElem?_eq_getElem h2]
  rfl
set_option maxHeartbeats 8000000 in
set_option maxRecDepth 20000 in
theorem W_text_T (g : Nat) (ts : List Tok) (s : ByteArray) (w0 w : World) (hO : OT 27 w0 w g ts) (hB : Below w0.heap.size w0 w) (hc : costT ts + costT (tText s) ≤ 1000000000) :
    Calls Try.prog 73 #[.pointer (some ⟨g, 0, none⟩), .string s] w (Wrote 27 w0 w g (ts ++ tText s)) := by
  rw [cost_text] at hc
  have K := Aside0.mk (W_num_T g ts (s.size : Int) w0 w hO hB (by omega))
  have HC := Aside0.mk hc
  have HE : Aside0 (ts ++ tText s = ts ++ [Tok.num (s.size : Int)] ++ [Tok.raw (bytesOf s)]) := ⟨by rw [tText, rawT, bytesOf_length]; simp⟩
  rw [HE.out]
  have HC1 : Aside0 (costT (ts ++ [Tok.num (s.size : Int)]) + s.size ≤ 1000000000) := ⟨by rw [costT_app, costT_num, costT_nil]; omega⟩
  generalize ts ++ [Tok.num (s.size : Int)] = us at *
  clear hO hB hc HE HC
  go_enter Try.func73, Try.ntmps73
  go_wp2_with (fail)
  refine K.out.mono ?_
  rintro e w1 ⟨rfl, ⟨bs, bad, ⟨v, hg, hg0, hR⟩, hsay⟩, hb, hk⟩
  obtain ⟨A, c, rfl⟩ := Kd.R_slice hR
  have HG := Aside0.mk hg
  have HG0 := Aside0.mk hg0
  have HR := Aside0.mk hR
  have HS := Aside0.mk hsay
  have HB := Aside0.mk hb
  have HK := Aside0.mk hk
  have HLEN : Aside0 (bs.length + s.size ≤ 1000000000) := ⟨by have := hsay.2.2; have := HC1.out; dsimp only at *; omega⟩
  clear hg hg0 hR hsay hb hk K
  go_wp2
  go_loopg [4] s.size (fun kq v4 w' => ∃ (i : Nat) (A : Option Addr) (c : Nat) (xs : List Int), v4 = .int .i64 (i : Int) ∧ Aside0 (i + kq = s.size) ∧ Aside0 (xs = bs ++ (bytesOf s).take i) ∧ Aside0 (w'.heap[g]? = some (.cells #[.slice A xs.length c, .bool bad] 27 (0, 0))) ∧ Aside0 (Kd.R (Kd.int .u8) 5 w' w0.heap.size (fun k => k ≠ g) (.slice A xs.length c) xs) ∧ Aside0 (Below w0.heap.size w0 w') ∧ Aside0 (Keeps w w' g))
  case atStart => exact ⟨0, A, c, bs, rfl, ⟨by omega⟩, ⟨by simp⟩, HG, HR, HB, HK⟩
  case round =>
    clear HG HR HB HK
    obtain ⟨i, A, c, xs, rfl, HJ, HX, HG, HR, HB, HK⟩ := hrel
    have hc0 := (blk_cell HG.out) 0
    by_cases c1 : i < s.size
    · have e1 : decide (i < s.size) = true := decide_eq_true c1
      have HE5 : Aside0 (wrap64 ((i : Int) + 1) = ((i + 1 : Nat) : Int)) := ⟨by have := HLEN.out; unfold wrap64; omega⟩
      have hq4 : wr.drew.cell? ⟨g, 0, none⟩ = some (.slice A xs.length c) := (blk_cell HG.out) 0
      go_wp2
      have HI := Aside0.mk c1
      obtain ⟨b, hbv⟩ : ∃ b : Int, ((s[i]'c1).toNat : Int) = b := ⟨_, rfl⟩
      have HBV := Aside0.mk hbv
      have hb7 := below_drew (below_alloc (Below.refl wr.heap.size wr) (Obj.cells #[.int .u8 b] 5))
      have HG7 := Aside0.mk ((hb7.block g (blk_lt HG.out)).trans HG.out)
      have HR7 := Aside0.mk (Kd.R_below HR.out hb7)
      have HB7 := Aside0.mk (HB.out.trans (hb7.mono HB.out.size))
      have HK7 := Aside0.mk (HK.out.trans (Keeps.below (g := g) hb7))
      have HL7 : Aside0 (ReadsRow (fun (p : Int) cs => cs = [.int .u8 p]) 1 (wr.alloc (.cells #[.int .u8 b] 5)).drew (some ⟨wr.heap.size, 0, none⟩) 1 [b]) := ⟨lit_u8 wr b 5⟩
      have hq7 := (blk_cell HG7.out) 0
      clear hb7 hc0
      go_region_law (first
        | (refine Kd.R_append_rows_step (Kd.int .u8) (w0 := (wr.alloc (.cells #[.int .u8 b] 5)).drew) w0.heap.size (by simp [Region.wanted]) (.tmp 19) (.tmp 23) 25 5 (.int .u8 0) 1 rfl Try.underlying25 infoB5 rfl (by decide) (by decide) (.slice A xs.length c) xs [b] (some ⟨wr.heap.size, 0, none⟩) 1 1 (fun k => k ≠ g) (fun k => k ≠ g ∧ some k ≠ (Value.slice A xs.length c).ownBlock) (by simp [Act.eval, Act.put]) (by simp [Act.eval, Act.put]) HR7.out HL7.out (fun p cs h => h) (fun k hk => hk) (fun k hk => by have := blk_lt HG7.out; omega) (Below.refl _ _) HB7.out.size (by have := HLEN.out; have := HI.out; have h1 := congrArg List.length HX.out; rw [List.length_append, List.length_take] at h1; omega) ?_; intro v44 w8 ho hb hgr hat; obtain ⟨A8, c8, rfl⟩ := Kd.R_slice ho; have HR8 := Aside0.mk ho; have HB8 := Aside0.mk (HB7.out.trans hb); have HG8 := Aside0.mk ((hgr.block g (blk_lt HG7.out) (Kd.R_away HR7.out (fun k hk => hk))).trans HG7.out); have HK8 := Aside0.mk (HK7.out.trans (Keeps.grown HR7.out hgr)); have hq8 := (blk_cell HG8.out) 0; have hf8 := free_of HG8.out 0; clear ho hb hgr hat))
      all_goals
        go_wp2
        go_roundg (gk - 1)
        case measure => have := HJ.out; have := HI.out; omega
        case rel =>
          refine ⟨i + 1, A8, c8, xs ++ [b], (by first | exact congrArg _ HE5.out | rfl), ⟨by have := HJ.out; have := HI.out; omega⟩, ⟨by rw [HX.out, List.append_assoc, bytes_take s i HI.out, ← HBV.out]⟩, ⟨by rw [len_snoc]; exact box_set (o := 0) HG8.out (.slice A8 (xs.length + 1) c8)⟩, ⟨Kd.R_far HR8.out (fun k hk => hk) _⟩, ⟨HB8.out.setCell (p := ⟨g, 0, none⟩) HG0.out _⟩, ⟨HK8.out.trans (Keeps.set 0 _)⟩⟩
    · have e1 : decide (i < s.size) = false := decide_eq_false c1
      have hi : i = s.size := by have := HJ.out; omega
      have hx := HX.out
      rw [List.take_of_length_le (by rw [bytesOf_length]; omega)] at hx
      subst hx
      go_wp2
      go_end0
      exact ⟨rfl, ⟨_, _, ⟨_, HG.out, HG0.out, HR.out⟩, HS.out.raw _⟩, HB.out, HK.out⟩
set_option maxHeartbeats 8000000 in
set_option maxRecDepth 20000 in
theorem W_version_T (g : Nat) (ts : List Tok) (v : Ver) (w0 w : World) (hO : OT 27 w0 w g ts) (hB : Below w0.heap.size w0 w) (hc : costT ts + costT (tVer v) ≤ 1000000000) :
    Calls Try.prog 74 #[.pointer (some ⟨g, 0, none⟩), .agg #[.int .i64 v.1, .int .i64 v.2.1, .int .i64 v.2.2.1, .string v.2.2.2]] w (Wrote 27 w0 w g (ts ++ tVer v)) := by
  obtain ⟨a, b, c, s⟩ := v
  dsimp only
  have hcost := cost_ver (a, b, c, s)
  dsimp only at hcost
  have HT : Aside0 (ts ++ tVer (a, b, c, s) = ((ts ++ [.num a]) ++ [.num b]) ++ [.num c] ++ tText s) := ⟨by simp [tVer]⟩
  rw [HT.out]
  have HC : Aside0 (costT ts + 18 + costT (tText s) ≤ 1000000000) := ⟨by omega⟩
  have hb1 := below_alloc (Below.refl w.heap.size w) (Obj.cells #[.int .i64 a, .int .i64 b, .int .i64 c, .string s] 122)
  have HP := Aside0.mk (heap_last w (Obj.cells #[.int .i64 a, .int .i64 b, .int .i64 c, .string s] 122))
  have HK := Aside0.mk (Keeps.below (g := g) hb1)
  have HNE : Aside0 (w.heap.size ≠ g) := ⟨by have := hO.lt; omega⟩
  have K := Aside0.mk (W_num_T g ts a w0 _ (hO.below hb1) (below_alloc hB _) (by omega))
  clear hO hB hc hcost hb1 HT
  go_enter Try.func74, Try.ntmps74
  go_wp2_with (fail)
  refine K.out.mono ?_
  rintro e w1 ⟨rfl, ho, hb, hk⟩
  have HP1 := Aside0.mk (box_keep HP.out hk HNE.out (by decide))
  have HK1 := Aside0.mk (HK.out.trans hk)
  have hp1 := (blk_cell HP1.out) 1
  have K' := Aside0.mk (W_num_T g _ b w0 w1 ho hb (by have := HC.out; simp only [costT_app, costT_num, costT_nil]; omega))
  clear K ho hb hk HP HK
  have K := K'
  clear K'
  go_wp2_with (fail)
  refine K.out.mono ?_
  rintro e w2 ⟨rfl, ho, hb, hk⟩
  have HP2 := Aside0.mk (box_keep HP1.out hk HNE.out (by decide))
  have HK2 := Aside0.mk (HK1.out.trans hk)
  have hp2 := (blk_cell HP2.out) 2
  have K' := Aside0.mk (W_num_T g _ c w0 w2 ho hb (by have := HC.out; simp only [costT_app, costT_num, costT_nil]; omega))
  clear K ho hb hk HP1 HK1 hp1
  have K := K'
  clear K'
  go_wp2_with (fail)
  refine K.out.mono ?_
  rintro e w3 ⟨rfl, ho, hb, hk⟩
  have HP3 := Aside0.mk (box_keep HP2.out hk HNE.out (by decide))
  have HK3 := Aside0.mk (HK2.out.trans hk)
  have hp3 := (blk_cell HP3.out) 3
  have K' := Aside0.mk (W_text_T g _ s w0 w3 ho hb (by have := HC.out; simp only [costT_app, costT_num, costT_nil]; omega))
  clear K ho hb hk HP2 HK2 hp2
  have K := K'
  clear K'
  go_wp2_with (fail)
  refine K.out.mono ?_
  rintro e w4 ⟨rfl, ho, hb, hk⟩
  have HO := Aside0.mk ho
  have HB := Aside0.mk hb
  have HK4 := Aside0.mk (HK3.out.trans hk)
  clear K ho hb hk
  go_wp2
  go_end0
  exact ⟨rfl, HO.out, HB.out, HK4.out⟩
theorem eqA_ver12 (d : Nat) (w : World) (x0 y0 : Int) (x1 y1 : Int) (x2 y2 : Int) (x3 y3 : ByteArray) :
    (Op.equalIn (d + 2) 122 (.agg #[.int .i64 x0, .int .i64 x1, .int .i64 x2, .string x3]) (.agg #[.int .i64 y0, .int .i64 y1, .int .i64 y2, .string y3])).run Try.prog w = .ok (x0 == y0 && (x1 == y1 && (x2 == y2 && (x3.toList == y3.toList)))) w := by
  refine eqA_of Try.underlying122 (by kernel_rfl) ?_
  refine eqf_cons (by rfl) (by go_simp; rfl) (by go_simp; rfl) (by go_simp) ?_
  refine eqf_cons (by rfl) (by go_simp; rfl) (by go_simp; rfl) (by go_simp) ?_
  refine eqf_cons (by rfl) (by go_simp; rfl) (by go_simp; rfl) (by go_simp) ?_
  exact eqf_last (by rfl) (by go_simp; rfl) (by go_simp; rfl) (by go_simp)
attribute [local go_sem high] eqA_ver12
theorem flat_split {α : Type} {f : α → List Tok} (l : List α) (i : Nat) (h : i < l.length) (z : α) : (l.drop i).flatMap f = f (l.getD i z) ++ (l.drop (i + 1)).flatMap f ∧ costT ((l.drop i).flatMap f) = costT (f (l.getD i z)) + costT ((l.drop (i + 1)).flatMap f) := by
  have e : (l.drop i).flatMap f = f (l.getD i z) ++ (l.drop (i + 1)).flatMap f := by
    rw [List.drop_eq_getElem_cons h, List.flatMap_cons, List.getD_eq_getElem?_getD, List.getElem?_eq_getElem h]
    rfl
  exact ⟨e, by rw [e, costT_app]⟩
theorem len_cost {α : Type} {f : α → List Tok} (h : ∀ x, 6 ≤ costT (f x)) (l : List α) : 6 * l.length ≤ costT (l.flatMap f) := by
  induction l with
  | nil => simp
  | cons x l ih => have := h x; rw [List.flatMap_cons, costT_app, List.length_cons]; omega
theorem cost_cmp6 (c : Cmp) : 6 ≤ costT (tCmp c) := by
  unfold tCmp
  rw [costT_num]
  omega
theorem cost_comps6 (l : List Cmp) : 6 ≤ costT (listT tCmp l) := by
  unfold listT
  rw [costT_num]
  omega
theorem OT.free {T : TypeId} {w0 w : World} {g : Nat} {ts : List Tok} (h : OT T w0 w g ts) (o : Nat) : w.frozen? ⟨g, o, none⟩ = false := by
  obtain ⟨bs, bad, h1, _⟩ := h
  exact h1.free o
theorem OT.bad_cell {T : TypeId} {w0 w : World} {g : Nat} {ts : List Tok} (h : OT T w0 w g ts) : ∃ bad, w.cell? ⟨g, 1, none⟩ = some (.bool bad) := by
  obtain ⟨bs, bad, ⟨v, hg, _⟩, _⟩ := h
  exact ⟨bad, (blk_cell hg) 1⟩
set_option maxHeartbeats 8000000 in
set_option maxRecDepth 20000 in
theorem W_ranged_T (g : Nat) (ts : List Tok) (x : Rng) (A : Option Addr) (c : Nat) (w0 w : World) (hO : OT 27 w0 w g ts) (hB : Below w0.heap.size w0 w) (h0 : Kd.C kCmpsR w0 A x.length x) (hc : costT ts + costT (tRng x) ≤ 1000000000) :
    Calls Try.prog 65 #[.pointer (some ⟨g, 0, none⟩), .agg #[.slice A x.length c]] w (Wrote 27 w0 w g (ts ++ tRng x)) := by
  obtain ⟨us, hus⟩ : ∃ us, ts ++ tRng x = us := ⟨_, rfl⟩
  rw [hus]
  have hct : costT (tRng x) = 6 + costT (x.flatMap (listT tCmp)) := costT_num _ _
  have hxl := len_cost cost_comps6 x
  have HXL : Aside0 (x.length ≤ 1000000000) := ⟨by omega⟩
  have HU0 : Aside0 ((ts ++ [.num (x.length : Int)]) ++ x.flatMap (listT tCmp) = us) := ⟨by rw [← hus, List.append_assoc]; rfl⟩
  have HC0 : Aside0 (costT (ts ++ [.num (x.length : Int)]) + costT (x.flatMap (listT tCmp)) ≤ 1000000000) := ⟨by rw [costT_app, costT_num, costT_nil]; omega⟩
  have H0 := Aside0.mk h0
  have hb1 := below_alloc (Below.refl w.heap.size w) (Obj.cells #[.slice A x.length c] 133)
  have HP := Aside0.mk (heap_last w (Obj.cells #[.slice A x.length c] 133))
  have HK := Aside0.mk (Keeps.below (g := g) hb1)
  have HNE : Aside0 (w.heap.size ≠ g) := ⟨by have := hO.lt; omega⟩
  have K := Aside0.mk (W_num_T g ts (x.length : Int) w0 _ (hO.below hb1) (below_alloc hB _) (by omega))
  clear hO hB hc hb1 h0 hus hct hxl
  go_enter Try.func65, Try.ntmps65
  go_wp2_with (fail)
  refine K.out.mono ?_
  rintro e w1 ⟨rfl, ho, hb, hk⟩
  have HP1 := Aside0.mk (box_keep HP.out hk HNE.out (by decide))
  have HK1 := Aside0.mk (HK.out.trans hk)
  have HO1 := Aside0.mk ho
  have HB1 := Aside0.mk hb
  clear K ho hb hk HP HK
  generalize ts ++ [.num (x.length : Int)] = s0 at HU0 HC0 HO1
  go_wp2
  go_loopg [4, 5, 6, 7] x.length (fun kq v4 v5 v6 v7 w' => ∃ (i : Nat) (s : List Tok), v4 = .int .i64 (i : Int) ∧ Aside0 (i + kq = x.length) ∧ Aside0 (costT s + costT ((x.drop i).flatMap (listT tCmp)) ≤ 1000000000) ∧ Aside0 (s ++ (x.drop i).flatMap (listT tCmp) = us) ∧ Aside0 (OT 27 w0 w' g s) ∧ Aside0 (Below w0.heap.size w0 w') ∧ Aside0 (Keeps w w' g) ∧ Aside0 (w'.heap[w.heap.size]? = some (.cells #[.slice A x.length c] 133 (0, 0))))
  case atStart => exact ⟨0, s0, rfl, ⟨by omega⟩, ⟨by rw [List.drop_zero]; exact HC0.out⟩, ⟨by rw [List.drop_zero]; exact HU0.out⟩, HO1, HB1, HK1, HP1⟩
  case round =>
    clear HO1 HB1 HK1 HP1 HC0 HU0
    obtain ⟨i, s, rfl, HJ, HC, HU, HO, HB, HK, HP⟩ := hrel
    have hp0 := (blk_cell HP.out) 0
    by_cases c1 : i < x.length
    · have e1 : decide (i < x.length) = true := decide_eq_true c1
      have HE5 : Aside0 (wrap64 ((i : Int) + 1) = ((i + 1 : Nat) : Int)) := ⟨by have := HXL.out; unfold wrap64; omega⟩
      obtain ⟨ad, Ai, ci, ea, hx, hle, hCl⟩ := at_slice H0.out i c1
      cases ea
      have HY := Aside0.mk hx
      have hx0 := pw_cell_below HB.out hx
      obtain ⟨ef, ec⟩ := flat_split (f := listT tCmp) x i c1 []
      have hC := HC.out
      have hU := HU.out
      rw [ec] at hC
      rw [ef] at hU
      generalize x.getD i [] = l at hx0 hle hCl hC hU HY
      have hll := len_cost cost_cmp6 l
      have hcl : costT (listT tCmp l) = 6 + costT (l.flatMap tCmp) := costT_num _ _
      rw [hcl] at hC
      have HLL : Aside0 (l.length ≤ 1000000000) := ⟨by omega⟩
      have HCL := Aside0.mk hCl
      obtain ⟨rest, hrest⟩ : ∃ rest, (x.drop (i + 1)).flatMap (listT tCmp) = rest := ⟨_, rfl⟩
      have HREST := Aside0.mk hrest
      rw [hrest] at hC hU
      have HU1 : Aside0 ((s ++ [.num (l.length : Int)]) ++ l.flatMap tCmp ++ rest = us) := ⟨by rw [← hU, listT]; simp⟩
      have HC1 : Aside0 (costT (s ++ [.num (l.length : Int)]) + costT (l.flatMap tCmp) + costT rest ≤ 1000000000) := ⟨by rw [costT_app, costT_num, costT_nil]; omega⟩
      have K := Aside0.mk (W_num_T g s (l.length : Int) w0 wr HO.out HB.out (by omega))
      clear hx hle hCl ef ec hC hU hll hcl hrest
      go_wp2_with (fail)
      refine K.out.mono ?_
      rintro e w2 ⟨rfl, ho, hb, hk⟩
      have HP2 := Aside0.mk (box_keep HP.out hk HNE.out (by decide))
      have HK2 := Aside0.mk (HK.out.trans hk)
      have HO2 := Aside0.mk ho
      have HB2 := Aside0.mk hb
      have HI := Aside0.mk c1
      clear K ho hb hk HP HK HO HB HC HU hp0 hx0
      generalize s ++ [.num (l.length : Int)] = s2 at HU1 HC1 HO2
      obtain ⟨go, hgo⟩ : ∃ go : Nat, go = gk := ⟨_, rfl⟩
      subst hgo
      go_wp2
      go_loopg [5, 6, 7] l.length (fun kq v5 v6 v7 w' => ∃ (k : Nat) (s : List Tok), v5 = .int .i64 (k : Int) ∧ Aside0 (k + kq = l.length) ∧ Aside0 (costT s + costT ((l.drop k).flatMap tCmp) + costT rest ≤ 1000000000) ∧ Aside0 (s ++ (l.drop k).flatMap tCmp ++ rest = us) ∧ Aside0 (OT 27 w0 w' g s) ∧ Aside0 (Below w0.heap.size w0 w') ∧ Aside0 (Keeps w w' g) ∧ Aside0 (w'.heap[w.heap.size]? = some (.cells #[.slice (some ad) x.length c] 133 (0, 0))))
      case atStart => exact ⟨0, s2, rfl, ⟨by omega⟩, ⟨by rw [List.drop_zero]; exact HC1.out⟩, ⟨by rw [List.drop_zero]; exact HU1.out⟩, HO2, HB2, HK2, HP2⟩
      case round =>
        clear HO2 HB2 HK2 HP2 HC1 HU1
        obtain ⟨k, s, rfl, HJ2, HC, HU, HO, HB, HK, HP⟩ := hrel
        have hp0 := (blk_cell HP.out) 0
        have hx0 := pw_cell_below HB.out HY.out
        by_cases c2 : k < l.length
        · have e2 : decide (k < l.length) = true := decide_eq_true c2
          have HE52 : Aside0 (wrap64 ((k : Int) + 1) = ((k + 1 : Nat) : Int)) := ⟨by have := HLL.out; unfold wrap64; omega⟩
          have HI2 := Aside0.mk c2
          obtain ⟨ad2, ea2, y0, y1, y2, y3, y4⟩ := at_cmp HCL.out k c2
          cases ea2
          have hx1 := pw_cell_below HB.out y0
          have hx2 := pw_cell_below HB.out y1
          have hx3 := pw_cell_below HB.out y2
          have hx4 := pw_cell_below HB.out y3
          have hx5 := pw_cell_below HB.out y4
          obtain ⟨ef, ec⟩ := flat_split (f := tCmp) l k c2 (0, noVer)
          have hC := HC.out
          have hU := HU.out
          rw [ec] at hC
          rw [ef] at hU
          generalize l.getD k (0, noVer) = cm at hx1 hx2 hx3 hx4 hx5 hC hU
          obtain ⟨op, a, b, cc, t⟩ := cm
          dsimp only at hx1 hx2 hx3 hx4 hx5
          have hct : costT (tCmp (op, a, b, cc, t)) = 6 + costT (if op = 0 then (if (a, b, cc, t) = noVer then [] else [.bad]) else tVer (a, b, cc, t)) := costT_num _ _
          have htc : tCmp (op, a, b, cc, t) = .num op :: (if op = 0 then (if (a, b, cc, t) = noVer then [] else [.bad]) else tVer (a, b, cc, t)) := rfl
          rw [hct] at hC
          rw [htc] at hU
          obtain ⟨r2, hr2⟩ : ∃ r2, (l.drop (k + 1)).flatMap tCmp = r2 := ⟨_, rfl⟩
          have HR2 := Aside0.mk hr2
          rw [hr2] at hC hU
          have hbx := below_alloc (below_alloc (Below.refl wr.heap.size wr) (Obj.cells #[.int .i64 op, .int .i64 a, .int .i64 b, .int .i64 cc, .string t] 179)) (Obj.cells #[.int .i64 0, .int .i64 0, .int .i64 0, .string ⟨#[]⟩] 122)
          have HBC := Aside0.mk (box_lit wr (Obj.cells #[.int .i64 op, .int .i64 a, .int .i64 b, .int .i64 cc, .string t] 179) (Obj.cells #[.int .i64 0, .int .i64 0, .int .i64 0, .string ⟨#[]⟩] 122))
          have hbn := heap_last (wr.alloc (Obj.cells #[.int .i64 op, .int .i64 a, .int .i64 b, .int .i64 cc, .string t] 179)) (Obj.cells #[.int .i64 0, .int .i64 0, .int .i64 0, .string ⟨#[]⟩] 122)
          rw [World.size_alloc] at hbn
          have HBN := Aside0.mk hbn
          have HNG : Aside0 (g < wr.heap.size) := ⟨HO.out.lt⟩
          have HK0 := Aside0.mk (HK.out.trans (Keeps.below (g := g) hbx))
          have HP0 := Aside0.mk ((hbx.block _ (blk_lt HP.out)).trans HP.out)
          have K := Aside0.mk (W_num_T g s op w0 _ (HO.out.below hbx) (HB.out.trans (hbx.mono HB.out.size)) (by omega))
          have HCC := Aside0.mk hC
          have HUU := Aside0.mk hU
          clear y0 y1 y2 y3 y4 ef ec hC hU hct htc hr2 hbx hbn HO HB HK HP HC HU
          go_wp2_with (fail)
          refine K.out.mono ?_
          rintro e w3 ⟨rfl, ho, hb, hk⟩
          have HBC3 := Aside0.mk (box_keep HBC.out hk (by have := HNG.out; omega) (by decide))
          have HBN3 := Aside0.mk (box_keep HBN.out hk (by have := HNG.out; omega) (by decide))
          have HP3 := Aside0.mk (box_keep HP0.out hk HNE.out (by decide))
          have HK3 := Aside0.mk (HK0.out.trans hk)
          have HO3 := Aside0.mk ho
          have HB3 := Aside0.mk hb
          have hq0 := (blk_cell HBC3.out) 0
          have hq1 := (blk_cell HBC3.out) 1
          have hq2 := (blk_cell HBC3.out) 2
          have hq3 := (blk_cell HBC3.out) 3
          have hq4 := (blk_cell HBC3.out) 4
          have hn0 := (blk_cell HBN3.out) 0
          have hn1 := (blk_cell HBN3.out) 1
          have hn2 := (blk_cell HBN3.out) 2
          have hn3 := (blk_cell HBN3.out) 3
          clear K ho hb hk hx0 hx1 hx2 hx3 hx4 hx5 hp0 e2 HBC HBN HP0 HK0
          by_cases hop : op = 0
          · subst hop
            by_cases hv : (a, b, cc, t) = noVer
            · have hcb : (!(a == 0) || (!(b == 0) || (!(cc == 0) || !t.toList.isEmpty))) = false := by rw [cmp_bool, decide_eq_true hv]; rfl
              have hC := HCC.out
              have hU := HUU.out
              rw [if_pos rfl, if_pos hv] at hC hU
              have HC4 := Aside0.mk hC
              have HU4 := Aside0.mk hU
              clear hC hU hv
              go_wp2
              repeat (go_region; go_wp2)
              go_roundg (gk - 1)
              case measure => have := HJ2.out; have := HI2.out; omega
              case rel => exact ⟨k + 1, s ++ [.num 0], (by first | exact congrArg _ HE52.out | rfl), ⟨by have := HJ2.out; have := HI2.out; omega⟩, ⟨by rw [HR2.out, costT_app, costT_num, costT_nil]; have := HC4.out; rw [costT_nil] at this; omega⟩, ⟨by rw [HR2.out, ← HU4.out]; simp⟩, HO3, HB3, HK3, HP3⟩
            · have hcb : (!(a == 0) || (!(b == 0) || (!(cc == 0) || !t.toList.isEmpty))) = true := by rw [cmp_bool, decide_eq_false hv]; rfl
              have hC := HCC.out
              have hU := HUU.out
              rw [if_pos rfl, if_neg hv] at hC hU
              have HC4 := Aside0.mk hC
              have HU4 := Aside0.mk hU
              have hz := OT.free HO3.out 1
              have hw1 := OT.bad_cell HO3.out
              obtain ⟨bad, hw1⟩ := hw1
              clear hC hU hv
              go_wp2
              repeat (go_region; go_wp2)
              go_roundg (gk - 1)
              case measure => have := HJ2.out; have := HI2.out; omega
              case rel => exact ⟨k + 1, (s ++ [.num 0]) ++ [.bad], (by first | exact congrArg _ HE52.out | rfl), ⟨by have := HJ2.out; have := HI2.out; omega⟩, ⟨by rw [HR2.out, costT_app, costT_app, costT_num, costT_nil]; have := HC4.out; omega⟩, ⟨by rw [HR2.out, ← HU4.out]; simp⟩, ⟨(show OT 27 w0 _ g _ from HO3.out).spoil⟩, ⟨HB3.out.setCell (p := ⟨g, 1, none⟩) HO3.out.base _⟩, ⟨HK3.out.trans (Keeps.set 1 _)⟩, ⟨(Below.heap_setCell w3 ⟨g, 1, none⟩ (.bool true) w.heap.size HNE.out).trans HP3.out⟩⟩
          · have h2 : (op == 0) = false := beq_eq_false_iff_ne.2 hop
            have h3 : (op != 0) = true := by simp [hop]
            have hC := HCC.out
            have hU := HUU.out
            rw [if_neg hop] at hC hU
            have HC4 := Aside0.mk hC
            have HU4 := Aside0.mk hU
            have K := Aside0.mk (W_version_T g _ (a, b, cc, t) w0 w3 HO3.out HB3.out (by rw [costT_app, costT_num, costT_nil]; omega))
            clear hC hU hop
            go_wp2_with (fail)
            refine K.out.mono ?_
            rintro e w4 ⟨rfl, ho, hb, hk⟩
            have HP4 := Aside0.mk (box_keep HP3.out hk HNE.out (by decide))
            have HK4 := Aside0.mk (HK3.out.trans hk)
            have HO4 := Aside0.mk ho
            have HB4 := Aside0.mk hb
            clear K ho hb hk hq0 hq1 hq2 hq3 hq4 hn0 hn1 hn2 hn3 h2 h3
            go_wp2
            go_roundg (gk - 1)
            case measure => have := HJ2.out; have := HI2.out; omega
            case rel => exact ⟨k + 1, (s ++ [.num op]) ++ tVer (a, b, cc, t), (by first | exact congrArg _ HE52.out | rfl), ⟨by have := HJ2.out; have := HI2.out; omega⟩, ⟨by rw [HR2.out, costT_app, costT_app, costT_num, costT_nil]; have := HC4.out; omega⟩, ⟨by rw [HR2.out, ← HU4.out]; simp⟩, HO4, HB4, HK4, HP4⟩
        · have e2 : decide (k < l.length) = false := decide_eq_false c2
          have hC := HC.out
          have hU := HU.out
          rw [List.drop_eq_nil_of_le (by omega), List.flatMap_nil, List.append_nil] at hU
          rw [List.drop_eq_nil_of_le (by omega), List.flatMap_nil, costT_nil, Nat.add_zero] at hC
          have HC4 := Aside0.mk hC
          have HU4 := Aside0.mk hU
          clear hC hU
          go_wp2
          go_roundg (go - 1)
          case measure => have := HJ.out; have := HI.out; omega
          case rel => exact ⟨i + 1, s, (by first | exact congrArg _ HE5.out | rfl), ⟨by have := HJ.out; have := HI.out; omega⟩, ⟨by rw [HREST.out]; exact HC4.out⟩, ⟨by rw [HREST.out]; exact HU4.out⟩, HO, HB, HK, HP⟩
    · have e1 : decide (i < x.length) = false := decide_eq_false c1
      have hU := HU.out
      rw [List.drop_eq_nil_of_le (by omega), List.flatMap_nil, List.append_nil] at hU
      subst hU
      go_wp2
      go_end0
      exact ⟨rfl, HO.out, HB.out, HK.out⟩
theorem at_ndR {w : World} {A : Option Addr} {l : List Nd} (h : Kd.C kNdR w A l.length l) (i : Nat) (hi : i < l.length) :
    ∃ ad Ai ci, A = some ad ∧ w.cell? (ad.add (i * 2)) = some (.int .i64 (l.getD i zNd).1) ∧ w.cell? ⟨(ad.add (i * 2)).block, (ad.add (i * 2)).off + 1, none⟩ = some (.slice Ai (l.getD i zNd).2.length ci) ∧ (l.getD i zNd).2.length ≤ ci ∧ Kd.C kCmpsR w Ai (l.getD i zNd).2.length (l.getD i zNd).2 := by
  obtain ⟨ad, cs, ea, hcl, hK, hcc⟩ := Kd.C_get h zNd (i : Int) (by omega) (by omega)
  rw [Int.toNat_natCast] at hK hcc
  obtain ⟨z0, z1, rfl, y0, ⟨Ai, ci, rfl, hle, hC⟩⟩ := hK
  cases y0
  have hj : ∀ j u, ([Value.int .i64 (l.getD i zNd).1, .slice Ai (l.getD i zNd).2.length ci] : List Value)[j]? = some u → w.cell? ((ad.add (i * 2)).add j) = some u := fun j u hu => by
    rw [Addr.add_add]
    exact hcc j u hu
  exact ⟨ad, Ai, ci, ea, hj 0 _ rfl, hj 1 _ rfl, hle, hC⟩
theorem at_svcR {w : World} {A : Option Addr} {l : List Svc} (h : Kd.C kSvcR w A l.length l) (i : Nat) (hi : i < l.length) :
    ∃ ad Ai ci, A = some ad ∧ w.cell? (ad.add (i * 2)) = some (.string (l.getD i zSvc).1) ∧ w.cell? ⟨(ad.add (i * 2)).block, (ad.add (i * 2)).off + 1, none⟩ = some (.slice Ai (l.getD i zSvc).2.length ci) ∧ (l.getD i zSvc).2.length ≤ ci ∧ Kd.C kRelR w Ai (l.getD i zSvc).2.length (l.getD i zSvc).2 := by
  obtain ⟨ad, cs, ea, hcl, hK, hcc⟩ := Kd.C_get h zSvc (i : Int) (by omega) (by omega)
  rw [Int.toNat_natCast] at hK hcc
  obtain ⟨z0, z1, rfl, y0, ⟨Ai, ci, rfl, hle, hC⟩⟩ := hK
  cases y0
  have hj : ∀ j u, ([Value.string (l.getD i zSvc).1, .slice Ai (l.getD i zSvc).2.length ci] : List Value)[j]? = some u → w.cell? ((ad.add (i * 2)).add j) = some u := fun j u hu => by
    rw [Addr.add_add]
    exact hcc j u hu
  exact ⟨ad, Ai, ci, ea, hj 0 _ rfl, hj 1 _ rfl, hle, hC⟩
theorem at_relR {w : World} {A : Option Addr} {l : List Rel} (h : Kd.C kRelR w A l.length l) (i : Nat) (hi : i < l.length) :
    ∃ ad Ai ci, A = some ad ∧ w.cell? (ad.add (i * 6)) = some (.int .i64 (l.getD i zRel).1.1) ∧ w.cell? ⟨(ad.add (i * 6)).block, (ad.add (i * 6)).off + 1, none⟩ = some (.int .i64 (l.getD i zRel).1.2.1) ∧ w.cell? ⟨(ad.add (i * 6)).block, (ad.add (i * 6)).off + 2, none⟩ = some (.int .i64 (l.getD i zRel).1.2.2.1) ∧ w.cell? ⟨(ad.add (i * 6)).block, (ad.add (i * 6)).off + 3, none⟩ = some (.string (l.getD i zRel).1.2.2.2) ∧ w.cell? ⟨(ad.add (i * 6)).block, (ad.add (i * 6)).off + 4, none⟩ = some (.int .i64 (l.getD i zRel).2.1) ∧ w.cell? ⟨(ad.add (i * 6)).block, (ad.add (i * 6)).off + 5, none⟩ = some (.slice Ai (l.getD i zRel).2.2.length ci) ∧ (l.getD i zRel).2.2.length ≤ ci ∧ Kd.C kNdR w Ai (l.getD i zRel).2.2.length (l.getD i zRel).2.2 := by
  obtain ⟨ad, cs, ea, hcl, hK, hcc⟩ := Kd.C_get h zRel (i : Int) (by omega) (by omega)
  rw [Int.toNat_natCast] at hK hcc
  obtain ⟨z0, z1, rfl, ⟨z2, z3, rfl, y0, z4, z5, rfl, y1, z6, z7, rfl, y2, y3⟩, z8, z9, rfl, y4, ⟨Ai, ci, rfl, hle, hC⟩⟩ := hK
  cases y0
  cases y1
  cases y2
  cases y3
  cases y4
  have hj : ∀ j u, ([Value.int .i64 (l.getD i zRel).1.1, .int .i64 (l.getD i zRel).1.2.1, .int .i64 (l.getD i zRel).1.2.2.1, .string (l.getD i zRel).1.2.2.2, .int .i64 (l.getD i zRel).2.1, .slice Ai (l.getD i zRel).2.2.length ci] : List Value)[j]? = some u → w.cell? ((ad.add (i * 6)).add j) = some u := fun j u hu => by
    rw [Addr.add_add]
    exact hcc j u hu
  exact ⟨ad, Ai, ci, ea, hj 0 _ rfl, hj 1 _ rfl, hj 2 _ rfl, hj 3 _ rfl, hj 4 _ rfl, hj 5 _ rfl, hle, hC⟩
theorem cost_nd6 (n : Nd) : 6 ≤ costT (tNd n) := by
  unfold tNd
  rw [costT_num]
  omega
theorem cost_rel6 (r : Rel) : 6 ≤ costT (tRel r) := by
  unfold tRel tVer
  rw [List.cons_append, costT_num]
  omega
theorem cost_svc6 (s : Svc) : 6 ≤ costT (tSvc s) := by
  unfold tSvc
  rw [costT_app, cost_text]
  omega
set_option maxHeartbeats 8000000 in
set_option maxRecDepth 20000 in
theorem W_Catalog_T (g : Nat) (ts : List Tok) (x : List Svc) (A : Option Addr) (c : Nat) (w0 w : World) (hO : OT 27 w0 w g ts) (hB : Below w0.heap.size w0 w) (h0 : Kd.C kSvcR w0 A x.length x) (hc : costT ts + costT (tCat x) ≤ 1000000000) :
    Calls Try.prog 31 #[.pointer (some ⟨g, 0, none⟩), .agg #[.slice A x.length c]] w (Wrote 27 w0 w g (ts ++ tCat x)) := by
  obtain ⟨us, hus⟩ : ∃ us, ts ++ tCat x = us := ⟨_, rfl⟩
  rw [hus]
  have hct : costT (tCat x) = 6 + costT (x.flatMap tSvc) := costT_num _ _
  have hxl := len_cost cost_svc6 x
  have HXL : Aside0 (x.length ≤ 1000000000) := ⟨by omega⟩
  have HU0 : Aside0 ((ts ++ [.num (x.length : Int)]) ++ x.flatMap tSvc = us) := ⟨by rw [← hus, List.append_assoc]; rfl⟩
  have HC0 : Aside0 (costT (ts ++ [.num (x.length : Int)]) + costT (x.flatMap tSvc) ≤ 1000000000) := ⟨by rw [costT_app, costT_num, costT_nil]; omega⟩
  have H0 := Aside0.mk h0
  have hb1 := below_alloc (Below.refl w.heap.size w) (Obj.cells #[.slice A x.length c] 64)
  have HP := Aside0.mk (heap_last w (Obj.cells #[.slice A x.length c] 64))
  have HK := Aside0.mk (Keeps.below (g := g) hb1)
  have HNE : Aside0 (w.heap.size ≠ g) := ⟨by have := hO.lt; omega⟩
  have K := Aside0.mk (W_num_T g ts (x.length : Int) w0 _ (hO.below hb1) (below_alloc hB _) (by omega))
  clear hO hB hc hb1 h0 hus hct hxl
  go_enter Try.func31, Try.ntmps31
  go_wp2_with (fail)
  refine K.out.mono ?_
  rintro e w1 ⟨rfl, ho, hb, hk⟩
  have HP1 := Aside0.mk (box_keep HP.out hk HNE.out (by decide))
  have HK1 := Aside0.mk (HK.out.trans hk)
  have HO1 := Aside0.mk ho
  have HB1 := Aside0.mk hb
  clear K ho hb hk HP HK
  generalize ts ++ [.num (x.length : Int)] = s0 at HU0 HC0 HO1
  go_wp2
  go_loopg [4, 5, 6, 7, 8] x.length (fun kq v4 v5 v6 v7 v8 w' => ∃ (i : Nat) (s : List Tok), v4 = .int .i64 (i : Int) ∧ Aside0 (i + kq = x.length) ∧ Aside0 (costT s + costT ((x.drop i).flatMap tSvc) ≤ 1000000000) ∧ Aside0 (s ++ (x.drop i).flatMap tSvc = us) ∧ Aside0 (OT 27 w0 w' g s) ∧ Aside0 (Below w0.heap.size w0 w') ∧ Aside0 (Keeps w w' g) ∧ Aside0 (w'.heap[w.heap.size]? = some (.cells #[.slice A x.length c] 64 (0, 0))))
  case atStart => exact ⟨0, s0, rfl, ⟨by omega⟩, ⟨by rw [List.drop_zero]; exact HC0.out⟩, ⟨by rw [List.drop_zero]; exact HU0.out⟩, HO1, HB1, HK1, HP1⟩
  case round =>
    clear HO1 HB1 HK1 HP1 HC0 HU0
    obtain ⟨i, s, rfl, HJ, HC, HU, HO, HB, HK, HP⟩ := hrel
    have hp0 := (blk_cell HP.out) 0
    by_cases c1 : i < x.length
    · have e1 : decide (i < x.length) = true := decide_eq_true c1
      have HE5 : Aside0 (wrap64 ((i : Int) + 1) = ((i + 1 : Nat) : Int)) := ⟨by have := HXL.out; unfold wrap64; omega⟩
      have HI := Aside0.mk c1
      obtain ⟨ad, Ai, ci, ea, hx, hx', hle, hCl⟩ := at_svcR H0.out i c1
      cases ea
      have hx0 := pw_cell_below HB.out hx
      have hx1 := pw_cell_below HB.out hx'
      obtain ⟨ef, ec⟩ := flat_split (f := tSvc) x i c1 zSvc
      have hC := HC.out
      have hU := HU.out
      rw [ec] at hC
      rw [ef] at hU
      generalize x.getD i zSvc = sv at hx0 hx1 hle hCl hC hU
      obtain ⟨nm, rels⟩ := sv
      dsimp only at hx0 hx1 hle hCl
      obtain ⟨rest, hrest⟩ : ∃ rest, (x.drop (i + 1)).flatMap tSvc = rest := ⟨_, rfl⟩
      have HREST := Aside0.mk hrest
      rw [hrest] at hC hU
      have htc : costT (tSvc (nm, rels)) = costT (tText nm) + (6 + costT (rels.flatMap tRel)) := by unfold tSvc listT; rw [costT_app, costT_num]
      have hll := len_cost cost_rel6 rels
      rw [htc] at hC
      have HLL : Aside0 (rels.length ≤ 1000000000) := ⟨by omega⟩
      have HCL := Aside0.mk hCl
      have HU1 : Aside0 (((s ++ tText nm) ++ [.num (rels.length : Int)]) ++ rels.flatMap tRel ++ rest = us) := ⟨by rw [← hU, tSvc, listT]; simp⟩
      have HC1 := Aside0.mk hC
      have hbx := below_alloc (Below.refl wr.heap.size wr) (Obj.cells #[.string nm, .slice Ai rels.length ci] 116)
      have HS := Aside0.mk (heap_last wr (Obj.cells #[.string nm, .slice Ai rels.length ci] 116))
      obtain ⟨bs, hbs⟩ : ∃ bs, wr.heap.size = bs := ⟨_, rfl⟩
      have HNG : Aside0 (g < bs) := ⟨by rw [← hbs]; exact HO.out.lt⟩
      have HK0 := Aside0.mk (HK.out.trans (Keeps.below (g := g) hbx))
      have HP0 := Aside0.mk ((hbx.block _ (blk_lt HP.out)).trans HP.out)
      have K := Aside0.mk (W_text_T g s nm w0 _ (HO.out.below hbx) (HB.out.trans (hbx.mono HB.out.size)) (by omega))
      have HS := Aside0.mk (hbs ▸ HS.out)
      clear hx hx' hle hCl ef ec hC hU htc hll hrest hbx HO HB HK HP HC HU
      go_wp2_with (fail)
      refine K.out.mono ?_
      rintro e w2 ⟨rfl, ho, hb, hk⟩
      have HS2 := Aside0.mk (box_keep HS.out hk (by have := HNG.out; omega) (by decide))
      have HP2 := Aside0.mk (box_keep HP0.out hk HNE.out (by decide))
      have HK2 := Aside0.mk (HK0.out.trans hk)
      have hs1 := (blk_cell HS2.out) 1
      have K' := Aside0.mk (W_num_T g _ (rels.length : Int) w0 w2 ho hb (by rw [costT_app]; have := HC1.out; omega))
      clear K ho hb hk HP0 HK0 hp0 hx0 hx1 e1
      go_wp2_with (fail)
      refine K'.out.mono ?_
      rintro e w3 ⟨rfl, ho, hb, hk⟩
      have HS3 := Aside0.mk (box_keep HS2.out hk (by have := HNG.out; omega) (by decide))
      have HP3 := Aside0.mk (box_keep HP2.out hk HNE.out (by decide))
      have HK3 := Aside0.mk (HK2.out.trans hk)
      have HO3 := Aside0.mk ho
      have HB3 := Aside0.mk hb
      have HC3 : Aside0 (costT ((s ++ tText nm) ++ [.num (rels.length : Int)]) + costT (rels.flatMap tRel) + costT rest ≤ 1000000000) := ⟨by rw [costT_app, costT_app, costT_num, costT_nil]; have := HC1.out; omega⟩
      clear K' ho hb hk HP2 HK2 HS2 hs1 HC1 HS
      generalize (s ++ tText nm) ++ [.num (rels.length : Int)] = s2 at HU1 HC3 HO3
      obtain ⟨go, hgo⟩ : ∃ go : Nat, go = gk := ⟨_, rfl⟩
      subst hgo
      clear hbs
      go_wp2
      go_loopg [6, 7, 8] rels.length (fun kq v6 v7 v8 w' => ∃ (j : Nat) (s : List Tok), v6 = .int .i64 (j : Int) ∧ Aside0 (j + kq = rels.length) ∧ Aside0 (costT s + costT ((rels.drop j).flatMap tRel) + costT rest ≤ 1000000000) ∧ Aside0 (s ++ (rels.drop j).flatMap tRel ++ rest = us) ∧ Aside0 (OT 27 w0 w' g s) ∧ Aside0 (Below w0.heap.size w0 w') ∧ Aside0 (Keeps w w' g) ∧ Aside0 (w'.heap[w.heap.size]? = some (.cells #[.slice (some ad) x.length c] 64 (0, 0))) ∧ Aside0 (w'.heap[bs]? = some (.cells #[.string nm, .slice Ai rels.length ci] 116 (0, 0))))
      case atStart => exact ⟨0, s2, rfl, ⟨by omega⟩, ⟨by rw [List.drop_zero]; exact HC3.out⟩, ⟨by rw [List.drop_zero]; exact HU1.out⟩, HO3, HB3, HK3, HP3, HS3⟩
      case round =>
        clear HO3 HB3 HK3 HP3 HS3 HC3 HU1
        obtain ⟨j, s, rfl, HJ2, HC, HU, HO, HB, HK, HP, HS⟩ := hrel
        have hs1 := (blk_cell HS.out) 1
        by_cases c2 : j < rels.length
        · have e2 : decide (j < rels.length) = true := decide_eq_true c2
          have HE52 : Aside0 (wrap64 ((j : Int) + 1) = ((j + 1 : Nat) : Int)) := ⟨by have := HLL.out; unfold wrap64; omega⟩
          have HI2 := Aside0.mk c2
          obtain ⟨ad2, Aj, cj, ea2, y0, y1, y2, y3, y4, y5, hle, hCr⟩ := at_relR HCL.out j c2
          cases ea2
          have hx0 := pw_cell_below HB.out y0
          have hx1 := pw_cell_below HB.out y1
          have hx2 := pw_cell_below HB.out y2
          have hx3 := pw_cell_below HB.out y3
          have hx4 := pw_cell_below HB.out y4
          have hx5 := pw_cell_below HB.out y5
          obtain ⟨ef, ec⟩ := flat_split (f := tRel) rels j c2 zRel
          have hC := HC.out
          have hU := HU.out
          rw [ec] at hC
          rw [ef] at hU
          generalize rels.getD j zRel = rl at hx0 hx1 hx2 hx3 hx4 hx5 hle hCr hC hU
          obtain ⟨⟨a, b, cc, t⟩, lv, nds⟩ := rl
          dsimp only at hx0 hx1 hx2 hx3 hx4 hx5 hle hCr
          obtain ⟨r2, hr2⟩ : ∃ r2, (rels.drop (j + 1)).flatMap tRel = r2 := ⟨_, rfl⟩
          have HR2 := Aside0.mk hr2
          rw [hr2] at hC hU
          have htc : costT (tRel ((a, b, cc, t), lv, nds)) = costT (tVer (a, b, cc, t)) + (6 + (6 + costT (nds.flatMap tNd))) := by unfold tRel listT; rw [costT_app, costT_num, costT_num]
          have hnl := len_cost cost_nd6 nds
          rw [htc] at hC
          have HNL : Aside0 (nds.length ≤ 1000000000) := ⟨by omega⟩
          have HCR := Aside0.mk hCr
          have HU1 : Aside0 ((((s ++ tVer (a, b, cc, t)) ++ [.num lv]) ++ [.num (nds.length : Int)]) ++ nds.flatMap tNd ++ r2 ++ rest = us) := ⟨by rw [← hU, tRel, listT]; simp⟩
          have HC1 := Aside0.mk hC
          have hbx := below_alloc (Below.refl wr.heap.size wr) (Obj.cells #[.int .i64 a, .int .i64 b, .int .i64 cc, .string t, .int .i64 lv, .slice Aj nds.length cj] 125)
          have HR := Aside0.mk (heap_last wr (Obj.cells #[.int .i64 a, .int .i64 b, .int .i64 cc, .string t, .int .i64 lv, .slice Aj nds.length cj] 125))
          obtain ⟨br, hbr⟩ : ∃ br, wr.heap.size = br := ⟨_, rfl⟩
          have HNG2 : Aside0 (g < br) := ⟨by rw [← hbr]; exact HO.out.lt⟩
          have HK0 := Aside0.mk (HK.out.trans (Keeps.below (g := g) hbx))
          have HP0 := Aside0.mk ((hbx.block _ (blk_lt HP.out)).trans HP.out)
          have HS0 := Aside0.mk ((hbx.block _ (blk_lt HS.out)).trans HS.out)
          have K := Aside0.mk (W_version_T g s (a, b, cc, t) w0 _ (HO.out.below hbx) (HB.out.trans (hbx.mono HB.out.size)) (by omega))
          have HR := Aside0.mk (hbr ▸ HR.out)
          clear y0 y1 y2 y3 y4 y5 hle hCr ef ec hC hU htc hnl hr2 hbx HO HB HK HP HS HC HU
          go_wp2_with (fail)
          refine K.out.mono ?_
          rintro e w4 ⟨rfl, ho, hb, hk⟩
          have HR4 := Aside0.mk (box_keep HR.out hk (by have := HNG2.out; omega) (by decide))
          have HS4 := Aside0.mk (box_keep HS0.out hk (by have := HNG.out; omega) (by decide))
          have HP4 := Aside0.mk (box_keep HP0.out hk HNE.out (by decide))
          have HK4 := Aside0.mk (HK0.out.trans hk)
          have hr4 := (blk_cell HR4.out) 4
          have K' := Aside0.mk (W_num_T g _ lv w0 w4 ho hb (by rw [costT_app]; have := HC1.out; omega))
          clear K ho hb hk HP0 HK0 HS0 hs1 hx0 hx1 hx2 hx3 hx4 hx5 e2
          go_wp2_with (fail)
          refine K'.out.mono ?_
          rintro e w5 ⟨rfl, ho, hb, hk⟩
          have HR5 := Aside0.mk (box_keep HR4.out hk (by have := HNG2.out; omega) (by decide))
          have HS5 := Aside0.mk (box_keep HS4.out hk (by have := HNG.out; omega) (by decide))
          have HP5 := Aside0.mk (box_keep HP4.out hk HNE.out (by decide))
          have HK5 := Aside0.mk (HK4.out.trans hk)
          have hr5 := (blk_cell HR5.out) 5
          have K := Aside0.mk (W_num_T g _ (nds.length : Int) w0 w5 ho hb (by rw [costT_app, costT_app, costT_num, costT_nil]; have := HC1.out; omega))
          clear K' ho hb hk HP4 HK4 HS4 HR4 hr4
          go_wp2_with (fail)
          refine K.out.mono ?_
          rintro e w6 ⟨rfl, ho, hb, hk⟩
          have HR6 := Aside0.mk (box_keep HR5.out hk (by have := HNG2.out; omega) (by decide))
          have HS6 := Aside0.mk (box_keep HS5.out hk (by have := HNG.out; omega) (by decide))
          have HP6 := Aside0.mk (box_keep HP5.out hk HNE.out (by decide))
          have HK6 := Aside0.mk (HK5.out.trans hk)
          have HO6 := Aside0.mk ho
          have HB6 := Aside0.mk hb
          have HC6 : Aside0 (costT (((s ++ tVer (a, b, cc, t)) ++ [.num lv]) ++ [.num (nds.length : Int)]) + costT (nds.flatMap tNd) + costT r2 + costT rest ≤ 1000000000) := ⟨by rw [costT_app, costT_app, costT_app, costT_num, costT_num, costT_nil]; have := HC1.out; omega⟩
          clear K ho hb hk HP5 HK5 HS5 HR5 hr5 HC1 HR
          generalize ((s ++ tVer (a, b, cc, t)) ++ [.num lv]) ++ [.num (nds.length : Int)] = s3 at HU1 HC6 HO6
          obtain ⟨go2, hgo⟩ : ∃ go2 : Nat, go2 = gk := ⟨_, rfl⟩
          subst hgo
          clear hbr
          go_wp2
          go_loopg [8] nds.length (fun kq v8 w' => ∃ (k : Nat) (s : List Tok), v8 = .int .i64 (k : Int) ∧ Aside0 (k + kq = nds.length) ∧ Aside0 (costT s + costT ((nds.drop k).flatMap tNd) + costT r2 + costT rest ≤ 1000000000) ∧ Aside0 (s ++ (nds.drop k).flatMap tNd ++ r2 ++ rest = us) ∧ Aside0 (OT 27 w0 w' g s) ∧ Aside0 (Below w0.heap.size w0 w') ∧ Aside0 (Keeps w w' g) ∧ Aside0 (w'.heap[w.heap.size]? = some (.cells #[.slice (some ad) x.length c] 64 (0, 0))) ∧ Aside0 (w'.heap[bs]? = some (.cells #[.string nm, .slice (some ad2) rels.length ci] 116 (0, 0))) ∧ Aside0 (w'.heap[br]? = some (.cells #[.int .i64 a, .int .i64 b, .int .i64 cc, .string t, .int .i64 lv, .slice Aj nds.length cj] 125 (0, 0))))
          case atStart => exact ⟨0, s3, rfl, ⟨by omega⟩, ⟨by rw [List.drop_zero]; exact HC6.out⟩, ⟨by rw [List.drop_zero]; exact HU1.out⟩, HO6, HB6, HK6, HP6, HS6, HR6⟩
          case round =>
            clear HO6 HB6 HK6 HP6 HS6 HR6 HC6 HU1
            obtain ⟨k, s, rfl, HJ3, HC, HU, HO, HB, HK, HP, HS, HR⟩ := hrel
            have hr5 := (blk_cell HR.out) 5
            by_cases c3 : k < nds.length
            · have e3 : decide (k < nds.length) = true := decide_eq_true c3
              have HE53 : Aside0 (wrap64 ((k : Int) + 1) = ((k + 1 : Nat) : Int)) := ⟨by have := HNL.out; unfold wrap64; omega⟩
              have HI3 := Aside0.mk c3
              obtain ⟨ad3, Ak, ck, ea3, y0, y1, hle, hCn⟩ := at_ndR HCR.out k c3
              cases ea3
              have hx0 := pw_cell_below HB.out y0
              have HY1 := Aside0.mk y1
              obtain ⟨ef, ec⟩ := flat_split (f := tNd) nds k c3 zNd
              have hC := HC.out
              have hU := HU.out
              rw [ec] at hC
              rw [ef] at hU
              generalize nds.getD k zNd = nd at hx0 hle hCn hC hU HY1
              obtain ⟨sv, rg⟩ := nd
              dsimp only at hx0 hle hCn HY1
              have HCN := Aside0.mk hCn
              obtain ⟨r3, hr3⟩ : ∃ r3, (nds.drop (k + 1)).flatMap tNd = r3 := ⟨_, rfl⟩
              have HR3 := Aside0.mk hr3
              rw [hr3] at hC hU
              have htc : costT (tNd (sv, rg)) = 6 + costT (tRng rg) := by unfold tNd; rw [costT_num]
              rw [htc] at hC
              have HC1 := Aside0.mk hC
              have HU1 : Aside0 (((s ++ [.num sv]) ++ tRng rg) ++ r3 ++ r2 ++ rest = us) := ⟨by rw [← hU, tNd]; simp⟩
              have K := Aside0.mk (W_num_T g s sv w0 wr HO.out HB.out (by omega))
              clear y0 y1 hle hCn ef ec hC hU hr3 htc HC HU
              go_wp2_with (fail)
              refine K.out.mono ?_
              rintro e w7 ⟨rfl, ho, hb, hk⟩
              have HR7 := Aside0.mk (box_keep HR.out hk (by have := HNG2.out; omega) (by decide))
              have HS7 := Aside0.mk (box_keep HS.out hk (by have := HNG.out; omega) (by decide))
              have HP7 := Aside0.mk (box_keep HP.out hk HNE.out (by decide))
              have HK7 := Aside0.mk (HK.out.trans hk)
              clear hr5 hx0
              have hr5 := (blk_cell HR7.out) 5
              have hx1 := pw_cell_below hb HY1.out
              have K' := Aside0.mk (W_ranged_T g _ rg Ak ck w0 w7 ho hb HCN.out (by rw [costT_app, costT_num, costT_nil]; have := HC1.out; omega))
              clear K ho hb hk HR HS HP HK HO HB
              go_wp2_with (fail)
              refine K'.out.mono ?_
              rintro e w8 ⟨rfl, ho, hb, hk⟩
              have HR8 := Aside0.mk (box_keep HR7.out hk (by have := HNG2.out; omega) (by decide))
              have HS8 := Aside0.mk (box_keep HS7.out hk (by have := HNG.out; omega) (by decide))
              have HP8 := Aside0.mk (box_keep HP7.out hk HNE.out (by decide))
              have HK8 := Aside0.mk (HK7.out.trans hk)
              have HO8 := Aside0.mk ho
              have HB8 := Aside0.mk hb
              clear K' ho hb hk hr5 hx1 e3
              go_wp2
              go_roundg (gk - 1)
              case measure => have := HJ3.out; have := HI3.out; omega
              case rel => exact ⟨k + 1, (s ++ [.num sv]) ++ tRng rg, (by first | exact congrArg _ HE53.out | rfl), ⟨by have := HJ3.out; have := HI3.out; omega⟩, ⟨by rw [HR3.out, costT_app, costT_app, costT_num, costT_nil]; have := HC1.out; omega⟩, ⟨by rw [HR3.out]; exact HU1.out⟩, HO8, HB8, HK8, HP8, HS8, HR8⟩
            · have e3 : decide (k < nds.length) = false := decide_eq_false c3
              have hC := HC.out
              have hU := HU.out
              rw [List.drop_eq_nil_of_le (by omega), List.flatMap_nil, List.append_nil] at hU
              rw [List.drop_eq_nil_of_le (by omega), List.flatMap_nil, costT_nil, Nat.add_zero] at hC
              have HC4 := Aside0.mk hC
              have HU4 := Aside0.mk hU
              clear hC hU
              go_wp2
              go_roundg (go2 - 1)
              case measure => have := HJ2.out; have := HI2.out; omega
              case rel => exact ⟨j + 1, s, (by first | exact congrArg _ HE52.out | rfl), ⟨by have := HJ2.out; have := HI2.out; omega⟩, ⟨by rw [HR2.out]; exact HC4.out⟩, ⟨by rw [HR2.out]; exact HU4.out⟩, HO, HB, HK, HP, HS⟩
        · have e2 : decide (j < rels.length) = false := decide_eq_false c2
          have hC := HC.out
          have hU := HU.out
          rw [List.drop_eq_nil_of_le (by omega), List.flatMap_nil, List.append_nil] at hU
          rw [List.drop_eq_nil_of_le (by omega), List.flatMap_nil, costT_nil, Nat.add_zero] at hC
          have HC4 := Aside0.mk hC
          have HU4 := Aside0.mk hU
          clear hC hU
          go_wp2
          go_roundg (go - 1)
          case measure => have := HJ.out; have := HI.out; omega
          case rel => exact ⟨i + 1, s, (by first | exact congrArg _ HE5.out | rfl), ⟨by have := HJ.out; have := HI.out; omega⟩, ⟨by rw [HREST.out]; exact HC4.out⟩, ⟨by rw [HREST.out]; exact HU4.out⟩, HO, HB, HK, HP⟩
    · have e1 : decide (i < x.length) = false := decide_eq_false c1
      have hU := HU.out
      rw [List.drop_eq_nil_of_le (by omega), List.flatMap_nil, List.append_nil] at hU
      subst hU
      go_wp2
      go_end0
      exact ⟨rfl, HO.out, HB.out, HK.out⟩
end Go.Proofs.Ythefbeekcjchcaa.P
