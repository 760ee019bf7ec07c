import Derived.Test.YthefbeekcjchcaaPutPlan
import Derived.Test.YthefbeekcjchcaaWEqStruct
import Derived.RegionTactic
namespace Go.Proofs.Ythefbeekcjchcaa.P
open Go Go.RowKit Go.Proofs.YthefbeekcjchcaaW.PrintWords Go.Proofs.YthefbeekcjchcaaW.PrintLast Go.Proofs.YthefbeekcjchcaaW.PrintMore
set_option linter.unusedVariables false
set_option linter.unusedSimpArgs false
theorem cost_text (s : ByteArray) : costT (tText s) = 6 + s.size := by
  unfold tText rawT
  rw [costT_num, costT_raw, costT_nil, bytesOf_length]
  omega
theorem OT.rawput {T : TypeId} {w0 w1 : World} {g : Nat} {bs : List Int} {bad : Bool} {ts : List Tok} {v : Value} {l : List Int} (hs : Says ts (bs, bad)) (hv : ∃ v0, w1.heap[g]? = some (.cells #[v0, .bool bad] T (0, 0))) (hg : w0.heap.size ≤ g) (hR : Kd.R (Kd.int .u8) 5 w1 w0.heap.size (fun k => k ≠ g) v (bs ++ l)) : OT T w0 (w1.setCell ⟨g, 0, none⟩ v) g (ts ++ [.raw l]) := by
  obtain ⟨v0, h⟩ := hv
  exact ⟨_, _, OW.put h hg hR, hs.raw l⟩
set_option maxHeartbeats 4000000 in
set_option maxRecDepth 20000 in
theorem out_text_T (g : Nat) (ts : List Tok) (s : ByteArray) (w0 w : World) (hO : OT 94 w0 w g ts) (hB : Below w0.heap.size w0 w) (hc : costT ts + costT (tText s) ≤ 1000000000) :
    Calls Try.prog 57 #[.pointer (some ⟨g, 0, none⟩), .string s] w (Wrote 94 w0 w g (ts ++ tText s)) := by
  rw [cost_text] at hc
  have hbx := below_alloc (Below.refl w.heap.size w) (Obj.cells #[.int .i64 (s.size : Int)] 3)
  have K := Aside0.mk (out_num_T g ts w.heap.size _ [(s.size : Int)] w0 _ (hO.below hbx) (below_alloc hB _) (lit_R w w.heap.size (Nat.le_refl _) (s.size : Int)) (by simp; omega))
  have HK0 := Aside0.mk (Keeps.below (g := g) hbx)
  have HC := Aside0.mk hc
  have HE : Aside0 (ts ++ tText s = ts ++ [Tok.num (s.size : Int)] ++ [Tok.raw (bytesOf s)]) := ⟨by rw [tText, rawT, bytesOf_length]; simp⟩
  rw [HE.out]
  simp only [List.map_cons, List.map_nil] at K
  have HC1 : Aside0 (costT (ts ++ [Tok.num (s.size : Int)]) + s.size ≤ 1000000000) := ⟨by rw [costT_app, costT_num, costT_nil]; omega⟩
  generalize ts ++ [Tok.num (s.size : Int)] = us at *
  clear hO hB hc hbx HE HC
  go_enter Try.func57, Try.ntmps57
  go_wp2_with (fail)
  refine K.out.mono ?_
  rintro e w1 ⟨rfl, ⟨bs, bad, ⟨v, hg, hg0, hR⟩, hsay⟩, hb, hk⟩
  have HG := Aside0.mk hg
  have HG0 := Aside0.mk hg0
  have HR := Aside0.mk hR
  have HS := Aside0.mk hsay
  have HB := Aside0.mk hb
  have HK := Aside0.mk (HK0.out.trans hk)
  have HLEN : Aside0 (bs.length + s.size ≤ 1000000000) := ⟨by have := hsay.2.2; have := HC1.out; dsimp only at *; omega⟩
  have hc0 := (blk_cell hg) 0
  clear hg hg0 hR hsay hb hk K HK0
  go_wp2_with ((with_reducible refine gate_builtin (b := .append) (xs := #[.tmp 13, .tmp 14]) rfl ?_); at_builtin; go_must (refine print_append_str (w0 := w0) w0.heap.size rfl (.tmp 13) (.tmp 14) 25 9 5 rfl Try.underlying25 Try.underlying9 infoB5 v bs s rfl rfl (Kd.own_of_R HR.out) HB.out (below_size HB.out) (by have := HLEN.out; omega) ?_; intro v1 w2 hown hb2 hgr; have HG2 := Aside0.mk ((hgr.block g (blk_lt HG.out) (Kd.R_away HR.out (fun k hk => hk))).trans HG.out); have HR2 := Aside0.mk (Kd.R_of_own (enc := Value.int .u8) (h1 := fun _ => rfl) (ok := fun k => k ≠ g) hown (fun k hk e => by obtain ⟨cs, hc⟩ := own_typed hown k hk; subst e; rw [HG2.out] at hc; cases hc)); obtain ⟨A2, c2, rfl⟩ := Kd.R_slice HR2.out; have HB2 := Aside0.mk hb2; have HK2 := Aside0.mk (HK.out.trans (Keeps.grown HR.out hgr)); have hc2 := (blk_cell HG2.out) 0; have hz2 := free_of HG2.out 0; clear hown hb2 hgr))
  go_end0
  have HR3 := HR2.out
  rw [List.length_append] at HR3
  exact ⟨rfl, OT.rawput HS.out ⟨_, HG2.out⟩ HG0.out HR3, HB2.out.setCell (p := ⟨g, 0, none⟩) HG0.out _, HK2.out.trans (Keeps.set 0 _)⟩
def verCells (v : Ver) : Array Value := #[.int .i64 v.1, .int .i64 v.2.1, .int .i64 v.2.2.1, .string v.2.2.2]
theorem cost_ver (v : Ver) : costT (tVer v) = 18 + costT (tText v.2.2.2) := by
  unfold tVer
  rw [costT_num, costT_num, costT_num]
  omega
set_option maxHeartbeats 4000000 in
set_option maxRecDepth 20000 in
theorem out_version_T (g : Nat) (ts : List Tok) (v : Ver) (w0 w : World) (hO : OT 94 w0 w g ts) (hB : Below w0.heap.size w0 w) (hc : costT ts + costT (tVer v) ≤ 1000000000) :
    Calls Try.prog 60 #[.pointer (some ⟨g, 0, none⟩), .agg #[.int .i64 v.1, .int .i64 v.2.1, .int .i64 v.2.2.1, .string v.2.2.2]] w (Wrote 94 w0 w g (ts ++ tVer v)) := by
  obtain ⟨a, b, c, s⟩ := v
  dsimp only
  have hb1 := below_alloc (Below.refl w.heap.size w) (Obj.cells #[.int .i64 a, .int .i64 b, .int .i64 c, .string s] 118)
  have hb2 := below_alloc hb1 (Obj.cells #[.int .i64 a, .int .i64 b, .int .i64 c] 3)
  have hbox : ((w.alloc (.cells #[.int .i64 a, .int .i64 b, .int .i64 c, .string s] 118)).alloc (.cells #[.int .i64 a, .int .i64 b, .int .i64 c] 3)).heap[w.heap.size]? = some (.cells #[.int .i64 a, .int .i64 b, .int .i64 c, .string s] 118 (0, 0)) := ((below_alloc (Below.refl _ (w.alloc (.cells #[.int .i64 a, .int .i64 b, .int .i64 c, .string s] 118))) _).block _ (by rw [World.size_alloc]; omega)).trans (heap_last w _)
  have hcost := cost_ver (a, b, c, s)
  dsimp only at hcost
  have HK := Aside0.mk (Keeps.below (g := g) hb2)
  have HL := lits_R (w.alloc (.cells #[.int .i64 a, .int .i64 b, .int .i64 c, .string s] 118)) 0 (Nat.zero_le _) [a, b, c] (by simp)
  rw [World.size_alloc] at HL
  have K := Aside0.mk (out_num_T g ts 0 (.slice (some ⟨w.heap.size + 1, 0, none⟩) 3 3) [a, b, c] w0 _ (hO.below hb2) (below_alloc (below_alloc hB _) _) HL (by simp; omega))
  have HT : Aside0 (ts ++ tVer (a, b, c, s) = ts ++ List.map Tok.num [a, b, c] ++ tText s) := ⟨by simp [tVer]⟩
  rw [HT.out]
  have HC : Aside0 (costT (ts ++ List.map Tok.num [a, b, c]) + costT (tText s) ≤ 1000000000) := ⟨by rw [costT_app, costT_map]; simp only [List.length_cons, List.length_nil]; omega⟩
  have HNE : Aside0 (w.heap.size ≠ g) := ⟨by have := hO.lt; omega⟩
  have hs0 := (heap_last w (Obj.cells #[.int .i64 a, .int .i64 b, .int .i64 c, .string s] 118))
  have hq0 := (blk_cell hs0) 0
  have hq1 := (blk_cell hs0) 1
  have hq2 := (blk_cell hs0) 2
  have HBOX := Aside0.mk hbox
  generalize ts ++ List.map Tok.num [a, b, c] = us at K HC ⊢
  clear hO hB hc hcost hb1 hb2 hbox HL hs0 HT
  go_enter Try.func60, Try.ntmps60
  go_wp2_with (fail)
  refine K.out.mono ?_
  rintro e w1 ⟨rfl, ho, hb, hk⟩
  have K1 := Aside0.mk (out_text_T g us s w0 w1 ho hb HC.out)
  have HK1 := Aside0.mk (HK.out.trans hk)
  have hq3 := (blk_cell (box_keep HBOX.out hk HNE.out (by decide))) 3
  clear ho hb hk K hq0 hq1 hq2
  go_wp2_with (fail)
  refine K1.out.mono ?_
  rintro e w2 ⟨rfl, ho, hb, hk⟩
  have HO := Aside0.mk ho
  have HB := Aside0.mk hb
  have HK2 := Aside0.mk (HK1.out.trans hk)
  clear ho hb hk K1
  go_wp2
  go_end0
  exact ⟨rfl, HO.out, HB.out, HK2.out⟩
abbrev kCmp : Kd Cmp := Kd.pair (Kd.int .i64) (Kd.pair (Kd.int .i64) (Kd.pair (Kd.int .i64) (Kd.pair (Kd.int .i64) Kd.string)))
theorem OW.sets {T : TypeId} {w0 w : World} {g : Nat} {bs : List Int} {bad : Bool} (h : OW T w0 w g bs bad) (x : Bool) : OW T w0 (w.setCell ⟨g, 1, none⟩ (.bool x)) g bs x := by
  obtain ⟨v, h, hg, hR⟩ := h
  refine ⟨v, ?_, hg, Kd.R_far hR (fun k hk => hk) _⟩
  obtain ⟨hlt, hv⟩ := Array.getElem?_eq_some_iff.1 h
  simp [World.setCell, Array.getElem?_modify, h]
theorem OT.sets {T : TypeId} {w0 w : World} {g : Nat} {bs : List Int} {bad : Bool} {us : List Tok} (h : OW T w0 w g bs bad) (x : Bool) (hs : Says us (bs, x)) : OT T w0 (w.setCell ⟨g, 1, none⟩ (.bool x)) g us := ⟨bs, x, h.sets x, hs⟩
theorem eqA_ver (d : Nat) (w : World) (x0 y0 : Int) (x1 y1 : Int) (x2 y2 : Int) (x3 y3 : ByteArray) :
    (Op.equalIn (d + 2) 118 (.agg #[.int .i64 x0, .int .i64 x1, .int .i64 x2, .string x3]) (.agg #[.int .i64 y0, .int .i64 y1, .int .i64 y2, .string y3])).run Try.prog w = .ok (x0 == y0 && (x1 == y1 && (x2 == y2 && (x3.toList == y3.toList)))) w := by
  refine eqA_of Try.underlying118 (by kernel_rfl) ?_
  refine eqf_cons (by rfl) (by go_simp; rfl) (by go_simp; rfl) (by go_simp) ?_
  refine eqf_cons (by rfl) (by go_simp; rfl) (by go_simp; rfl) (by go_simp) ?_
  refine eqf_cons (by rfl) (by go_simp; rfl) (by go_simp; rfl) (by go_simp) ?_
  exact eqf_last (by rfl) (by go_simp; rfl) (by go_simp; rfl) (by go_simp)
theorem eqA_cmp (d : Nat) (w : World) (x0 y0 : Int) (x1 y1 : Int) (x2 y2 : Int) (x3 y3 : Int) (x4 y4 : ByteArray) :
    (Op.equalIn (d + 3) 177 (.agg #[.int .i64 x0, .int .i64 x1, .int .i64 x2, .int .i64 x3, .string x4]) (.agg #[.int .i64 y0, .int .i64 y1, .int .i64 y2, .int .i64 y3, .string y4])).run Try.prog w = .ok (x0 == y0 && ((x1 == y1 && (x2 == y2 && (x3 == y3 && (x4.toList == y4.toList)))))) w := by
  refine eqA_of Try.underlying177 (by kernel_rfl) ?_
  refine eqf_cons (by rfl) (by go_simp; rfl) (by go_simp; rfl) (by go_simp) ?_
  exact eqf_last (by rfl) (by go_simp) (by go_simp) (eqA_ver (d + 0) w _ _ _ _ _ _ _ _)
attribute [local go_sem high] eqA_cmp
theorem box_lit (w : World) (B C : Obj) : ((w.alloc B).alloc C).heap[w.heap.size]? = some B := ((below_alloc (Below.refl _ (w.alloc B)) C).block w.heap.size (by rw [World.size_alloc]; omega)).trans (heap_last w B)
theorem str_empty (s : ByteArray) : s.toList.isEmpty = decide (s = ByteArray.empty) := by
  rw [ByteArray.toList_eq]
  by_cases h : s = ByteArray.empty
  · subst h; rfl
  · rw [decide_eq_false h]
    cases hd : s.data.toList with
    | nil =>
      exfalso
      apply h
      apply ByteArray.ext
      apply Array.ext'
      rw [hd]
      rfl
    | cons x xs => rfl
theorem cmp_bool (a b c : Int) (s : ByteArray) : (!(a == 0) || (!(b == 0) || (!(c == 0) || !s.toList.isEmpty))) = !decide ((a, b, c, s) = noVer) := by
  rw [str_empty]
  unfold noVer
  by_cases h1 : a = 0
  · by_cases h2 : b = 0
    · by_cases h3 : c = 0
      · by_cases h4 : s = ByteArray.empty
        · subst h1 h2 h3 h4; rfl
        · simp [h1, h2, h3, h4]
      · simp [h1, h2, h3]
    · simp [h1, h2]
  · simp [h1]
set_option maxHeartbeats 8000000 in
set_option maxRecDepth 20000 in
theorem cmp1_T (g gb : Nat) (ts : List Tok) (x : Cmp) (w0 w : World) (hO : OT 94 w0 w g ts) (hX : BX w gb g) (hB : Below w0.heap.size w0 w) (hc : costT ts + costT (tCmp x) ≤ 1000000000) :
    Calls Try.prog 95 #[.agg #[.int .i64 x.1, .int .i64 x.2.1, .int .i64 x.2.2.1, .int .i64 x.2.2.2.1, .string x.2.2.2.2], .pointer (some ⟨gb, 0, none⟩)] w (Wrote 94 w0 w g (ts ++ tCmp x)) := by
  obtain ⟨op, a, b, c, s⟩ := x
  dsimp only
  have hct : costT (tCmp (op, a, b, c, s)) = 6 + costT (if op = 0 then (if (a, b, c, s) = noVer then [] else [.bad]) else tVer (a, b, c, s)) := costT_num _ _
  obtain ⟨BX0, hBX0⟩ : ∃ o, o = Obj.cells #[.int .i64 op, .int .i64 a, .int .i64 b, .int .i64 c, .string s] 177 := ⟨_, rfl⟩
  have hb1 := below_alloc (Below.refl w.heap.size w) BX0
  have hb2 := below_alloc hb1 (Obj.cells #[.int .i64 op] 3)
  have hs0 := heap_last w BX0
  have hbox := box_lit w BX0 (Obj.cells #[.int .i64 op] 3)
  have hL := lit_R (w.alloc BX0) 0 (Nat.zero_le _) op
  rw [World.size_alloc] at hL
  have K := Aside0.mk (out_num_T g ts 0 _ [op] w0 _ (hO.below hb2) (below_alloc (below_alloc hB _) _) hL (by simp; omega))
  have HK0 := Aside0.mk (Keeps.below (g := g) hb2)
  have HNE : Aside0 (w.heap.size ≠ g) := ⟨by have := hO.lt; omega⟩
  have hx0 := (blk_cell (hX.below hb1).1) 0
  have HX := Aside0.mk (hX.below hb2)
  subst hBX0
  have HBOX := Aside0.mk hbox
  have hq0 := (blk_cell hs0) 0
  simp only [List.map_cons, List.map_nil] at K
  by_cases hop : op = 0
  · subst hop
    rw [if_pos rfl] at hct
    obtain ⟨vs, hvs⟩ : ∃ vs, ts ++ [Tok.num 0] ++ (if (a, b, c, s) = noVer then [] else [.bad]) = vs := ⟨_, rfl⟩
    have hT : ts ++ tCmp (0, a, b, c, s) = vs := by rw [← hvs]; simp [tCmp]
    rw [hT]
    generalize ts ++ [Tok.num 0] = us at K hvs
    have HVS := Aside0.mk hvs
    clear hO hX hB hc hb1 hb2 hs0 hbox hL hct hT hvs
    go_enter Try.func95, Try.ntmps95
    go_wp2_with (fail)
    refine K.out.mono ?_
    rintro e w1 ⟨rfl, ho, hb, hk⟩
    obtain ⟨bs, bad, hOW, hsay⟩ := ho
    have HOW := Aside0.mk hOW
    have HSAY := Aside0.mk hsay
    have HB := Aside0.mk hb
    have HG0 : Aside0 (w0.heap.size ≤ g) := ⟨by obtain ⟨v, _, h, _⟩ := hOW; exact h⟩
    have HK := Aside0.mk (HK0.out.trans hk)
    have hbx := box_keep HBOX.out hk HNE.out (by decide)
    have hxk := HX.out.keep hk
    clear hx0 hq0
    have hx0 := (blk_cell hxk.1) 0
    have hq0 := (blk_cell hbx) 0
    have hq1 := (blk_cell hbx) 1
    have hq2 := (blk_cell hbx) 2
    have hq3 := (blk_cell hbx) 3
    have hq4 := (blk_cell hbx) 4
    have hz := hOW.free 1
    obtain ⟨v0, hg, _, _⟩ := hOW
    have hg1 := (blk_cell hg) 1
    clear hsay hb hk hbx hxk hg K HX HBOX HK0
    cases bad with
    | true =>
      go_wp2
      go_region
      all_goals
        go_wp2
        go_end0
        refine ⟨rfl, OT.sets (HOW.out.below (below_drew (Below.refl _ _))) _ ?_, (below_drew HB.out).setCell (p := ⟨g, 1, none⟩) HG0.out _, (HK.out.trans (Keeps.below (below_drew (Below.refl _ _)))).trans (Keeps.set 1 _)⟩
        rw [← HVS.out]
        by_cases hv : (a, b, c, s) = noVer
        · rw [if_pos hv, List.append_nil]; exact HSAY.out
        · rw [if_neg hv]; exact HSAY.out.bad
    | false =>
      go_wp2
      go_region
      all_goals
        go_wp2
        go_end0
        refine ⟨rfl, OT.sets (HOW.out.below (below_drew (Below.refl _ _))) _ ?_, (below_drew HB.out).setCell (p := ⟨g, 1, none⟩) HG0.out _, (HK.out.trans (Keeps.below (below_drew (Below.refl _ _)))).trans (Keeps.set 1 _)⟩
        rw [← HVS.out]
        by_cases hv : (a, b, c, s) = noVer
        · have hb := cmp_bool a b c s
          rw [decide_eq_true hv] at hb
          rw [if_pos hv, List.append_nil]
          first | (rw [hb]; exact HSAY.out) | (have := HSAY.out; simpa [hb] using this)
        · have hb := cmp_bool a b c s
          rw [decide_eq_false hv] at hb
          rw [if_neg hv]
          first | (rw [hb]; exact HSAY.out.bad) | (have := HSAY.out.bad; simpa [hb] using this)
  · rw [if_neg hop] at hct
    have z0 : (op == 0) = false := beq_eq_false_iff_ne.2 hop
    have z1 : (op != 0) = true := bne_iff_ne.2 hop
    have hT : ts ++ tCmp (op, a, b, c, s) = (ts ++ [Tok.num op]) ++ tVer (a, b, c, s) := by simp [tCmp, hop]
    rw [hT]
    have HC : Aside0 (costT (ts ++ [Tok.num op]) + costT (tVer (a, b, c, s)) ≤ 1000000000) := ⟨by rw [costT_app, costT_num, costT_nil]; omega⟩
    generalize ts ++ [Tok.num op] = us at K HC ⊢
    clear hO hX hB hc hb1 hb2 hs0 hbox hL hct hT hop
    go_enter Try.func95, Try.ntmps95
    go_wp2_with (fail)
    refine K.out.mono ?_
    rintro e w1 ⟨rfl, ho, hb, hk⟩
    have HK1 := Aside0.mk (HK0.out.trans hk)
    have HBOX1 := Aside0.mk (box_keep HBOX.out hk HNE.out (by decide))
    have HX1 := Aside0.mk (HX.out.keep hk)
    have K1 := Aside0.mk (out_version_T g us (a, b, c, s) w0 w1 ho hb HC.out)
    have hbx := HBOX1.out
    have hxk := HX1.out
    clear hx0 hq0
    have hx0 := (blk_cell hxk.1) 0
    have hq0 := (blk_cell hbx) 0
    have hq1 := (blk_cell hbx) 1
    have hq2 := (blk_cell hbx) 2
    have hq3 := (blk_cell hbx) 3
    have hq4 := (blk_cell hbx) 4
    clear ho hb hk hbx hxk K HX HBOX HK0
    go_wp2_with (fail)
    refine K1.out.mono ?_
    rintro e w2 ⟨rfl, ho, hb, hk⟩
    obtain ⟨bs, bad, hOW, hsay⟩ := ho
    have HOW := Aside0.mk hOW
    have HSAY := Aside0.mk hsay
    have HB := Aside0.mk hb
    have HG0 : Aside0 (w0.heap.size ≤ g) := ⟨by obtain ⟨v, _, h, _⟩ := hOW; exact h⟩
    have HK := Aside0.mk (HK1.out.trans hk)
    have hbx := box_keep HBOX1.out hk HNE.out (by decide)
    have hxk := HX1.out.keep hk
    clear hx0 hq0 hq1 hq2 hq3 hq4
    have hx0 := (blk_cell hxk.1) 0
    have hq0 := (blk_cell hbx) 0
    have hq1 := (blk_cell hbx) 1
    have hq2 := (blk_cell hbx) 2
    have hq3 := (blk_cell hbx) 3
    have hq4 := (blk_cell hbx) 4
    have hz := hOW.free 1
    obtain ⟨v0, hg, _, _⟩ := hOW
    have hg1 := (blk_cell hg) 1
    clear hsay hb hk hbx hxk hg K1 HX1 HBOX1 HK1
    cases bad with
    | true =>
      go_wp2
      go_region
      all_goals
        go_wp2
        go_end0
        exact ⟨rfl, OT.sets (HOW.out.below (below_drew (Below.refl _ _))) _ HSAY.out, (below_drew HB.out).setCell (p := ⟨g, 1, none⟩) HG0.out _, (HK.out.trans (Keeps.below (below_drew (Below.refl _ _)))).trans (Keeps.set 1 _)⟩
    | false =>
      go_wp2
      go_region
      all_goals
        go_wp2
        go_end0
        exact ⟨rfl, OT.sets (HOW.out.below (below_drew (Below.refl _ _))) _ HSAY.out, (below_drew HB.out).setCell (p := ⟨g, 1, none⟩) HG0.out _, (HK.out.trans (Keeps.below (below_drew (Below.refl _ _)))).trans (Keeps.set 1 _)⟩
end Go.Proofs.Ythefbeekcjchcaa.P
