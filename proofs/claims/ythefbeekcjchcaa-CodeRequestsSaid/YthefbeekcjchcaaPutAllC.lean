import Derived.Test.YthefbeekcjchcaaPutReq
namespace Go.Proofs.Ythefbeekcjchcaa.P
open Go Go.RowKit Go.Proofs.YthefbeekcjchcaaW.PrintWords Go.Proofs.YthefbeekcjchcaaW.PrintLast Go.Proofs.YthefbeekcjchcaaW.PrintMore
set_option linter.unusedVariables false
set_option linter.unusedSimpArgs false
theorem three_X (w : World) (B0 B1 : Obj) {g : Nat} (hg : g ≠ w.heap.size + 2) : BX (((w.alloc B0).alloc B1).alloc (.cells #[.pointer (some ⟨g, 0, none⟩)] 92)) (w.heap.size + 2) g := ⟨by
  have := heap_last ((w.alloc B0).alloc B1) (.cells #[.pointer (some ⟨g, 0, none⟩)] 92)
  rwa [World.size_alloc, World.size_alloc] at this, by omega⟩
theorem three_P (w : World) (B0 B1 B2 : Obj) : (((w.alloc B0).alloc B1).alloc B2).heap[w.heap.size]? = some B0 := by
  have e := heap_last w B0
  exact ((below_alloc (below_alloc (Below.refl _ (w.alloc B0)) B1) B2).block _ (blk_lt e)).trans e
abbrev kVer : Kd Ver := Kd.pair (Kd.int .i64) (Kd.pair (Kd.int .i64) (Kd.pair (Kd.int .i64) Kd.string))
abbrev kRel : Kd Rel := Kd.pair kVer (Kd.pair (Kd.int .i64) (Kd.slice 130 kNd))
abbrev kSvc : Kd Svc := Kd.pair Kd.string (Kd.slice 121 kRel)
set_option maxHeartbeats 8000000 in
set_option maxRecDepth 20000 in
theorem rel1_T (g gb : Nat) (ts : List Tok) (x : Rel) (A : Option Addr) (c : Nat) (w0 w : World) (hO : OT 94 w0 w g ts) (hX : BX w gb g) (hB : Below w0.heap.size w0 w) (hr : Kd.C kNd w0 A x.2.2.length x.2.2) (hc : costT ts + costT (tRel x) ≤ 1000000000) :
    Calls Try.prog 59 #[.agg #[.int .i64 x.1.1, .int .i64 x.1.2.1, .int .i64 x.1.2.2.1, .string x.1.2.2.2, .int .i64 x.2.1, .slice A x.2.2.length c], .pointer (some ⟨gb, 0, none⟩)] w (Wrote 94 w0 w g (ts ++ tRel x)) := by
  have hmf : ∀ (fn : Fn) (first cap : Array Value) (w : World), (Instr.makeFunc fn first cap).run Try.prog w = .ok (.func fn first cap) w := fun _ _ _ _ => rfl
  obtain ⟨⟨a, b, d, s⟩, lv, l⟩ := x
  dsimp only at hr ⊢
  have hct : costT (tRel ((a, b, d, s), lv, l)) = costT (tVer (a, b, d, s)) + (6 + costT (listT tNd l)) := by rw [tRel, costT_app, costT_num]
  have hl := cost_len starts_nd l
  have he := cost_listT tNd l
  obtain ⟨BX0, hBX0⟩ : ∃ o, o = Obj.cells #[.int .i64 a, .int .i64 b, .int .i64 d, .string s, .int .i64 lv, .slice A l.length c] 121 := ⟨_, rfl⟩
  have hb1 := below_alloc (Below.refl w.heap.size w) BX0
  have hs0 := heap_last w BX0
  have K := Aside0.mk (out_version_T g ts (a, b, d, s) w0 _ (hO.below hb1) (below_alloc hB BX0) (by omega))
  have HK0 := Aside0.mk (Keeps.below (g := g) hb1)
  have HNE : Aside0 (w.heap.size ≠ g) := ⟨by have := hO.lt; omega⟩
  have hx0 := (blk_cell (hX.below hb1).1) 0
  have HX := Aside0.mk (hX.below hb1)
  have HR := Aside0.mk hr
  subst hBX0
  have HBOX := Aside0.mk hs0
  have hq0 := (blk_cell hs0) 0
  have hq1 := (blk_cell hs0) 1
  have hq2 := (blk_cell hs0) 2
  have hq3 := (blk_cell hs0) 3
  have hT : ts ++ tRel ((a, b, d, s), lv, l) = ((ts ++ tVer (a, b, d, s)) ++ [Tok.num lv]) ++ listT tNd l := by simp [tRel]
  rw [hT]
  have HC : Aside0 (costT (ts ++ tVer (a, b, d, s)) + 6 + costT (listT tNd l) ≤ 1000000000) := ⟨by rw [costT_app]; omega⟩
  have HL : Aside0 (l.length ≤ 1000000000) := ⟨by omega⟩
  generalize ts ++ tVer (a, b, d, s) = us at K HC ⊢
  dsimp only at K
  clear hO hX hB hc hb1 hs0 hct hT hr hl he
  go_enter Try.func59, Try.ntmps59
  go_wp2_with (fail)
  refine K.out.mono ?_
  rintro e w1 ⟨rfl, ho, hb, hk⟩
  have hbx := box_keep HBOX.out hk HNE.out (by decide)
  have hxk := HX.out.keep hk
  have hb1 := below_alloc (Below.refl w1.heap.size w1) (Obj.cells #[.int .i64 lv] 3)
  have K1 := Aside0.mk (out_num_T g us w1.heap.size _ [lv] w0 _ (ho.below hb1) (below_alloc hb _) (lit_R w1 w1.heap.size (Nat.le_refl _) lv) (by have := HC.out; simp; omega))
  simp only [List.map_cons, List.map_nil] at K1
  have HK1 := Aside0.mk ((HK0.out.trans hk).trans (Keeps.below (g := g) hb1))
  have HBOX1 := Aside0.mk ((hb1.block _ (blk_lt hbx)).trans hbx)
  have HX1 := Aside0.mk (hxk.below hb1)
  clear hx0 hq0 hq1 hq2 hq3
  have hx0 := (blk_cell hxk.1) 0
  have hq4 := (blk_cell hbx) 4
  clear ho hb hk K hbx hxk hb1 HX HBOX HK0
  go_wp2_with (fail)
  refine K1.out.mono ?_
  rintro e w2 ⟨rfl, ho, hb, hk⟩
  have hbx := box_keep HBOX1.out hk HNE.out (by decide)
  have hxk := HX1.out.keep hk
  have K2 := Aside0.mk (list_need_T g gb _ A c l w0 w2 ho hxk hb HR.out (by have := HC.out; rw [costT_app, costT_num, costT_nil]; omega) HL.out)
  have HK2 := Aside0.mk (HK1.out.trans hk)
  clear hx0 hq4
  have hx0 := (blk_cell hxk.1) 0
  have hq5 := (blk_cell hbx) 5
  clear ho hb hk K1 hbx hxk HX1 HBOX1 HK1
  go_wp2_with (fail)
  refine K2.out.mono ?_
  rintro e w3 ⟨rfl, ho, hb, hk⟩
  have HO := Aside0.mk ho
  have HB := Aside0.mk hb
  have HK := Aside0.mk (HK2.out.trans hk)
  clear ho hb hk K2
  go_wp2
  go_end0
  exact ⟨rfl, HO.out, HB.out, HK.out⟩
theorem costT_rel_ (l : List Rel) (i : Nat) (h : i < l.length) (z : Rel) : costT ((l.drop i).flatMap tRel) = costT (tRel (l.getD i z)) + costT ((l.drop (i + 1)).flatMap tRel) := by
  rw [List.drop_eq_getElem_cons h, List.flatMap_cons, costT_app, List.getD_eq_getElem?_getD, List.getElem?_eq_getElem h]
  rfl
theorem flat_rel_ (l : List Rel) (i : Nat) (h : i < l.length) (z : Rel) : (l.drop i).flatMap tRel = tRel (l.getD i z) ++ (l.drop (i + 1)).flatMap tRel := by
  rw [List.drop_eq_getElem_cons h, List.flatMap_cons, List.getD_eq_getElem?_getD, List.getElem?_eq_getElem h]
  rfl
set_option maxHeartbeats 4000000 in
set_option maxRecDepth 20000 in
theorem list_rel_T (g gb : Nat) (ts : List Tok) (A : Option Addr) (c : Nat) (l : List Rel) (w0 w : World) (hO : OT 94 w0 w g ts) (hX : BX w gb g) (hB : Below w0.heap.size w0 w) (hr : Kd.C kRel w0 A l.length l) (hc : costT ts + costT (listT tRel l) ≤ 1000000000) (hl : l.length ≤ 1000000000) :
    Calls Try.prog 58 #[.pointer (some ⟨g, 0, none⟩), .slice A l.length c, .func (.func 59) #[] #[.pointer (some ⟨gb, 0, none⟩)]] w (Wrote 94 w0 w g (ts ++ listT tRel l)) := by
  have HR := Aside0.mk hr
  have HLEN := Aside0.mk hl
  have HX := Aside0.mk hX
  have hce : costT (listT tRel l) = 6 + costT (l.flatMap tRel) := costT_num _ _
  have K := Aside0.mk (out_num_T g ts w.heap.size _ [(l.length : Int)] w0 _ (hO.below (below_alloc (Below.refl w.heap.size w) (Obj.cells #[.int .i64 (l.length : Int)] 3))) (below_alloc hB _) (lit_R w w.heap.size (Nat.le_refl _) (l.length : Int)) (by simp; omega))
  have HK0 := Aside0.mk (Keeps.below (g := g) (below_alloc (Below.refl w.heap.size w) (Obj.cells #[.int .i64 (l.length : Int)] 3)))
  obtain ⟨us, hus⟩ : ∃ us, ts ++ listT tRel l = us := ⟨_, rfl⟩
  have HN0 : Aside0 (costT (ts ++ [.num (l.length : Int)]) + costT ((l.drop 0).flatMap tRel) ≤ 1000000000) := ⟨by rw [costT_app, costT_num, costT_nil, List.drop_zero]; omega⟩
  have HP : Aside0 ((ts ++ [.num (l.length : Int)]) ++ (l.drop 0).flatMap tRel = us) := ⟨by rw [← hus, List.drop_zero, listT, List.append_assoc]; rfl⟩
  rw [hus]
  simp only [List.map_cons, List.map_nil] at K
  generalize ts ++ [.num (l.length : Int)] = s0 at K HN0 HP
  clear hO hB hr hc hl hX hce hus
  go_enter Try.func58, Try.ntmps58
  go_wp2_with (fail)
  refine K.out.mono ?_
  rintro e w1 ⟨rfl, ho, hb, hk⟩
  have HO := Aside0.mk ho
  have HB := Aside0.mk hb
  have HKP := Aside0.mk (HK0.out.trans hk)
  clear ho hb hk K
  go_wp2
  go_loopg [7, 15] l.length (fun kq v7 v15 w' => ∃ (i : Nat) (s : List Tok), v15 = .int .i64 (i : Int) ∧ Aside0 (i + kq = l.length) ∧ Aside0 (costT s + costT ((l.drop i).flatMap tRel) ≤ 1000000000) ∧ Aside0 (s ++ (l.drop i).flatMap tRel = us) ∧ Aside0 (OT 94 w0 w' g s) ∧ Aside0 (Below w0.heap.size w0 w') ∧ Aside0 (Keeps w w' g))
  case atStart => exact ⟨0, s0, rfl, ⟨by omega⟩, HN0, HP, HO, HB, HKP⟩
  case round =>
    clear HO HB HP HN0 HKP
    obtain ⟨i, s, rfl, HI, HN, HP, HO, HB, HKP⟩ := hrel
    by_cases c1 : i < l.length
    · have e1 : decide (i < l.length) = true := decide_eq_true c1
      have e5 : wrap64 ((i : Int) + 1) = ((i + 1 : Nat) : Int) := by have := HLEN.out; unfold wrap64; omega
      obtain ⟨ad, cs, ea, hcl, hK, hcc⟩ := Kd.C_get HR.out ((0, 0, 0, ByteArray.empty), 0, []) (i : Int) (by omega) (by omega)
      cases ea
      rw [Int.toNat_natCast] at hK hcc
      have hN := HN.out
      have hP := HP.out
      rw [costT_rel_ l i c1 ((0, 0, 0, ByteArray.empty), 0, [])] at hN
      rw [flat_rel_ l i c1 ((0, 0, 0, ByteArray.empty), 0, []), ← List.append_assoc] at hP
      generalize l.getD i ((0, 0, 0, ByteArray.empty), 0, []) = x at hK hN hP
      obtain ⟨⟨ra, rb, rc, rs⟩, lv, nd⟩ := x
      obtain ⟨z0, z1, rfl, ⟨z2, z3, rfl, y0, z4, z5, rfl, y1, z6, z7, rfl, y2, y3⟩, z8, z9, rfl, y4, ⟨Ae, ce, rfl, _, hCe⟩⟩ := hK
      cases y0
      cases y1
      cases y2
      cases y3
      cases y4
      have hx0 : wr.cell? (ad.add (i * 6)) = some (.int .i64 ra) := pw_cell_below HB.out (hcc 0 _ rfl)
      have hx1 : wr.cell? ⟨(ad.add (i * 6)).block, (ad.add (i * 6)).off + 1, none⟩ = some (.int .i64 rb) := (by have := (show w0.cell? (ad.add (i * 6 + 1)) = some (.int .i64 rb) from hcc 1 _ rfl); rw [show ad.add (i * 6 + 1) = (ad.add (i * 6)).add 1 from (Addr.add_add _ _ _).symm] at this; exact pw_cell_below HB.out this)
      have hx2 : wr.cell? ⟨(ad.add (i * 6)).block, (ad.add (i * 6)).off + 2, none⟩ = some (.int .i64 rc) := (by have := (show w0.cell? (ad.add (i * 6 + 2)) = some (.int .i64 rc) from hcc 2 _ rfl); rw [show ad.add (i * 6 + 2) = (ad.add (i * 6)).add 2 from (Addr.add_add _ _ _).symm] at this; exact pw_cell_below HB.out this)
      have hx3 : wr.cell? ⟨(ad.add (i * 6)).block, (ad.add (i * 6)).off + 3, none⟩ = some (.string rs) := (by have := (show w0.cell? (ad.add (i * 6 + 3)) = some (.string rs) from hcc 3 _ rfl); rw [show ad.add (i * 6 + 3) = (ad.add (i * 6)).add 3 from (Addr.add_add _ _ _).symm] at this; exact pw_cell_below HB.out this)
      have hx4 : wr.cell? ⟨(ad.add (i * 6)).block, (ad.add (i * 6)).off + 4, none⟩ = some (.int .i64 lv) := (by have := (show w0.cell? (ad.add (i * 6 + 4)) = some (.int .i64 lv) from hcc 4 _ rfl); rw [show ad.add (i * 6 + 4) = (ad.add (i * 6)).add 4 from (Addr.add_add _ _ _).symm] at this; exact pw_cell_below HB.out this)
      have hx5 : wr.cell? ⟨(ad.add (i * 6)).block, (ad.add (i * 6)).off + 5, none⟩ = some (.slice Ae nd.length ce) := (by have := (show w0.cell? (ad.add (i * 6 + 5)) = some (.slice Ae nd.length ce) from hcc 5 _ rfl); rw [show ad.add (i * 6 + 5) = (ad.add (i * 6)).add 5 from (Addr.add_add _ _ _).symm] at this; exact pw_cell_below HB.out this)
      have HN1 := Aside0.mk hN
      have HP1 := Aside0.mk hP
      have hbx := below_alloc (Below.refl wr.heap.size wr) (Obj.cells #[.int .i64 ra, .int .i64 rb, .int .i64 rc, .string rs, .int .i64 lv, .slice Ae nd.length ce] 121)
      have K := Aside0.mk (rel1_T g gb s ((ra, rb, rc, rs), lv, nd) Ae ce w0 _ (HO.out.below hbx) ((HX.out.keep HKP.out).below hbx) (below_alloc HB.out _) hCe (by have := HN1.out; omega))
      clear hN hP hcc
      go_wp2_with (fail)
      refine K.out.mono ?_
      rintro e w2 ⟨rfl, ho, hb, hk⟩
      have HO1 := Aside0.mk ho
      have HB1 := Aside0.mk hb
      have HK1 := Aside0.mk ((HKP.out.trans (Keeps.below hbx)).trans hk)
      clear ho hb hk K
      go_wp2
      go_roundg (gk - 1)
      case measure => have := HI.out; omega
      case rel => exact ⟨i + 1, s ++ tRel ((ra, rb, rc, rs), lv, nd), congrArg _ e5, ⟨by have := HI.out; omega⟩, ⟨by have := HN1.out; rw [costT_app]; omega⟩, HP1, HO1, HB1, HK1⟩
    · have e1 : decide (i < l.length) = false := decide_eq_false c1
      have hP := HP.out
      rw [List.drop_eq_nil_of_le (by omega), List.flatMap_nil, List.append_nil] at hP
      subst hP
      go_wp2
      go_end0
      exact ⟨rfl, HO.out, HB.out, HKP.out⟩
set_option maxHeartbeats 8000000 in
set_option maxRecDepth 20000 in
theorem svc1_T (g gb : Nat) (ts : List Tok) (x : Svc) (A : Option Addr) (c : Nat) (w0 w : World) (hO : OT 94 w0 w g ts) (hX : BX w gb g) (hB : Below w0.heap.size w0 w) (hr : Kd.C kRel w0 A x.2.length x.2) (hc : costT ts + costT (tSvc x) ≤ 1000000000) :
    Calls Try.prog 56 #[.agg #[.string x.1, .slice A x.2.length c], .pointer (some ⟨gb, 0, none⟩)] w (Wrote 94 w0 w g (ts ++ tSvc x)) := by
  have hmf : ∀ (fn : Fn) (first cap : Array Value) (w : World), (Instr.makeFunc fn first cap).run Try.prog w = .ok (.func fn first cap) w := fun _ _ _ _ => rfl
  obtain ⟨s, l⟩ := x
  dsimp only at hr ⊢
  have hct : costT (tSvc (s, l)) = costT (tText s) + costT (listT tRel l) := by rw [tSvc, costT_app]
  have hl := cost_len starts_rel l
  have he := cost_listT tRel l
  obtain ⟨BX0, hBX0⟩ : ∃ o, o = Obj.cells #[.string s, .slice A l.length c] 113 := ⟨_, rfl⟩
  have hb1 := below_alloc (Below.refl w.heap.size w) BX0
  have hs0 := heap_last w BX0
  have K := Aside0.mk (out_text_T g ts s w0 _ (hO.below hb1) (below_alloc hB BX0) (by omega))
  have HK0 := Aside0.mk (Keeps.below (g := g) hb1)
  have HNE : Aside0 (w.heap.size ≠ g) := ⟨by have := hO.lt; omega⟩
  have hx0 := (blk_cell (hX.below hb1).1) 0
  have HX := Aside0.mk (hX.below hb1)
  have HR := Aside0.mk hr
  subst hBX0
  have HBOX := Aside0.mk hs0
  have hq0 := (blk_cell hs0) 0
  have hT : ts ++ tSvc (s, l) = (ts ++ tText s) ++ listT tRel l := by simp [tSvc]
  rw [hT]
  have HC : Aside0 (costT (ts ++ tText s) + costT (listT tRel l) ≤ 1000000000) := ⟨by rw [costT_app]; omega⟩
  have HL : Aside0 (l.length ≤ 1000000000) := ⟨by omega⟩
  generalize ts ++ tText s = us at K HC ⊢
  clear hO hX hB hc hb1 hs0 hct hT hr hl he
  go_enter Try.func56, Try.ntmps56
  go_wp2_with (fail)
  refine K.out.mono ?_
  rintro e w1 ⟨rfl, ho, hb, hk⟩
  have hbx := box_keep HBOX.out hk HNE.out (by decide)
  have hxk := HX.out.keep hk
  have K2 := Aside0.mk (list_rel_T g gb us A c l w0 w1 ho hxk hb HR.out HC.out HL.out)
  have HK2 := Aside0.mk (HK0.out.trans hk)
  clear hx0 hq0
  have hx0 := (blk_cell hxk.1) 0
  have hq1 := (blk_cell hbx) 1
  clear ho hb hk K hbx hxk HX HBOX HK0
  go_wp2_with (fail)
  refine K2.out.mono ?_
  rintro e w3 ⟨rfl, ho, hb, hk⟩
  have HO := Aside0.mk ho
  have HB := Aside0.mk hb
  have HK := Aside0.mk (HK2.out.trans hk)
  clear ho hb hk K2
  go_wp2
  go_end0
  exact ⟨rfl, HO.out, HB.out, HK.out⟩
theorem costT_svc_ (l : List Svc) (i : Nat) (h : i < l.length) (z : Svc) : costT ((l.drop i).flatMap tSvc) = costT (tSvc (l.getD i z)) + costT ((l.drop (i + 1)).flatMap tSvc) := by
  rw [List.drop_eq_getElem_cons h, List.flatMap_cons, costT_app, List.getD_eq_getElem?_getD, List.getElem?_eq_getElem h]
  rfl
theorem flat_svc_ (l : List Svc) (i : Nat) (h : i < l.length) (z : Svc) : (l.drop i).flatMap tSvc = tSvc (l.getD i z) ++ (l.drop (i + 1)).flatMap tSvc := by
  rw [List.drop_eq_getElem_cons h, List.flatMap_cons, List.getD_eq_getElem?_getD, List.getElem?_eq_getElem h]
  rfl
set_option maxHeartbeats 4000000 in
set_option maxRecDepth 20000 in
theorem list_svc_T (g gb : Nat) (ts : List Tok) (A : Option Addr) (c : Nat) (l : List Svc) (w0 w : World) (hO : OT 94 w0 w g ts) (hX : BX w gb g) (hB : Below w0.heap.size w0 w) (hr : Kd.C kSvc w0 A l.length l) (hc : costT ts + costT (listT tSvc l) ≤ 1000000000) (hl : l.length ≤ 1000000000) :
    Calls Try.prog 55 #[.pointer (some ⟨g, 0, none⟩), .slice A l.length c, .func (.func 56) #[] #[.pointer (some ⟨gb, 0, none⟩)]] w (Wrote 94 w0 w g (ts ++ listT tSvc l)) := by
  have HR := Aside0.mk hr
  have HLEN := Aside0.mk hl
  have HX := Aside0.mk hX
  have hce : costT (listT tSvc l) = 6 + costT (l.flatMap tSvc) := costT_num _ _
  have K := Aside0.mk (out_num_T g ts w.heap.size _ [(l.length : Int)] w0 _ (hO.below (below_alloc (Below.refl w.heap.size w) (Obj.cells #[.int .i64 (l.length : Int)] 3))) (below_alloc hB _) (lit_R w w.heap.size (Nat.le_refl _) (l.length : Int)) (by simp; omega))
  have HK0 := Aside0.mk (Keeps.below (g := g) (below_alloc (Below.refl w.heap.size w) (Obj.cells #[.int .i64 (l.length : Int)] 3)))
  obtain ⟨us, hus⟩ : ∃ us, ts ++ listT tSvc l = us := ⟨_, rfl⟩
  have HN0 : Aside0 (costT (ts ++ [.num (l.length : Int)]) + costT ((l.drop 0).flatMap tSvc) ≤ 1000000000) := ⟨by rw [costT_app, costT_num, costT_nil, List.drop_zero]; omega⟩
  have HP : Aside0 ((ts ++ [.num (l.length : Int)]) ++ (l.drop 0).flatMap tSvc = us) := ⟨by rw [← hus, List.drop_zero, listT, List.append_assoc]; rfl⟩
  rw [hus]
  simp only [List.map_cons, List.map_nil] at K
  generalize ts ++ [.num (l.length : Int)] = s0 at K HN0 HP
  clear hO hB hr hc hl hX hce hus
  go_enter Try.func55, Try.ntmps55
  go_wp2_with (fail)
  refine K.out.mono ?_
  rintro e w1 ⟨rfl, ho, hb, hk⟩
  have HO := Aside0.mk ho
  have HB := Aside0.mk hb
  have HKP := Aside0.mk (HK0.out.trans hk)
  clear ho hb hk K
  go_wp2
  go_loopg [7, 15] l.length (fun kq v7 v15 w' => ∃ (i : Nat) (s : List Tok), v15 = .int .i64 (i : Int) ∧ Aside0 (i + kq = l.length) ∧ Aside0 (costT s + costT ((l.drop i).flatMap tSvc) ≤ 1000000000) ∧ Aside0 (s ++ (l.drop i).flatMap tSvc = us) ∧ Aside0 (OT 94 w0 w' g s) ∧ Aside0 (Below w0.heap.size w0 w') ∧ Aside0 (Keeps w w' g))
  case atStart => exact ⟨0, s0, rfl, ⟨by omega⟩, HN0, HP, HO, HB, HKP⟩
  case round =>
    clear HO HB HP HN0 HKP
    obtain ⟨i, s, rfl, HI, HN, HP, HO, HB, HKP⟩ := hrel
    by_cases c1 : i < l.length
    · have e1 : decide (i < l.length) = true := decide_eq_true c1
      have e5 : wrap64 ((i : Int) + 1) = ((i + 1 : Nat) : Int) := by have := HLEN.out; unfold wrap64; omega
      obtain ⟨ad, cs, ea, hcl, hK, hcc⟩ := Kd.C_get HR.out (ByteArray.empty, []) (i : Int) (by omega) (by omega)
      cases ea
      rw [Int.toNat_natCast] at hK hcc
      have hN := HN.out
      have hP := HP.out
      rw [costT_svc_ l i c1 (ByteArray.empty, [])] at hN
      rw [flat_svc_ l i c1 (ByteArray.empty, []), ← List.append_assoc] at hP
      generalize l.getD i (ByteArray.empty, []) = x at hK hN hP
      obtain ⟨nm, rl⟩ := x
      obtain ⟨z0, z1, rfl, y0, ⟨Ae, ce, rfl, _, hCe⟩⟩ := hK
      cases y0
      have hx0 : wr.cell? (ad.add (i * 2)) = some (.string nm) := pw_cell_below HB.out (hcc 0 _ rfl)
      have hx1 : wr.cell? ⟨(ad.add (i * 2)).block, (ad.add (i * 2)).off + 1, none⟩ = some (.slice Ae rl.length ce) := (by have := (show w0.cell? (ad.add (i * 2 + 1)) = some (.slice Ae rl.length ce) from hcc 1 _ rfl); rw [show ad.add (i * 2 + 1) = (ad.add (i * 2)).add 1 from (Addr.add_add _ _ _).symm] at this; exact pw_cell_below HB.out this)
      have HN1 := Aside0.mk hN
      have HP1 := Aside0.mk hP
      have hbx := below_alloc (Below.refl wr.heap.size wr) (Obj.cells #[.string nm, .slice Ae rl.length ce] 113)
      have K := Aside0.mk (svc1_T g gb s (nm, rl) Ae ce w0 _ (HO.out.below hbx) ((HX.out.keep HKP.out).below hbx) (below_alloc HB.out _) hCe (by have := HN1.out; omega))
      clear hN hP hcc
      go_wp2_with (fail)
      refine K.out.mono ?_
      rintro e w2 ⟨rfl, ho, hb, hk⟩
      have HO1 := Aside0.mk ho
      have HB1 := Aside0.mk hb
      have HK1 := Aside0.mk ((HKP.out.trans (Keeps.below hbx)).trans hk)
      clear ho hb hk K
      go_wp2
      go_roundg (gk - 1)
      case measure => have := HI.out; omega
      case rel => exact ⟨i + 1, s ++ tSvc (nm, rl), congrArg _ e5, ⟨by have := HI.out; omega⟩, ⟨by have := HN1.out; rw [costT_app]; omega⟩, HP1, HO1, HB1, HK1⟩
    · have e1 : decide (i < l.length) = false := decide_eq_false c1
      have hP := HP.out
      rw [List.drop_eq_nil_of_le (by omega), List.flatMap_nil, List.append_nil] at hP
      subst hP
      go_wp2
      go_end0
      exact ⟨rfl, HO.out, HB.out, HKP.out⟩
set_option maxHeartbeats 8000000 in
set_option maxRecDepth 20000 in
theorem PutCatalog_T (x : List Svc) (A0 : Option Addr) (c0 : Nat) (w : World) (h0 : Kd.C kSvc w A0 x.length x) (hc : costT (tCat x) ≤ 1000000000) :
    Calls Try.prog 24 #[.agg #[.slice A0 x.length c0]] w fun e w' => ∃ v, e = .returned (.tuple #[v, .int .i64 (endE (tCat x))]) ∧ Kd.R (Kd.int .u8) 5 w' w.heap.size (fun _ => True) v (endL (tCat x)) ∧ Below w.heap.size w w' := by
  have hmf : ∀ (fn : Fn) (first cap : Array Value) (w : World), (Instr.makeFunc fn first cap).run Try.prog w = .ok (.func fn first cap) w := fun _ _ _ _ => rfl
  obtain ⟨us, hus⟩ : ∃ us, tCat x = us := ⟨_, rfl⟩
  have hl := cost_len starts_svc x
  have he : costT (tCat x) = 6 + costT (x.flatMap tSvc) := cost_listT tSvc x
  have HUS := Aside0.mk (show [] ++ listT tSvc x = us by rw [← hus]; rfl)
  rw [hus]
  obtain ⟨E, hE⟩ : ∃ E, endE us = E := ⟨_, rfl⟩
  obtain ⟨L, hL⟩ : ∃ L, endL us = L := ⟨_, rfl⟩
  rw [hE, hL]
  have HE := Aside0.mk hE
  have HLL := Aside0.mk hL
  clear hE hL
  obtain ⟨B0, hB0⟩ : ∃ o, o = Obj.cells #[.slice A0 x.length c0] 61 := ⟨_, rfl⟩
  obtain ⟨B1, hB1⟩ : ∃ o, o = Obj.cells #[.slice none 0 0, .bool false] 94 := ⟨_, rfl⟩
  obtain ⟨B2, hB2⟩ : ∃ o, o = Obj.cells #[.pointer (some ⟨w.heap.size + 1, 0, none⟩)] 92 := ⟨_, rfl⟩
  have hb1 := below_alloc (Below.refl w.heap.size w) B0
  have hO := OT.new' 94 hb1
  rw [← hB1] at hO
  have hb2 := below_alloc hb1 B1
  have hX := three_X w B0 B1 (g := w.heap.size + 1) (by omega)
  rw [← hB2] at hX
  have hP := three_P w B0 B1 B2
  have hO2 := hO.below (below_alloc (Below.refl _ _) B2)
  rw [World.size_alloc] at hO2
  have K := Aside0.mk (list_svc_T (w.heap.size + 1) (w.heap.size + 2) [] A0 c0 x w _ hO2 hX (below_alloc hb2 B2) h0 (by rw [costT_nil]; unfold tCat at hc; omega) (by omega))
  rw [HUS.out] at K
  subst hB0 hB1 hB2
  have HX := Aside0.mk hX
  have hx0 := (blk_cell hX.1) 0
  have hp0 := (blk_cell hP) 0
  clear h0 hc hus hO hO2 hb1 hb2 hX hP hl he HUS
  go_enter Try.func24, Try.ntmps24
  go_wp2_with (fail)
  refine K.out.mono ?_
  rintro e w4 ⟨rfl, ho, hb, hk⟩
  clear hx0 hp0 K
  have HX4 := Aside0.mk (HX.out.keep hk)
  have K := Aside0.mk (done_T (w.heap.size + 1) us w w4 ho)
  have HB4 := Aside0.mk hb
  have hx0 := (blk_cell HX4.out.1) 0
  clear ho hb hk HX
  rw [HE.out, HLL.out] at K
  go_wp2_with (fail)
  refine K.out.mono ?_
  rintro e w5 ⟨v, rfl, hR, rfl⟩
  have HR := Aside0.mk hR
  clear hR K
  go_wp2
  go_ret2
  exact ⟨v, rfl, HR.out, HB4.out⟩
set_option maxHeartbeats 8000000 in
set_option maxRecDepth 20000 in
theorem PutRequest_T (x : Req) (A0 A1 : Option Addr) (c0 c1 : Nat) (w : World) (h0 : Kd.C kNd w A0 x.1.length x.1) (h1 : Kd.C (Kd.int .i64) w A1 x.2.length x.2) (hc : costT (tReq x) ≤ 1000000000) :
    Calls Try.prog 28 #[.agg #[.slice A0 x.1.length c0, .slice A1 x.2.length c1]] w fun e w' => ∃ v, e = .returned (.tuple #[v, .int .i64 (endE (tReq x))]) ∧ Kd.R (Kd.int .u8) 5 w' w.heap.size (fun _ => True) v (endL (tReq x)) ∧ Below w.heap.size w w' := by
  have hmf : ∀ (fn : Fn) (first cap : Array Value) (w : World), (Instr.makeFunc fn first cap).run Try.prog w = .ok (.func fn first cap) w := fun _ _ _ _ => rfl
  obtain ⟨l0, l1⟩ := x
  dsimp only at h0 h1 ⊢
  obtain ⟨us, hus⟩ : ∃ us, tReq (l0, l1) = us := ⟨_, rfl⟩
  have hl := cost_len starts_nd l0
  have he := cost_listT tNd l0
  have hcc : costT (tReq (l0, l1)) = costT (listT tNd l0) + costT (listT tNum l1) := by rw [tReq, costT_app]
  have HC : Aside0 (costT (listT tNd l0) + costT (listT tNum l1) ≤ 1000000000) := ⟨by omega⟩
  have HUS := Aside0.mk (show ([] ++ listT tNd l0) ++ listT tNum l1 = us by rw [← hus]; rfl)
  rw [hus]
  obtain ⟨E, hE⟩ : ∃ E, endE us = E := ⟨_, rfl⟩
  obtain ⟨L, hL⟩ : ∃ L, endL us = L := ⟨_, rfl⟩
  rw [hE, hL]
  have HE := Aside0.mk hE
  have HLL := Aside0.mk hL
  clear hE hL
  have H1 := Aside0.mk h1
  obtain ⟨B0, hB0⟩ : ∃ o, o = Obj.cells #[.slice A0 l0.length c0, .slice A1 l1.length c1] 72 := ⟨_, rfl⟩
  obtain ⟨B1, hB1⟩ : ∃ o, o = Obj.cells #[.slice none 0 0, .bool false] 94 := ⟨_, rfl⟩
  obtain ⟨B2, hB2⟩ : ∃ o, o = Obj.cells #[.pointer (some ⟨w.heap.size + 1, 0, none⟩)] 92 := ⟨_, rfl⟩
  have hb1 := below_alloc (Below.refl w.heap.size w) B0
  have hO := OT.new' 94 hb1
  rw [← hB1] at hO
  have hb2 := below_alloc hb1 B1
  have hX := three_X w B0 B1 (g := w.heap.size + 1) (by omega)
  rw [← hB2] at hX
  have hP := three_P w B0 B1 B2
  have hO2 := hO.below (below_alloc (Below.refl _ _) B2)
  rw [World.size_alloc] at hO2
  have K := Aside0.mk (list_pin_T (w.heap.size + 1) (w.heap.size + 2) [] A0 c0 l0 w _ hO2 hX (below_alloc hb2 B2) h0 (by have := HC.out; rw [costT_nil]; omega) (by omega))
  subst hB0 hB1 hB2
  have HX := Aside0.mk hX
  have HP := Aside0.mk hP
  have hx0 := (blk_cell hX.1) 0
  have hp0 := (blk_cell hP) 0
  clear h0 h1 hc hus hO hO2 hb1 hb2 hX hP hl he hcc
  go_enter Try.func28, Try.ntmps28
  go_wp2_with (fail)
  refine K.out.mono ?_
  rintro e w1 ⟨rfl, ho, hb, hk⟩
  clear hx0 hp0 K
  have HX1 := Aside0.mk (HX.out.keep hk)
  have HP1 := Aside0.mk (box_keep HP.out hk (by omega) (by decide))
  have K := Aside0.mk (ints_T (w.heap.size + 1) _ A1 c1 l1 w w1 ho hb H1.out (by have := HC.out; rw [costT_app, costT_nil]; omega))
  rw [HUS.out] at K
  have hx0 := (blk_cell HX1.out.1) 0
  have hp0 := (blk_cell HP1.out) 1
  clear ho hb hk HX HP
  go_wp2_with (fail)
  refine K.out.mono ?_
  rintro e w4 ⟨rfl, ho, hb, hk⟩
  clear hx0 hp0 K
  have HX4 := Aside0.mk (HX1.out.keep hk)
  have K := Aside0.mk (done_T (w.heap.size + 1) us w w4 ho)
  have HB4 := Aside0.mk hb
  have hx0 := (blk_cell HX4.out.1) 0
  clear ho hb hk HX1
  rw [HE.out, HLL.out] at K
  go_wp2_with (fail)
  refine K.out.mono ?_
  rintro e w5 ⟨v, rfl, hR, rfl⟩
  have HR := Aside0.mk hR
  clear hR K
  go_wp2
  go_ret2
  exact ⟨v, rfl, HR.out, HB4.out⟩
end Go.Proofs.Ythefbeekcjchcaa.P
