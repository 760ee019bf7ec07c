import Derived.Test.YthefbeekcjchcaaPutCat
namespace Go.Proofs.Ythefbeekcjchcaa.P
open Go Go.RowKit Go.Proofs.YthefbeekcjchcaaW.PrintWords Go.Proofs.YthefbeekcjchcaaW.PrintLast Go.Proofs.YthefbeekcjchcaaW.PrintMore
set_option linter.unusedVariables false
set_option linter.unusedSimpArgs false
theorem costT_cmp_ (l : List Cmp) (i : Nat) (h : i < l.length) (z : Cmp) : costT ((l.drop i).flatMap tCmp) = costT (tCmp (l.getD i z)) + costT ((l.drop (i + 1)).flatMap tCmp) := by
  rw [List.drop_eq_getElem_cons h, List.flatMap_cons, costT_app, List.getD_eq_getElem?_getD, List.getElem?_eq_getElem h]
  rfl
theorem flat_cmp_ (l : List Cmp) (i : Nat) (h : i < l.length) (z : Cmp) : (l.drop i).flatMap tCmp = tCmp (l.getD i z) ++ (l.drop (i + 1)).flatMap tCmp := by
  rw [List.drop_eq_getElem_cons h, List.flatMap_cons, List.getD_eq_getElem?_getD, List.getElem?_eq_getElem h]
  rfl
set_option maxHeartbeats 4000000 in
set_option maxRecDepth 20000 in
theorem list_cmp_T (g gb : Nat) (ts : List Tok) (A : Option Addr) (c : Nat) (l : List Cmp) (w0 w : World) (hO : OT 94 w0 w g ts) (hX : BX w gb g) (hB : Below w0.heap.size w0 w) (hr : Kd.C kCmp w0 A l.length l) (hc : costT ts + costT (listT tCmp l) ≤ 1000000000) (hl : l.length ≤ 1000000000) :
    Calls Try.prog 94 #[.pointer (some ⟨g, 0, none⟩), .slice A l.length c, .func (.func 95) #[] #[.pointer (some ⟨gb, 0, none⟩)]] w (Wrote 94 w0 w g (ts ++ listT tCmp l)) := by
  have HR := Aside0.mk hr
  have HLEN := Aside0.mk hl
  have HX := Aside0.mk hX
  have hce : costT (listT tCmp l) = 6 + costT (l.flatMap tCmp) := costT_num _ _
  have K := Aside0.mk (out_num_T g ts w.heap.size _ [(l.length : Int)] w0 _ (hO.below (below_alloc (Below.refl w.heap.size w) (Obj.cells #[.int .i64 (l.length : Int)] 3))) (below_alloc hB _) (lit_R w w.heap.size (Nat.le_refl _) (l.length : Int)) (by simp; omega))
  have HK0 := Aside0.mk (Keeps.below (g := g) (below_alloc (Below.refl w.heap.size w) (Obj.cells #[.int .i64 (l.length : Int)] 3)))
  obtain ⟨us, hus⟩ : ∃ us, ts ++ listT tCmp l = us := ⟨_, rfl⟩
  have HN0 : Aside0 (costT (ts ++ [.num (l.length : Int)]) + costT ((l.drop 0).flatMap tCmp) ≤ 1000000000) := ⟨by rw [costT_app, costT_num, costT_nil, List.drop_zero]; omega⟩
  have HP : Aside0 ((ts ++ [.num (l.length : Int)]) ++ (l.drop 0).flatMap tCmp = us) := ⟨by rw [← hus, List.drop_zero, listT, List.append_assoc]; rfl⟩
  rw [hus]
  simp only [List.map_cons, List.map_nil] at K
  generalize ts ++ [.num (l.length : Int)] = s0 at K HN0 HP
  clear hO hB hr hc hl hX hce hus
  go_enter Try.func94, Try.ntmps94
  go_wp2_with (fail)
  refine K.out.mono ?_
  rintro e w1 ⟨rfl, ho, hb, hk⟩
  have HO := Aside0.mk ho
  have HB := Aside0.mk hb
  have HKP := Aside0.mk (HK0.out.trans hk)
  clear ho hb hk K
  go_wp2
  go_loopg [7, 15] l.length (fun kq v7 v15 w' => ∃ (i : Nat) (s : List Tok), v15 = .int .i64 (i : Int) ∧ Aside0 (i + kq = l.length) ∧ Aside0 (costT s + costT ((l.drop i).flatMap tCmp) ≤ 1000000000) ∧ Aside0 (s ++ (l.drop i).flatMap tCmp = us) ∧ Aside0 (OT 94 w0 w' g s) ∧ Aside0 (Below w0.heap.size w0 w') ∧ Aside0 (Keeps w w' g))
  case atStart => exact ⟨0, s0, rfl, ⟨by omega⟩, HN0, HP, HO, HB, HKP⟩
  case round =>
    clear HO HB HP HN0 HKP
    obtain ⟨i, s, rfl, HI, HN, HP, HO, HB, HKP⟩ := hrel
    by_cases c1 : i < l.length
    · have e1 : decide (i < l.length) = true := decide_eq_true c1
      have e5 : wrap64 ((i : Int) + 1) = ((i + 1 : Nat) : Int) := by have := HLEN.out; unfold wrap64; omega
      obtain ⟨ad, cs, ea, hcl, hK, hcc⟩ := Kd.C_get HR.out (0, noVer) (i : Int) (by omega) (by omega)
      cases ea
      rw [Int.toNat_natCast] at hK hcc
      have hN := HN.out
      have hP := HP.out
      rw [costT_cmp_ l i c1 (0, noVer)] at hN
      rw [flat_cmp_ l i c1 (0, noVer), ← List.append_assoc] at hP
      generalize l.getD i (0, noVer) = x at hK hN hP
      obtain ⟨op, a, b, c, s_⟩ := x
      obtain ⟨z0, z1, rfl, y0, z2, z3, rfl, y1, z4, z5, rfl, y2, z6, z7, rfl, y3, y4⟩ := hK
      cases y0
      cases y1
      cases y2
      cases y3
      cases y4
      have hx0 : wr.cell? (ad.add (i * 5)) = some (.int .i64 op) := pw_cell_below HB.out (hcc 0 _ rfl)
      have hx1 : wr.cell? ⟨(ad.add (i * 5)).block, (ad.add (i * 5)).off + 1, none⟩ = some (.int .i64 a) := (by have := (show w0.cell? (ad.add (i * 5 + 1)) = some (.int .i64 a) from hcc 1 _ rfl); rw [show ad.add (i * 5 + 1) = (ad.add (i * 5)).add 1 from (Addr.add_add _ _ _).symm] at this; exact pw_cell_below HB.out this)
      have hx2 : wr.cell? ⟨(ad.add (i * 5)).block, (ad.add (i * 5)).off + 2, none⟩ = some (.int .i64 b) := (by have := (show w0.cell? (ad.add (i * 5 + 2)) = some (.int .i64 b) from hcc 2 _ rfl); rw [show ad.add (i * 5 + 2) = (ad.add (i * 5)).add 2 from (Addr.add_add _ _ _).symm] at this; exact pw_cell_below HB.out this)
      have hx3 : wr.cell? ⟨(ad.add (i * 5)).block, (ad.add (i * 5)).off + 3, none⟩ = some (.int .i64 c) := (by have := (show w0.cell? (ad.add (i * 5 + 3)) = some (.int .i64 c) from hcc 3 _ rfl); rw [show ad.add (i * 5 + 3) = (ad.add (i * 5)).add 3 from (Addr.add_add _ _ _).symm] at this; exact pw_cell_below HB.out this)
      have hx4 : wr.cell? ⟨(ad.add (i * 5)).block, (ad.add (i * 5)).off + 4, none⟩ = some (.string s_) := (by have := (show w0.cell? (ad.add (i * 5 + 4)) = some (.string s_) from hcc 4 _ rfl); rw [show ad.add (i * 5 + 4) = (ad.add (i * 5)).add 4 from (Addr.add_add _ _ _).symm] at this; exact pw_cell_below HB.out this)
      have HN1 := Aside0.mk hN
      have HP1 := Aside0.mk hP
      have hbx := below_alloc (Below.refl wr.heap.size wr) (Obj.cells #[.int .i64 op, .int .i64 a, .int .i64 b, .int .i64 c, .string s_] 177)
      have K := Aside0.mk (cmp1_T g gb s (op, a, b, c, s_) w0 _ (HO.out.below hbx) ((HX.out.keep HKP.out).below hbx) (below_alloc HB.out _)  (by have := HN1.out; omega))
      clear hN hP hcc
      go_wp2_with (fail)
      refine K.out.mono ?_
      rintro e w2 ⟨rfl, ho, hb, hk⟩
      have HO1 := Aside0.mk ho
      have HB1 := Aside0.mk hb
      have HK1 := Aside0.mk ((HKP.out.trans (Keeps.below hbx)).trans hk)
      clear ho hb hk K
      go_wp2
      go_roundg (gk - 1)
      case measure => have := HI.out; omega
      case rel => exact ⟨i + 1, s ++ tCmp (op, a, b, c, s_), congrArg _ e5, ⟨by have := HI.out; omega⟩, ⟨by have := HN1.out; rw [costT_app]; omega⟩, HP1, HO1, HB1, HK1⟩
    · have e1 : decide (i < l.length) = false := decide_eq_false c1
      have hP := HP.out
      rw [List.drop_eq_nil_of_le (by omega), List.flatMap_nil, List.append_nil] at hP
      subst hP
      go_wp2
      go_end0
      exact ⟨rfl, HO.out, HB.out, HKP.out⟩
theorem cost_len {α : Type} {f : α → List Tok} (hs : Starts f) : ∀ xs : List α, 6 * xs.length ≤ costT (xs.flatMap f)
  | [] => Nat.zero_le _
  | x :: xs => by
    obtain ⟨n, ts, e⟩ := hs x
    have := cost_len hs xs
    rw [List.flatMap_cons, costT_app, e, costT_num, List.length_cons]
    omega
theorem cost_listT {α : Type} (f : α → List Tok) (xs : List α) : costT (listT f xs) = 6 + costT (xs.flatMap f) := costT_num _ _
set_option maxHeartbeats 4000000 in
set_option maxRecDepth 20000 in
theorem comps1_T (g gb : Nat) (ts : List Tok) (l : List Cmp) (A : Option Addr) (c : Nat) (w0 w : World) (hO : OT 94 w0 w g ts) (hX : BX w gb g) (hB : Below w0.heap.size w0 w) (hr : Kd.C kCmp w0 A l.length l) (hc : costT ts + costT (listT tCmp l) ≤ 1000000000) :
    Calls Try.prog 93 #[.slice A l.length c, .pointer (some ⟨gb, 0, none⟩)] w (Wrote 94 w0 w g (ts ++ listT tCmp l)) := by
  have hmf : ∀ (fn : Fn) (first cap : Array Value) (w : World), (Instr.makeFunc fn first cap).run Try.prog w = .ok (.func fn first cap) w := fun _ _ _ _ => rfl
  have hl := cost_len starts_cmp l
  have he := cost_listT tCmp l
  have K := Aside0.mk (list_cmp_T g gb ts A c l w0 w hO hX hB hr hc (by omega))
  have hx0 := (blk_cell hX.1) 0
  clear hO hX hB hr hc hl he
  go_enter Try.func93, Try.ntmps93
  go_wp2_with (fail)
  refine K.out.mono ?_
  rintro e w1 ⟨rfl, ho, hb, hk⟩
  have HO := Aside0.mk ho
  have HB := Aside0.mk hb
  have HK := Aside0.mk hk
  clear ho hb hk K
  go_wp2
  go_end0
  exact ⟨rfl, HO.out, HB.out, HK.out⟩
theorem costT_comps_ (l : List (List Cmp)) (i : Nat) (h : i < l.length) (z : (List Cmp)) : costT ((l.drop i).flatMap (listT tCmp)) = costT ((listT tCmp) (l.getD i z)) + costT ((l.drop (i + 1)).flatMap (listT tCmp)) := by
  rw [List.drop_eq_getElem_cons h, List.flatMap_cons, costT_app, List.getD_eq_getElem?_getD, List.getElem?_eq_getElem h]
  rfl
theorem flat_comps_ (l : List (List Cmp)) (i : Nat) (h : i < l.length) (z : (List Cmp)) : (l.drop i).flatMap (listT tCmp) = (listT tCmp) (l.getD i z) ++ (l.drop (i + 1)).flatMap (listT tCmp) := by
  rw [List.drop_eq_getElem_cons h, List.flatMap_cons, List.getD_eq_getElem?_getD, List.getElem?_eq_getElem h]
  rfl
set_option maxHeartbeats 4000000 in
set_option maxRecDepth 20000 in
theorem list_comps_T (g gb : Nat) (ts : List Tok) (A : Option Addr) (c : Nat) (l : List (List Cmp)) (w0 w : World) (hO : OT 94 w0 w g ts) (hX : BX w gb g) (hB : Below w0.heap.size w0 w) (hr : Kd.C (Kd.slice 177 kCmp) w0 A l.length l) (hc : costT ts + costT (listT (listT tCmp) l) ≤ 1000000000) (hl : l.length ≤ 1000000000) :
    Calls Try.prog 92 #[.pointer (some ⟨g, 0, none⟩), .slice A l.length c, .func (.func 93) #[] #[.pointer (some ⟨gb, 0, none⟩)]] w (Wrote 94 w0 w g (ts ++ listT (listT tCmp) l)) := by
  have HR := Aside0.mk hr
  have HLEN := Aside0.mk hl
  have HX := Aside0.mk hX
  have hce : costT (listT (listT tCmp) l) = 6 + costT (l.flatMap (listT tCmp)) := costT_num _ _
  have K := Aside0.mk (out_num_T g ts w.heap.size _ [(l.length : Int)] w0 _ (hO.below (below_alloc (Below.refl w.heap.size w) (Obj.cells #[.int .i64 (l.length : Int)] 3))) (below_alloc hB _) (lit_R w w.heap.size (Nat.le_refl _) (l.length : Int)) (by simp; omega))
  have HK0 := Aside0.mk (Keeps.below (g := g) (below_alloc (Below.refl w.heap.size w) (Obj.cells #[.int .i64 (l.length : Int)] 3)))
  obtain ⟨us, hus⟩ : ∃ us, ts ++ listT (listT tCmp) l = us := ⟨_, rfl⟩
  have HN0 : Aside0 (costT (ts ++ [.num (l.length : Int)]) + costT ((l.drop 0).flatMap (listT tCmp)) ≤ 1000000000) := ⟨by rw [costT_app, costT_num, costT_nil, List.drop_zero]; omega⟩
  have HP : Aside0 ((ts ++ [.num (l.length : Int)]) ++ (l.drop 0).flatMap (listT tCmp) = us) := ⟨by rw [← hus, List.drop_zero, listT, List.append_assoc]; rfl⟩
  rw [hus]
  simp only [List.map_cons, List.map_nil] at K
  generalize ts ++ [.num (l.length : Int)] = s0 at K HN0 HP
  clear hO hB hr hc hl hX hce hus
  go_enter Try.func92, Try.ntmps92
  go_wp2_with (fail)
  refine K.out.mono ?_
  rintro e w1 ⟨rfl, ho, hb, hk⟩
  have HO := Aside0.mk ho
  have HB := Aside0.mk hb
  have HKP := Aside0.mk (HK0.out.trans hk)
  clear ho hb hk K
  go_wp2
  go_loopg [7, 15] l.length (fun kq v7 v15 w' => ∃ (i : Nat) (s : List Tok), v15 = .int .i64 (i : Int) ∧ Aside0 (i + kq = l.length) ∧ Aside0 (costT s + costT ((l.drop i).flatMap (listT tCmp)) ≤ 1000000000) ∧ Aside0 (s ++ (l.drop i).flatMap (listT tCmp) = us) ∧ Aside0 (OT 94 w0 w' g s) ∧ Aside0 (Below w0.heap.size w0 w') ∧ Aside0 (Keeps w w' g))
  case atStart => exact ⟨0, s0, rfl, ⟨by omega⟩, HN0, HP, HO, HB, HKP⟩
  case round =>
    clear HO HB HP HN0 HKP
    obtain ⟨i, s, rfl, HI, HN, HP, HO, HB, HKP⟩ := hrel
    by_cases c1 : i < l.length
    · have e1 : decide (i < l.length) = true := decide_eq_true c1
      have e5 : wrap64 ((i : Int) + 1) = ((i + 1 : Nat) : Int) := by have := HLEN.out; unfold wrap64; omega
      obtain ⟨ad, cs, ea, hcl, hK, hcc⟩ := Kd.C_get HR.out [] (i : Int) (by omega) (by omega)
      cases ea
      rw [Int.toNat_natCast] at hK hcc
      have hN := HN.out
      have hP := HP.out
      rw [costT_comps_ l i c1 []] at hN
      rw [flat_comps_ l i c1 [], ← List.append_assoc] at hP
      generalize l.getD i [] = x at hK hN hP
      obtain ⟨Ae, ce, rfl, _, hCe⟩ := hK
      have hx0 : wr.cell? (ad.add i) = some (.slice Ae x.length ce) := (by have := (show w0.cell? (ad.add (i * 1 + 0)) = some (.slice Ae x.length ce) from hcc 0 _ rfl); rw [show i * 1 + 0 = i by omega] at this; exact pw_cell_below HB.out this)
      have HN1 := Aside0.mk hN
      have HP1 := Aside0.mk hP
      have K := Aside0.mk (comps1_T g gb s x Ae ce w0 _ HO.out (HX.out.keep HKP.out) HB.out hCe (by have := HN1.out; omega))
      clear hN hP hcc
      go_wp2_with (fail)
      refine K.out.mono ?_
      rintro e w2 ⟨rfl, ho, hb, hk⟩
      have HO1 := Aside0.mk ho
      have HB1 := Aside0.mk hb
      have HK1 := Aside0.mk (HKP.out.trans hk)
      clear ho hb hk K
      go_wp2
      go_roundg (gk - 1)
      case measure => have := HI.out; omega
      case rel => exact ⟨i + 1, s ++ (listT tCmp) x, congrArg _ e5, ⟨by have := HI.out; omega⟩, ⟨by have := HN1.out; rw [costT_app]; omega⟩, HP1, HO1, HB1, HK1⟩
    · have e1 : decide (i < l.length) = false := decide_eq_false c1
      have hP := HP.out
      rw [List.drop_eq_nil_of_le (by omega), List.flatMap_nil, List.append_nil] at hP
      subst hP
      go_wp2
      go_end0
      exact ⟨rfl, HO.out, HB.out, HKP.out⟩
abbrev kCmps : Kd (List Cmp) := Kd.slice 177 kCmp
abbrev kRng : Kd Rng := Kd.slice 174 kCmps
abbrev kNd : Kd Nd := Kd.pair (Kd.int .i64) kRng
set_option maxHeartbeats 4000000 in
set_option maxRecDepth 20000 in
theorem ranged_T (g : Nat) (ts : List Tok) (r : Rng) (A : Option Addr) (c : Nat) (w0 w : World) (hO : OT 94 w0 w g ts) (hB : Below w0.heap.size w0 w) (hr : Kd.C kCmps w0 A r.length r) (hc : costT ts + costT (tRng r) ≤ 1000000000) :
    Calls Try.prog 63 #[.pointer (some ⟨g, 0, none⟩), .agg #[.slice A r.length c]] w (Wrote 94 w0 w g (ts ++ tRng r)) := by
  have hmf : ∀ (fn : Fn) (first cap : Array Value) (w : World), (Instr.makeFunc fn first cap).run Try.prog w = .ok (.func fn first cap) w := fun _ _ _ _ => rfl
  have hl := cost_len (starts_list tCmp) r
  have he := cost_listT (listT tCmp) r
  obtain ⟨B1, hB1⟩ : ∃ o, o = Obj.cells #[.pointer (some ⟨g, 0, none⟩)] 92 := ⟨_, rfl⟩
  obtain ⟨B2, hB2⟩ : ∃ o, o = Obj.cells #[.slice A r.length c] 128 := ⟨_, rfl⟩
  have hbb := below_alloc (below_alloc (Below.refl w.heap.size w) B1) B2
  have hx := box_lit w B1 B2
  have hy := heap_last (w.alloc B1) B2
  rw [World.size_alloc] at hy
  have hX : BX ((w.alloc B1).alloc B2) w.heap.size g := ⟨by rw [hx, hB1], by have := hO.lt; omega⟩
  have K := Aside0.mk (list_comps_T g w.heap.size ts A c r w0 _ (hO.below hbb) hX (below_alloc (below_alloc hB _) _) hr hc (by unfold tRng at hc; omega))
  have HK0 := Aside0.mk (Keeps.below (g := g) hbb)
  subst hB1 hB2
  have hx0 := (blk_cell hx) 0
  have hy0 := (blk_cell hy) 0
  clear hO hX hB hr hc hl he hbb hx hy
  go_enter Try.func63, Try.ntmps63
  go_wp2_with (fail)
  refine K.out.mono ?_
  rintro e w1 ⟨rfl, ho, hb, hk⟩
  have HO := Aside0.mk ho
  have HB := Aside0.mk hb
  have HK := Aside0.mk (HK0.out.trans hk)
  clear ho hb hk K
  go_wp2
  go_end0
  exact ⟨rfl, HO.out, HB.out, HK.out⟩
set_option maxHeartbeats 4000000 in
set_option maxRecDepth 20000 in
theorem need1_T (g gb : Nat) (ts : List Tok) (x : Nd) (A : Option Addr) (c : Nat) (w0 w : World) (hO : OT 94 w0 w g ts) (hX : BX w gb g) (hB : Below w0.heap.size w0 w) (hr : Kd.C kCmps w0 A x.2.length x.2) (hc : costT ts + costT (tNd x) ≤ 1000000000) :
    Calls Try.prog 62 #[.agg #[.int .i64 x.1, .slice A x.2.length c], .pointer (some ⟨gb, 0, none⟩)] w (Wrote 94 w0 w g (ts ++ tNd x)) := by
  obtain ⟨s, r⟩ := x
  dsimp only at hr ⊢
  have hct : costT (tNd (s, r)) = 6 + costT (tRng r) := costT_num _ _
  obtain ⟨BX0, hBX0⟩ : ∃ o, o = Obj.cells #[.int .i64 s, .slice A r.length c] 130 := ⟨_, rfl⟩
  have hb1 := below_alloc (Below.refl w.heap.size w) BX0
  have hb2 := below_alloc hb1 (Obj.cells #[.int .i64 s] 3)
  have hs0 := heap_last w BX0
  have hbox := box_lit w BX0 (Obj.cells #[.int .i64 s] 3)
  have hL := lit_R (w.alloc BX0) 0 (Nat.zero_le _) s
  rw [World.size_alloc] at hL
  have K := Aside0.mk (out_num_T g ts 0 _ [s] w0 _ (hO.below hb2) (below_alloc (below_alloc hB _) _) hL (by simp; omega))
  have HK0 := Aside0.mk (Keeps.below (g := g) hb2)
  have HNE : Aside0 (w.heap.size ≠ g) := ⟨by have := hO.lt; omega⟩
  have hx0 := (blk_cell (hX.below hb1).1) 0
  have HX := Aside0.mk (hX.below hb2)
  have HR := Aside0.mk hr
  subst hBX0
  have HBOX := Aside0.mk hbox
  have hq0 := (blk_cell hs0) 0
  simp only [List.map_cons, List.map_nil] at K
  have hT : ts ++ tNd (s, r) = (ts ++ [Tok.num s]) ++ tRng r := by simp [tNd]
  rw [hT]
  have HC : Aside0 (costT (ts ++ [Tok.num s]) + costT (tRng r) ≤ 1000000000) := ⟨by rw [costT_app, costT_num, costT_nil]; omega⟩
  generalize ts ++ [Tok.num s] = us at K HC ⊢
  clear hO hX hB hc hb1 hb2 hs0 hbox hL hct hT hr
  go_enter Try.func62, Try.ntmps62
  go_wp2_with (fail)
  refine K.out.mono ?_
  rintro e w1 ⟨rfl, ho, hb, hk⟩
  have K1 := Aside0.mk (ranged_T g us r A c w0 w1 ho hb HR.out HC.out)
  have HK1 := Aside0.mk (HK0.out.trans hk)
  clear hx0 hq0
  have hx0 := (blk_cell (HX.out.keep hk).1) 0
  have hq1 := (blk_cell (box_keep HBOX.out hk HNE.out (by decide))) 1
  clear ho hb hk K
  go_wp2_with (fail)
  refine K1.out.mono ?_
  rintro e w2 ⟨rfl, ho, hb, hk⟩
  have HO := Aside0.mk ho
  have HB := Aside0.mk hb
  have HK2 := Aside0.mk (HK1.out.trans hk)
  clear ho hb hk K1
  go_wp2
  go_end0
  exact ⟨rfl, HO.out, HB.out, HK2.out⟩
theorem costT_need_ (l : List Nd) (i : Nat) (h : i < l.length) (z : Nd) : costT ((l.drop i).flatMap tNd) = costT (tNd (l.getD i z)) + costT ((l.drop (i + 1)).flatMap tNd) := by
  rw [List.drop_eq_getElem_cons h, List.flatMap_cons, costT_app, List.getD_eq_getElem?_getD, List.getElem?_eq_getElem h]
  rfl
theorem flat_need_ (l : List Nd) (i : Nat) (h : i < l.length) (z : Nd) : (l.drop i).flatMap tNd = tNd (l.getD i z) ++ (l.drop (i + 1)).flatMap tNd := by
  rw [List.drop_eq_getElem_cons h, List.flatMap_cons, List.getD_eq_getElem?_getD, List.getElem?_eq_getElem h]
  rfl
set_option maxHeartbeats 4000000 in
set_option maxRecDepth 20000 in
theorem list_need_T (g gb : Nat) (ts : List Tok) (A : Option Addr) (c : Nat) (l : List Nd) (w0 w : World) (hO : OT 94 w0 w g ts) (hX : BX w gb g) (hB : Below w0.heap.size w0 w) (hr : Kd.C kNd w0 A l.length l) (hc : costT ts + costT (listT tNd l) ≤ 1000000000) (hl : l.length ≤ 1000000000) :
    Calls Try.prog 61 #[.pointer (some ⟨g, 0, none⟩), .slice A l.length c, .func (.func 62) #[] #[.pointer (some ⟨gb, 0, none⟩)]] w (Wrote 94 w0 w g (ts ++ listT tNd l)) := by
  have HR := Aside0.mk hr
  have HLEN := Aside0.mk hl
  have HX := Aside0.mk hX
  have hce : costT (listT tNd l) = 6 + costT (l.flatMap tNd) := costT_num _ _
  have K := Aside0.mk (out_num_T g ts w.heap.size _ [(l.length : Int)] w0 _ (hO.below (below_alloc (Below.refl w.heap.size w) (Obj.cells #[.int .i64 (l.length : Int)] 3))) (below_alloc hB _) (lit_R w w.heap.size (Nat.le_refl _) (l.length : Int)) (by simp; omega))
  have HK0 := Aside0.mk (Keeps.below (g := g) (below_alloc (Below.refl w.heap.size w) (Obj.cells #[.int .i64 (l.length : Int)] 3)))
  obtain ⟨us, hus⟩ : ∃ us, ts ++ listT tNd l = us := ⟨_, rfl⟩
  have HN0 : Aside0 (costT (ts ++ [.num (l.length : Int)]) + costT ((l.drop 0).flatMap tNd) ≤ 1000000000) := ⟨by rw [costT_app, costT_num, costT_nil, List.drop_zero]; omega⟩
  have HP : Aside0 ((ts ++ [.num (l.length : Int)]) ++ (l.drop 0).flatMap tNd = us) := ⟨by rw [← hus, List.drop_zero, listT, List.append_assoc]; rfl⟩
  rw [hus]
  simp only [List.map_cons, List.map_nil] at K
  generalize ts ++ [.num (l.length : Int)] = s0 at K HN0 HP
  clear hO hB hr hc hl hX hce hus
  go_enter Try.func61, Try.ntmps61
  go_wp2_with (fail)
  refine K.out.mono ?_
  rintro e w1 ⟨rfl, ho, hb, hk⟩
  have HO := Aside0.mk ho
  have HB := Aside0.mk hb
  have HKP := Aside0.mk (HK0.out.trans hk)
  clear ho hb hk K
  go_wp2
  go_loopg [7, 15] l.length (fun kq v7 v15 w' => ∃ (i : Nat) (s : List Tok), v15 = .int .i64 (i : Int) ∧ Aside0 (i + kq = l.length) ∧ Aside0 (costT s + costT ((l.drop i).flatMap tNd) ≤ 1000000000) ∧ Aside0 (s ++ (l.drop i).flatMap tNd = us) ∧ Aside0 (OT 94 w0 w' g s) ∧ Aside0 (Below w0.heap.size w0 w') ∧ Aside0 (Keeps w w' g))
  case atStart => exact ⟨0, s0, rfl, ⟨by omega⟩, HN0, HP, HO, HB, HKP⟩
  case round =>
    clear HO HB HP HN0 HKP
    obtain ⟨i, s, rfl, HI, HN, HP, HO, HB, HKP⟩ := hrel
    by_cases c1 : i < l.length
    · have e1 : decide (i < l.length) = true := decide_eq_true c1
      have e5 : wrap64 ((i : Int) + 1) = ((i + 1 : Nat) : Int) := by have := HLEN.out; unfold wrap64; omega
      obtain ⟨ad, cs, ea, hcl, hK, hcc⟩ := Kd.C_get HR.out (0, []) (i : Int) (by omega) (by omega)
      cases ea
      rw [Int.toNat_natCast] at hK hcc
      have hN := HN.out
      have hP := HP.out
      rw [costT_need_ l i c1 (0, [])] at hN
      rw [flat_need_ l i c1 (0, []), ← List.append_assoc] at hP
      generalize l.getD i (0, []) = x at hK hN hP
      obtain ⟨sv, rg⟩ := x
      obtain ⟨z0, z1, rfl, y0, ⟨Ae, ce, rfl, _, hCe⟩⟩ := hK
      cases y0
      have hx0 : wr.cell? (ad.add (i * 2)) = some (.int .i64 sv) := pw_cell_below HB.out (hcc 0 _ rfl)
      have hx1 : wr.cell? ⟨(ad.add (i * 2)).block, (ad.add (i * 2)).off + 1, none⟩ = some (.slice Ae rg.length ce) := (by have := (show w0.cell? (ad.add (i * 2 + 1)) = some (.slice Ae rg.length ce) from hcc 1 _ rfl); rw [show ad.add (i * 2 + 1) = (ad.add (i * 2)).add 1 from (Addr.add_add _ _ _).symm] at this; exact pw_cell_below HB.out this)
      have HN1 := Aside0.mk hN
      have HP1 := Aside0.mk hP
      have hbx := below_alloc (Below.refl wr.heap.size wr) (Obj.cells #[.int .i64 sv, .slice Ae rg.length ce] 130)
      have K := Aside0.mk (need1_T g gb s (sv, rg) Ae ce w0 _ (HO.out.below hbx) ((HX.out.keep HKP.out).below hbx) (below_alloc HB.out _) hCe (by have := HN1.out; omega))
      clear hN hP hcc
      go_wp2_with (fail)
      refine K.out.mono ?_
      rintro e w2 ⟨rfl, ho, hb, hk⟩
      have HO1 := Aside0.mk ho
      have HB1 := Aside0.mk hb
      have HK1 := Aside0.mk ((HKP.out.trans (Keeps.below hbx)).trans hk)
      clear ho hb hk K
      go_wp2
      go_roundg (gk - 1)
      case measure => have := HI.out; omega
      case rel => exact ⟨i + 1, s ++ tNd (sv, rg), congrArg _ e5, ⟨by have := HI.out; omega⟩, ⟨by have := HN1.out; rw [costT_app]; omega⟩, HP1, HO1, HB1, HK1⟩
    · have e1 : decide (i < l.length) = false := decide_eq_false c1
      have hP := HP.out
      rw [List.drop_eq_nil_of_le (by omega), List.flatMap_nil, List.append_nil] at hP
      subst hP
      go_wp2
      go_end0
      exact ⟨rfl, HO.out, HB.out, HKP.out⟩
set_option maxHeartbeats 4000000 in
set_option maxRecDepth 20000 in
theorem pin1_T (g gb : Nat) (ts : List Tok) (x : Nd) (A : Option Addr) (c : Nat) (w0 w : World) (hO : OT 94 w0 w g ts) (hX : BX w gb g) (hB : Below w0.heap.size w0 w) (hr : Kd.C kCmps w0 A x.2.length x.2) (hc : costT ts + costT (tNd x) ≤ 1000000000) :
    Calls Try.prog 67 #[.agg #[.int .i64 x.1, .slice A x.2.length c], .pointer (some ⟨gb, 0, none⟩)] w (Wrote 94 w0 w g (ts ++ tNd x)) := by
  obtain ⟨s, r⟩ := x
  dsimp only at hr ⊢
  have hct : costT (tNd (s, r)) = 6 + costT (tRng r) := costT_num _ _
  obtain ⟨BX0, hBX0⟩ : ∃ o, o = Obj.cells #[.int .i64 s, .slice A r.length c] 148 := ⟨_, rfl⟩
  have hb1 := below_alloc (Below.refl w.heap.size w) BX0
  have hb2 := below_alloc hb1 (Obj.cells #[.int .i64 s] 3)
  have hs0 := heap_last w BX0
  have hbox := box_lit w BX0 (Obj.cells #[.int .i64 s] 3)
  have hL := lit_R (w.alloc BX0) 0 (Nat.zero_le _) s
  rw [World.size_alloc] at hL
  have K := Aside0.mk (out_num_T g ts 0 _ [s] w0 _ (hO.below hb2) (below_alloc (below_alloc hB _) _) hL (by simp; omega))
  have HK0 := Aside0.mk (Keeps.below (g := g) hb2)
  have HNE : Aside0 (w.heap.size ≠ g) := ⟨by have := hO.lt; omega⟩
  have hx0 := (blk_cell (hX.below hb1).1) 0
  have HX := Aside0.mk (hX.below hb2)
  have HR := Aside0.mk hr
  subst hBX0
  have HBOX := Aside0.mk hbox
  have hq0 := (blk_cell hs0) 0
  simp only [List.map_cons, List.map_nil] at K
  have hT : ts ++ tNd (s, r) = (ts ++ [Tok.num s]) ++ tRng r := by simp [tNd]
  rw [hT]
  have HC : Aside0 (costT (ts ++ [Tok.num s]) + costT (tRng r) ≤ 1000000000) := ⟨by rw [costT_app, costT_num, costT_nil]; omega⟩
  generalize ts ++ [Tok.num s] = us at K HC ⊢
  clear hO hX hB hc hb1 hb2 hs0 hbox hL hct hT hr
  go_enter Try.func67, Try.ntmps67
  go_wp2_with (fail)
  refine K.out.mono ?_
  rintro e w1 ⟨rfl, ho, hb, hk⟩
  have K1 := Aside0.mk (ranged_T g us r A c w0 w1 ho hb HR.out HC.out)
  have HK1 := Aside0.mk (HK0.out.trans hk)
  clear hx0 hq0
  have hx0 := (blk_cell (HX.out.keep hk).1) 0
  have hq1 := (blk_cell (box_keep HBOX.out hk HNE.out (by decide))) 1
  clear ho hb hk K
  go_wp2_with (fail)
  refine K1.out.mono ?_
  rintro e w2 ⟨rfl, ho, hb, hk⟩
  have HO := Aside0.mk ho
  have HB := Aside0.mk hb
  have HK2 := Aside0.mk (HK1.out.trans hk)
  clear ho hb hk K1
  go_wp2
  go_end0
  exact ⟨rfl, HO.out, HB.out, HK2.out⟩
theorem costT_pin_ (l : List Nd) (i : Nat) (h : i < l.length) (z : Nd) : costT ((l.drop i).flatMap tNd) = costT (tNd (l.getD i z)) + costT ((l.drop (i + 1)).flatMap tNd) := by
  rw [List.drop_eq_getElem_cons h, List.flatMap_cons, costT_app, List.getD_eq_getElem?_getD, List.getElem?_eq_getElem h]
  rfl
theorem flat_pin_ (l : List Nd) (i : Nat) (h : i < l.length) (z : Nd) : (l.drop i).flatMap tNd = tNd (l.getD i z) ++ (l.drop (i + 1)).flatMap tNd := by
  rw [List.drop_eq_getElem_cons h, List.flatMap_cons, List.getD_eq_getElem?_getD, List.getElem?_eq_getElem h]
  rfl
set_option maxHeartbeats 4000000 in
set_option maxRecDepth 20000 in
theorem list_pin_T (g gb : Nat) (ts : List Tok) (A : Option Addr) (c : Nat) (l : List Nd) (w0 w : World) (hO : OT 94 w0 w g ts) (hX : BX w gb g) (hB : Below w0.heap.size w0 w) (hr : Kd.C kNd w0 A l.length l) (hc : costT ts + costT (listT tNd l) ≤ 1000000000) (hl : l.length ≤ 1000000000) :
    Calls Try.prog 66 #[.pointer (some ⟨g, 0, none⟩), .slice A l.length c, .func (.func 67) #[] #[.pointer (some ⟨gb, 0, none⟩)]] w (Wrote 94 w0 w g (ts ++ listT tNd l)) := by
  have HR := Aside0.mk hr
  have HLEN := Aside0.mk hl
  have HX := Aside0.mk hX
  have hce : costT (listT tNd l) = 6 + costT (l.flatMap tNd) := costT_num _ _
  have K := Aside0.mk (out_num_T g ts w.heap.size _ [(l.length : Int)] w0 _ (hO.below (below_alloc (Below.refl w.heap.size w) (Obj.cells #[.int .i64 (l.length : Int)] 3))) (below_alloc hB _) (lit_R w w.heap.size (Nat.le_refl _) (l.length : Int)) (by simp; omega))
  have HK0 := Aside0.mk (Keeps.below (g := g) (below_alloc (Below.refl w.heap.size w) (Obj.cells #[.int .i64 (l.length : Int)] 3)))
  obtain ⟨us, hus⟩ : ∃ us, ts ++ listT tNd l = us := ⟨_, rfl⟩
  have HN0 : Aside0 (costT (ts ++ [.num (l.length : Int)]) + costT ((l.drop 0).flatMap tNd) ≤ 1000000000) := ⟨by rw [costT_app, costT_num, costT_nil, List.drop_zero]; omega⟩
  have HP : Aside0 ((ts ++ [.num (l.length : Int)]) ++ (l.drop 0).flatMap tNd = us) := ⟨by rw [← hus, List.drop_zero, listT, List.append_assoc]; rfl⟩
  rw [hus]
  simp only [List.map_cons, List.map_nil] at K
  generalize ts ++ [.num (l.length : Int)] = s0 at K HN0 HP
  clear hO hB hr hc hl hX hce hus
  go_enter Try.func66, Try.ntmps66
  go_wp2_with (fail)
  refine K.out.mono ?_
  rintro e w1 ⟨rfl, ho, hb, hk⟩
  have HO := Aside0.mk ho
  have HB := Aside0.mk hb
  have HKP := Aside0.mk (HK0.out.trans hk)
  clear ho hb hk K
  go_wp2
  go_loopg [7, 15] l.length (fun kq v7 v15 w' => ∃ (i : Nat) (s : List Tok), v15 = .int .i64 (i : Int) ∧ Aside0 (i + kq = l.length) ∧ Aside0 (costT s + costT ((l.drop i).flatMap tNd) ≤ 1000000000) ∧ Aside0 (s ++ (l.drop i).flatMap tNd = us) ∧ Aside0 (OT 94 w0 w' g s) ∧ Aside0 (Below w0.heap.size w0 w') ∧ Aside0 (Keeps w w' g))
  case atStart => exact ⟨0, s0, rfl, ⟨by omega⟩, HN0, HP, HO, HB, HKP⟩
  case round =>
    clear HO HB HP HN0 HKP
    obtain ⟨i, s, rfl, HI, HN, HP, HO, HB, HKP⟩ := hrel
    by_cases c1 : i < l.length
    · have e1 : decide (i < l.length) = true := decide_eq_true c1
      have e5 : wrap64 ((i : Int) + 1) = ((i + 1 : Nat) : Int) := by have := HLEN.out; unfold wrap64; omega
      obtain ⟨ad, cs, ea, hcl, hK, hcc⟩ := Kd.C_get HR.out (0, []) (i : Int) (by omega) (by omega)
      cases ea
      rw [Int.toNat_natCast] at hK hcc
      have hN := HN.out
      have hP := HP.out
      rw [costT_pin_ l i c1 (0, [])] at hN
      rw [flat_pin_ l i c1 (0, []), ← List.append_assoc] at hP
      generalize l.getD i (0, []) = x at hK hN hP
      obtain ⟨sv, rg⟩ := x
      obtain ⟨z0, z1, rfl, y0, ⟨Ae, ce, rfl, _, hCe⟩⟩ := hK
      cases y0
      have hx0 : wr.cell? (ad.add (i * 2)) = some (.int .i64 sv) := pw_cell_below HB.out (hcc 0 _ rfl)
      have hx1 : wr.cell? ⟨(ad.add (i * 2)).block, (ad.add (i * 2)).off + 1, none⟩ = some (.slice Ae rg.length ce) := (by have := (show w0.cell? (ad.add (i * 2 + 1)) = some (.slice Ae rg.length ce) from hcc 1 _ rfl); rw [show ad.add (i * 2 + 1) = (ad.add (i * 2)).add 1 from (Addr.add_add _ _ _).symm] at this; exact pw_cell_below HB.out this)
      have HN1 := Aside0.mk hN
      have HP1 := Aside0.mk hP
      have hbx := below_alloc (Below.refl wr.heap.size wr) (Obj.cells #[.int .i64 sv, .slice Ae rg.length ce] 148)
      have K := Aside0.mk (pin1_T g gb s (sv, rg) Ae ce w0 _ (HO.out.below hbx) ((HX.out.keep HKP.out).below hbx) (below_alloc HB.out _) hCe (by have := HN1.out; omega))
      clear hN hP hcc
      go_wp2_with (fail)
      refine K.out.mono ?_
      rintro e w2 ⟨rfl, ho, hb, hk⟩
      have HO1 := Aside0.mk ho
      have HB1 := Aside0.mk hb
      have HK1 := Aside0.mk ((HKP.out.trans (Keeps.below hbx)).trans hk)
      clear ho hb hk K
      go_wp2
      go_roundg (gk - 1)
      case measure => have := HI.out; omega
      case rel => exact ⟨i + 1, s ++ tNd (sv, rg), congrArg _ e5, ⟨by have := HI.out; omega⟩, ⟨by have := HN1.out; rw [costT_app]; omega⟩, HP1, HO1, HB1, HK1⟩
    · have e1 : decide (i < l.length) = false := decide_eq_false c1
      have hP := HP.out
      rw [List.drop_eq_nil_of_le (by omega), List.flatMap_nil, List.append_nil] at hP
      subst hP
      go_wp2
      go_end0
      exact ⟨rfl, HO.out, HB.out, HKP.out⟩
end Go.Proofs.Ythefbeekcjchcaa.P
