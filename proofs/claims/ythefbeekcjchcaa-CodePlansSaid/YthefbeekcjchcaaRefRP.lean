import Derived.Test.YthefbeekcjchcaaGetPlan
import Derived.Test.YthefbeekcjchcaaRefR
import Derived.Deep.RegionLaw
namespace Go.Proofs.Ythefbeekcjchcaa.P
open Go Go.RowKit Go.Proofs.YthefbeekcjchcaaW.PrintWords Go.Proofs.YthefbeekcjchcaaW.PrintLast Go.Proofs.YthefbeekcjchcaaW.PrintMore Go.Proofs.Ythefbeekcjchcaa.Pure
set_option linter.unusedVariables false
set_option linter.unusedSimpArgs false
/-- The document's reader in memory. -/
def RT (w0 w : World) (g : Nat) (B : List Int) (st : St) : Prop := ∃ i e, IsS39 w0 w g B i e ∧ RPos B st i e
theorem RT.below {w0 w w1 : World} {g : Nat} {B : List Int} {st : St} (h : RT w0 w g B st) (hb : Below w.heap.size w w1) : RT w0 w1 g B st := by
  obtain ⟨i, e, h1, h2⟩ := h
  exact ⟨i, e, h1.below hb, h2⟩
theorem RT.grown {w0 w w1 : World} {g : Nat} {B : List Int} {st : St} (h : RT w0 w g B st) {row : Option Nat} (hg : w.grownBy w1 row) (hne : some g ≠ row) : RT w0 w1 g B st := by
  obtain ⟨i, e, h1, h2⟩ := h
  exact ⟨i, e, h1.grown hg hne, h2⟩
theorem RT.lt {w0 w : World} {g : Nat} {B : List Int} {st : St} (h : RT w0 w g B st) : g < w.heap.size := by
  obtain ⟨i, e, h1, h2⟩ := h
  exact h1.lt
theorem RT.far {w0 w : World} {g b : Nat} {B : List Int} {st : St} (h : RT w0 w g B st) (hb : b ≠ g) (o : Nat) (v : Value) : RT w0 (w.setCell ⟨b, o, none⟩ v) g B st := by
  obtain ⟨i, e, ⟨A, c, h1, r⟩, h2⟩ := h
  exact ⟨i, e, ⟨A, c, (Below.heap_setCell w ⟨b, o, none⟩ v g hb.symm).trans h1, r⟩, h2⟩
theorem RT.ecell {w0 w : World} {g : Nat} {B : List Int} {st : St} (h : RT w0 w g B st) : ∃ e, w.cell? ⟨g, 2, none⟩ = some (.int .i64 e) ∧ ((e = 0 ∧ ∃ bs, st = .left bs) ∨ (e ≠ 0 ∧ st = .err e)) := by
  obtain ⟨i, e, ⟨A, c, h1, _⟩, ⟨j, _, _, h2⟩⟩ := h
  refine ⟨e, (blk_cell h1) 2, ?_⟩
  rcases h2 with ⟨h2, h3⟩ | h2
  · exact .inl ⟨h2, _, h3⟩
  · exact .inr h2
theorem Only.ofKeep {w w' : World} {g : Nat} (h : KeepBut w w' g none) : Only w w' g := ⟨h.1, fun k hk hg => h.2 k hk hg (by simp)⟩
def RTold {α : Type} (p : Rdr α) (V : Value → α → World → Prop) (w0 w : World) (g : Nat) (B : List Int) (st : St) (e : Ending) (w' : World) : Prop :=
  ∃ v x st', e = .returned v ∧ V v x w' ∧ Step p st x st' ∧ RT w0 w' g B st' ∧ Below w0.heap.size w0 w' ∧ Only w w' g
theorem R_num_R (g : Nat) (B : List Int) (hB0 : Bytes B ∧ B.length ≤ 1000000000) (st : St) (w0 w : World) (hI : RT w0 w g B st) (hB : Below w0.heap.size w0 w) :
    Calls Try.prog 41 #[.pointer (some ⟨g, 0, none⟩)] w (RTold rnum VInt w0 w g B st) := by
  obtain ⟨i, e, h1, h2⟩ := hI
  obtain ⟨x, i', e', st', h3, h4, ⟨K, h5⟩⟩ := Rnum_step B hB0.1 hB0.2 h2
  exact (slipwayref12_R_num.calls K g B i e x i' e' w0 w h1 hB (h5 K (Nat.le_refl _))).mono fun en w' ⟨he, hs, hb, hk⟩ => ⟨_, x, st', he, rfl, h3, ⟨i', e', hs, h4⟩, hb, Only.ofKeep hk⟩
theorem R_size_R (g : Nat) (B : List Int) (hB0 : Bytes B ∧ B.length ≤ 1000000000) (st : St) (w0 w : World) (hI : RT w0 w g B st) (hB : Below w0.heap.size w0 w) :
    Calls Try.prog 40 #[.pointer (some ⟨g, 0, none⟩)] w fun en w' => ∃ (n : Nat) (st' : St), en = .returned (.int .i64 (n : Int)) ∧ n ≤ 1000000000 ∧ Step rsize st (n : Int) st' ∧ RT w0 w' g B st' ∧ Below w0.heap.size w0 w' ∧ Only w w' g := by
  obtain ⟨i, e, h1, h2⟩ := hI
  obtain ⟨n, i', e', st', h3, h4, h6, _, ⟨K, h5⟩⟩ := Rsize_step B hB0.1 hB0.2 h2
  exact (slipwayref12_R_size.calls K g B i e n i' e' w0 w h1 hB (h5 K (Nat.le_refl _))).mono fun en w' ⟨he, hs, hb, hk⟩ => ⟨n, st', he, by have := hB0.2; omega, h3, ⟨i', e', hs, h4⟩, hb, Only.ofKeep hk⟩
def VSl (v : Value) (_ : List Int) (_ : World) : Prop := ∃ A n c, v = .slice A n c
theorem R_Ints_R (g : Nat) (B : List Int) (hB0 : Bytes B ∧ B.length ≤ 1000000000) (st : St) (w0 w : World) (hI : RT w0 w g B st) (hB : Below w0.heap.size w0 w) :
    Calls Try.prog 17 #[.pointer (some ⟨g, 0, none⟩)] w (RTold (rlist rnum) VSl w0 w g B st) := by
  obtain ⟨i, e, h1, h2⟩ := hI
  obtain ⟨x, i', e', st', h3, h4, ⟨K, h5⟩⟩ := Rints_step B hB0.1 hB0.2 h2
  refine (slipwayref12_R_Ints.calls K g B i e x i' e' w0 w h1 hB (h5 K (Nat.le_refl _))).mono fun en w' ⟨v, he, hr, hs, hb, hk⟩ => ?_
  obtain ⟨A, c, hv⟩ := Kd.R_slice hr
  exact ⟨v, x, st', he, ⟨A, _, c, hv⟩, h3, ⟨i', e', hs, h4⟩, hb, Only.ofKeep hk⟩
theorem R_End_R (g : Nat) (B : List Int) (st : St) (w0 w : World) (hI : RT w0 w g B st) (hB : Below w0.heap.size w0 w) :
    Calls Try.prog 18 #[.pointer (some ⟨g, 0, none⟩)] w fun en w' => en = .returned (.int .i64 st.fin) ∧ (∃ i, IsS39 w0 w' g B i st.fin) ∧ Below w0.heap.size w0 w' ∧ Only w w' g := by
  obtain ⟨i, e, h1, h2⟩ := hI
  exact (slipwayref12_R_End.calls g B i e st.fin i st.fin w0 w h1 hB (Rend_step B h2)).mono fun en w' ⟨he, hs, hb, hk⟩ => ⟨he, ⟨i, hs⟩, hb, Only.ofKeep hk⟩
theorem RT.new {w : World} {A : Option Addr} {c : Nat} {B : List Int} (hr : Kd.C (Kd.int .u8) w A B.length B) : RT w (w.alloc (.cells #[.slice A B.length c, .int .i64 0, .int .i64 0] 39)) w.heap.size B (.left B) :=
  ⟨0, 0, ⟨A, c, heap_last w _, Nat.le_refl _, hr⟩, RPos.start B⟩
theorem RT.ne {w0 w : World} {g : Nat} {B : List Int} {e : Int} (h : RT w0 w g B (.err e)) : e ≠ 0 := by
  obtain ⟨i, e', _, ⟨j, _, _, h2⟩⟩ := h
  rcases h2 with ⟨_, h2⟩ | ⟨h1, h2⟩
  · cases h2
  · cases h2; exact h1
theorem lit_stp (W : World) (x y : Int) (T : TypeId) : ReadsRow (fun (p : Stp) cs => cs = [.int .i64 p.1, .int .i64 p.2]) 2 (W.alloc (.cells #[.int .i64 x, .int .i64 y] T)) (some ⟨W.heap.size, 0, none⟩) 1 [(x, y)] := by
  refine ⟨rfl, by decide, fun _ => ⟨_, rfl, fun j p hj => ?_⟩⟩
  match j, hj with
  | 0, hj =>
    cases hj
    refine ⟨_, rfl, rfl, fun i u hu => ?_⟩
    match i, hu with
    | 0, hu => cases hu; exact (blk_cell (heap_last W (.cells #[.int .i64 x, .int .i64 y] T))) 0
    | 1, hu => cases hu; exact (blk_cell (heap_last W (.cells #[.int .i64 x, .int .i64 y] T))) 1
theorem info_rstp : (Try.prog.info? 52).map (fun i => (i.zero, i.size, i.bytes)) = some (some (.agg #[.int .i64 0, .int .i64 0]), 2, 16) := by kernel_rfl
theorem box_set {w : World} {b t o : Nat} {cs : Array Value} (h : w.heap[b]? = some (.cells cs t (0, 0))) (v : Value) : (w.setCell ⟨b, o, none⟩ v).heap[b]? = some (.cells (cs.set! o v) t (0, 0)) := by
  obtain ⟨hlt, hv⟩ := Array.getElem?_eq_some_iff.1 h
  simp [World.setCell, Array.getElem?_modify, h]
set_option maxHeartbeats 8000000 in
set_option maxRecDepth 20000 in
theorem R_Plan_R (g : Nat) (B : List Int) (hB0 : Bytes B ∧ B.length ≤ 1000000000) (st : St) (w0 w : World) (hI : RT w0 w g B st) (hB : Below w0.heap.size w0 w) :
    Calls Try.prog 22 #[.pointer (some ⟨g, 0, none⟩)] w (RTold rPln (fun _ _ _ => True) w0 w g B st) := by
  have HBB := Aside0.mk hB0
  obtain ⟨Z, hZ⟩ : ∃ o, o = Obj.cells #[.slice none 0 0, .slice none 0 0, .slice none 0 0, .slice none 0 0] 49 := ⟨_, rfl⟩
  have hbx := below_alloc (below_alloc (Below.refl w.heap.size w) Z) Z
  have hK0 := Only.below g hbx
  have hz0 := ((below_alloc (Below.refl _ (w.alloc Z)) Z).block w.heap.size (by rw [World.size_alloc]; omega)).trans (heap_last w Z)
  have hz1 := heap_last (w.alloc Z) Z
  rw [World.size_alloc] at hz1
  have hs2 : ((w.alloc Z).alloc Z).heap.size = w.heap.size + 2 := by rw [World.size_alloc, World.size_alloc]
  have HG : Aside0 (g < w.heap.size) := ⟨hI.lt⟩
  have HLE := Aside0.mk hB.size
  have K := Aside0.mk (R_Ints_R g B hB0 st w0 ((w.alloc Z).alloc Z) (hI.below hbx) (below_alloc (below_alloc hB Z) Z))
  subst hZ
  have HZ0 := Aside0.mk hz0
  have HZ1 := Aside0.mk hz1
  have HK0 := Aside0.mk hK0
  have HSZ := Aside0.mk hs2
  clear hB0 hbx hz0 hz1 hI hB hK0 hs2
  go_enter Try.func22, Try.ntmps22
  go_wp2_with (fail)
  refine K.out.mono ?_
  rintro e w1 ⟨v0, x0, st1, rfl, ⟨A0, n0, c0, rfl⟩, hs, hi, hb, hk⟩
  have HY0 := Aside0.mk ((hk.2 w.heap.size (by have := HSZ.out; omega) (by have := HG.out; omega)).trans HZ0.out)
  have HY1 := Aside0.mk ((hk.2 (w.heap.size + 1) (by have := HSZ.out; omega) (by have := HG.out; omega)).trans HZ1.out)
  have hq := (blk_cell HY1.out) 0
  have hf := free_of HY1.out 0
  have HS1 := Aside0.mk hs
  have HN1 : Aside0 (w.heap.size + 2 ≤ w1.heap.size) := ⟨by have := HSZ.out; have := hk.1; omega⟩
  have HK1 := Aside0.mk ((HK0.out.trans hk).far (b := w.heap.size + 1) (by omega) 0 (.slice A0 n0 c0))
  have K1 := Aside0.mk (R_Ints_R g B HBB.out st1 w0 (w1.setCell ⟨w.heap.size + 1, 0, none⟩ (.slice A0 n0 c0)) (hi.far (by have := HG.out; omega) _ _) (hb.setCell (p := ⟨w.heap.size + 1, 0, none⟩) (by have := HLE.out; show _ ≤ w.heap.size + 1; omega) _))
  have HX0 := Aside0.mk ((Below.heap_setCell w1 ⟨w.heap.size + 1, 0, none⟩ (.slice A0 n0 c0) w.heap.size (by simp)).trans HY0.out)
  have HX1 := Aside0.mk (box_set (o := 0) HY1.out (.slice A0 n0 c0))
  clear hs hi hb hk K HZ0 HZ1 HK0 HSZ HY0 HY1
  go_wp2_with (fail)
  refine K1.out.mono ?_
  rintro e w2 ⟨v1, x1, st2, rfl, ⟨A1, n1, c1, rfl⟩, hs, hi, hb, hk⟩
  have HN2 : Aside0 (w.heap.size + 2 ≤ w2.heap.size) := ⟨by have := HN1.out; have := hk.1; rw [World.size_setCell] at this; omega⟩
  have HY0 := Aside0.mk ((hk.2 w.heap.size (by have := HN1.out; rw [World.size_setCell]; omega) (by have := HG.out; omega)).trans HX0.out)
  have HY1 := Aside0.mk ((hk.2 (w.heap.size + 1) (by have := HN1.out; rw [World.size_setCell]; omega) (by have := HG.out; omega)).trans HX1.out)
  clear hq hf
  have hq := (blk_cell HY1.out) 1
  have hf := free_of HY1.out 1
  have HS2 := Aside0.mk hs
  have HK2 := Aside0.mk ((HK1.out.trans hk).far (b := w.heap.size + 1) (by omega) 1 (.slice A1 n1 c1))
  have K2 := Aside0.mk (R_size_R g B HBB.out st2 w0 (w2.setCell ⟨w.heap.size + 1, 1, none⟩ (.slice A1 n1 c1)) (hi.far (by have := HG.out; omega) _ _) (hb.setCell (p := ⟨w.heap.size + 1, 1, none⟩) (by have := HLE.out; show _ ≤ w.heap.size + 1; omega) _))
  have HX2 := Aside0.mk ((Below.heap_setCell w2 ⟨w.heap.size + 1, 1, none⟩ (.slice A1 n1 c1) w.heap.size (by simp)).trans HY0.out)
  have HX3 := Aside0.mk (box_set (o := 1) HY1.out (.slice A1 n1 c1))
  clear hs hi hb hk K1 HX0 HX1 HK1 HY0 HY1 HN1
  go_wp2_with (fail)
  refine K2.out.mono ?_
  rintro e w3 ⟨m, st3, rfl, hm, hs, hi, hb, hk⟩
  have HN3 : Aside0 (w.heap.size + 2 ≤ w3.heap.size) := ⟨by have := HN2.out; have := hk.1; rw [World.size_setCell] at this; omega⟩
  have HY0 := Aside0.mk ((hk.2 w.heap.size (by have := HN2.out; rw [World.size_setCell]; omega) (by have := HG.out; omega)).trans HX2.out)
  have HY1 := Aside0.mk ((hk.2 (w.heap.size + 1) (by have := HN2.out; rw [World.size_setCell]; omega) (by have := HG.out; omega)).trans HX3.out)
  have HS3 := Aside0.mk hs
  have HM := Aside0.mk hm
  have HI3 := Aside0.mk hi
  have HB3 := Aside0.mk hb
  have HK3 := Aside0.mk (HK2.out.trans hk)
  clear hs hi hb hk hm K2 HX2 HX3 HK2 HN2 hq hf
  go_wp2
  go_loopg [5, 6] m (fun kq v5 v6 w' => ∃ (i : Nat) (out : List Stp) (s : St) (A2 : Option Addr) (c2 : Nat), v5 = .int .i64 (i : Int) ∧ Aside0 (i + kq = m) ∧ Aside0 (out.length = i) ∧ Aside0 (Goes rStp m st3 kq out s) ∧ Aside0 (RT w0 w' g B s) ∧ Aside0 (Kd.R kStp 52 w' w.heap.size (fun k => k ≠ g) (.slice A2 out.length c2) out) ∧ Aside0 (w'.heap[w.heap.size]? = some (.cells #[.slice none 0 0, .slice none 0 0, .slice none 0 0, .slice none 0 0] 49)) ∧ Aside0 (w'.heap[w.heap.size + 1]? = some (.cells #[.slice A0 n0 c0, .slice A1 n1 c1, .slice A2 out.length c2, .slice none 0 0] 49)) ∧ Aside0 (Below w0.heap.size w0 w') ∧ Aside0 (Only w w' g))
  case atStart => exact ⟨0, [], st3, none, 0, rfl, ⟨by omega⟩, ⟨rfl⟩, ⟨Goes.start _ _ _⟩, HI3, ⟨Kd.R_nil _ _ _ _ _⟩, HY0, HY1, HB3, HK3⟩
  case round =>
    clear HI3 HY0 HY1 HB3 HK3
    obtain ⟨i, out, s, A2, c2, rfl, HJ, HOL, HGO, HI, HO, HY0, HY1, HB, HK⟩ := hrel
    obtain ⟨ee, hc1, hee⟩ := HI.out.ecell
    have HEE := Aside0.mk hee
    clear hee
    by_cases hgo : 0 < gk ∧ ee = 0
    · obtain ⟨hgk, he⟩ := hgo
      have e1 : decide (i < m) = true := decide_eq_true (by have := HJ.out; omega)
      have e5 : wrap64 ((i : Int) + 1) = ((i + 1 : Nat) : Int) := by have := HJ.out; have := HM.out; unfold wrap64; omega
      have h0 : (ee == 0) = true := beq_iff_eq.2 he
      obtain ⟨gn, hgn⟩ : ∃ gn, gk = gn + 1 := ⟨gk - 1, by omega⟩
      have HGN := Aside0.mk hgn
      have hG := HGO.out
      rw [hgn] at hG
      have HG1 := Aside0.mk hG
      have K := Aside0.mk (R_num_R g B HBB.out _ w0 wr HI.out HB.out)
      clear he hgk hgn hG
      go_wp2_with (fail)
      refine K.out.mono ?_
      rintro e w4 ⟨v, x, s1, rfl, hv, hs, hi, hb, hk⟩
      have hv' : v = .int .i64 x := hv
      subst hv'
      have HY0a := Aside0.mk ((hk.2 w.heap.size (blk_lt HY0.out) (by have := HG.out; omega)).trans HY0.out)
      have HY1a := Aside0.mk ((hk.2 (w.heap.size + 1) (blk_lt HY1.out) (by have := HG.out; omega)).trans HY1.out)
      have HO4 := Aside0.mk (R_only HO.out hk)
      have HK4 := Aside0.mk (HK.out.trans hk)
      have HS4 := Aside0.mk hs
      have hd4 := below_drew (Below.refl w4.heap.size w4)
      have hq4 : w4.drew.cell? ⟨w.heap.size + 1, 2, none⟩ = some (.slice A2 out.length c2) := (blk_cell HY1a.out) 2
      have K' := Aside0.mk (R_num_R g B HBB.out s1 w0 w4.drew (hi.below hd4) (below_drew hb))
      clear K hs hi hb hk hd4 hv hc1
      go_wp2
      go_region_law (first
        | (go_simp; go_at_call 41; refine K'.out.mono ?_; rintro e w5 ⟨v, y, s2, rfl, hv, hs, hi, hb, hk⟩; have hv' : v = .int .i64 y := hv; subst hv'; have HY0b := Aside0.mk ((hk.2 w.heap.size (blk_lt HY0a.out) (by have := HG.out; omega)).trans HY0a.out); have HY1b := Aside0.mk ((hk.2 (w.heap.size + 1) (blk_lt HY1a.out) (by have := HG.out; omega)).trans HY1a.out); have HO5 := Aside0.mk (R_only (Kd.R_below HO4.out (below_drew (Below.refl _ _))) hk); have HK5 := Aside0.mk ((HK4.out.trans (Only.below g (below_drew (Below.refl _ _)))).trans hk); have HS5 := Aside0.mk hs; have HI5 := Aside0.mk hi; have HB5 := Aside0.mk hb; have hq5 := (blk_cell HY1b.out) 2; have hb7 := below_alloc (Below.refl w5.heap.size w5) (Obj.cells #[.int .i64 x, .int .i64 y] 52); have HY1c := Aside0.mk ((hb7.block _ (blk_lt HY1b.out)).trans HY1b.out); have HY0c := Aside0.mk ((hb7.block _ (blk_lt HY0b.out)).trans HY0b.out); have hq7 := (blk_cell HY1c.out) 2; have HO7 := Aside0.mk (Kd.R_below HO5.out hb7); have HL7 := Aside0.mk (lit_stp w5 x y 52); have HI7 := Aside0.mk (hi.below hb7); have HB7 := Aside0.mk (below_alloc hb (Obj.cells #[.int .i64 x, .int .i64 y] 52)); have HK7 := Aside0.mk (HK5.out.trans (Only.below g hb7)); clear K' hv hs hi hb hk hb7)
        | (refine Kd.R_append_rows_step kStp (w0 := w5.alloc (.cells #[.int .i64 x, .int .i64 y] 52)) w.heap.size (by simp [Region.wanted]) (.tmp 32) (.tmp 37) 47 52 (.agg #[.int .i64 0, .int .i64 0]) 16 rfl Try.underlying47 info_rstp rfl (by decide) (by decide) (.slice A2 out.length c2) out [(x, y)] (some ⟨w5.heap.size, 0, none⟩) 1 1 (fun k => k ≠ g) (fun k => k ≠ g ∧ some k ≠ (Value.slice A2 out.length c2).ownBlock) (by simp [Act.eval, Act.put]) (by simp [Act.eval, Act.put]) HO7.out HL7.out (fun p cs h => ⟨[_], [_], h, rfl, rfl⟩) (fun k hk => hk) (fun k hk => by have := HI7.out.lt; omega) (Below.refl _ _) HK7.out.1 (by have := HOL.out; have := HJ.out; have := HM.out; omega) ?_; intro v44 w8 ho hb hgr hat; obtain ⟨A8, c8, rfl⟩ := Kd.R_slice ho; have HO8 := Aside0.mk ho; have HB8 := Aside0.mk (HB7.out.trans (hb.mono HLE.out)); have HI8 := Aside0.mk (HI7.out.grown hgr (Kd.R_away HO7.out (fun k hk => hk))); have HK8 := Aside0.mk (HK7.out.belowG hb hgr.size); have HY1d := Aside0.mk ((hgr.block _ (blk_lt HY1c.out) (Kd.R_ne HO7.out HY1c.out (by decide))).trans HY1c.out); have HY0d := Aside0.mk ((hgr.block _ (blk_lt HY0c.out) (Kd.R_ne HO7.out HY0c.out (by decide))).trans HY0c.out); have hq8 := (blk_cell HY1d.out) 2; have hf8 := free_of HY1d.out 2; clear ho hb hgr hat))
      all_goals
        go_wp2
        go_roundg gn
        case measure => have := HGN.out; omega
        case rel =>
          have HYE := box_set (o := 2) HY1d.out (.slice A8 (out.length + 1) c8)
          refine ⟨i + 1, out ++ [(x, y)], s2, A8, c8, (by first | exact congrArg _ e5 | rfl), ⟨by have := HJ.out; have := HGN.out; omega⟩, ⟨by simp [HOL.out]⟩, ⟨HG1.out.next (Step.bind HS4.out (Step.map (f := fun b => (x, b)) HS5.out))⟩, ⟨HI8.out.far (by have := HG.out; omega) _ _⟩, ⟨Kd.R_set HO8.out HY1d.out (by decide) _ _⟩, ⟨(Below.heap_setCell _ ⟨w.heap.size + 1, 2, none⟩ _ w.heap.size (by simp)).trans HY0d.out⟩, ⟨by rw [len_snoc]; exact HYE⟩, ⟨HB8.out.setCell (p := ⟨w.heap.size + 1, 2, none⟩) (by have := HLE.out; show _ ≤ w.heap.size + 1; omega) _⟩, ⟨HK8.out.far (b := w.heap.size + 1) (by omega) _ _⟩⟩
    · have HT : Aside0 (∃ ys, Step (rmany rStp m) st3 ys s) := ⟨by
        rcases HEE.out with ⟨he, _⟩ | ⟨he, rfl⟩
        · have h0 : gk = 0 := by omega
          have := HGO.out
          rw [h0] at this
          exact ⟨_, this.done⟩
        · exact ⟨[], HGO.out.fails []⟩⟩
      have hex : decide (i < m) = false ∨ (decide (i < m) = true ∧ (ee == 0) = false) := by
        rcases HEE.out with ⟨he, _⟩ | ⟨he, rfl⟩
        · exact .inl (decide_eq_false (by have := HJ.out; omega))
        · by_cases h1 : i < m
          · exact .inr ⟨decide_eq_true h1, beq_eq_false_iff_ne.2 he⟩
          · exact .inl (decide_eq_false h1)
      clear hgo HEE HGO HJ HOL
      have HT0 := HT
      clear HT
      have K := Aside0.mk (R_size_R g B HBB.out s w0 wr HI.out HB.out)
      clear HO
      rcases hex with e1 | ⟨e1, h0⟩
      all_goals
        go_wp2_with (fail)
        refine K.out.mono ?_
        rintro e w5 ⟨m2, st5, rfl, hm, hs, hi, hb, hk⟩
        have HS5 := Aside0.mk hs
        have HM2 := Aside0.mk hm
        have HI5 := Aside0.mk hi
        have HB5 := Aside0.mk hb
        have HYa := Aside0.mk ((hk.2 w.heap.size (blk_lt HY0.out) (by have := HG.out; omega)).trans HY0.out)
        have HYb := Aside0.mk ((hk.2 (w.heap.size + 1) (blk_lt HY1.out) (by have := HG.out; omega)).trans HY1.out)
        have HK5 := Aside0.mk (HK.out.trans hk)
        clear K hm hs hi hb hk hc1 HY0 HY1 HI HB HK
        obtain ⟨L2, hL2⟩ : ∃ L, out.length = L := ⟨_, rfl⟩
        rw [hL2] at HYb
        clear hL2 e1
        obtain ⟨wo, hwo⟩ : ∃ wo : World, wo = wr := ⟨_, rfl⟩
        clear hwo
        have HM := HM2
        clear HM2
        go_wp2
        go_loopg [7, 8] m2 (fun kq v7 v8 w' => ∃ (i : Nat) (out : List Stp) (s : St) (A3 : Option Addr) (c3 : Nat), v7 = .int .i64 (i : Int) ∧ Aside0 (i + kq = m2) ∧ Aside0 (out.length = i) ∧ Aside0 (Goes rStp m2 st5 kq out s) ∧ Aside0 (RT w0 w' g B s) ∧ Aside0 (Kd.R kStp 100 w' w.heap.size (fun k => k ≠ g) (.slice A3 out.length c3) out) ∧ Aside0 (w'.heap[w.heap.size]? = some (.cells #[.slice none 0 0, .slice none 0 0, .slice none 0 0, .slice none 0 0] 49)) ∧ Aside0 (w'.heap[w.heap.size + 1]? = some (.cells #[.slice A0 n0 c0, .slice A1 n1 c1, .slice A2 L2 c2, .slice A3 out.length c3] 49)) ∧ Aside0 (Below w0.heap.size w0 w') ∧ Aside0 (Only w w' g))
        case atStart => exact ⟨0, [], st5, none, 0, rfl, ⟨by omega⟩, ⟨rfl⟩, ⟨Goes.start _ _ _⟩, HI5, ⟨Kd.R_nil _ _ _ _ _⟩, HYa, HYb, HB5, HK5⟩
        case round =>
          clear HI5 HYa HYb HB5 HK5
          obtain ⟨i, out, s, A3, c3, rfl, HJ, HOL, HGO, HI, HO, HY0, HY1, HB, HK⟩ := hrel
          obtain ⟨ee, hc1, hee⟩ := HI.out.ecell
          have HEE := Aside0.mk hee
          clear hee
          by_cases hgo : 0 < gk ∧ ee = 0
          · obtain ⟨hgk, he⟩ := hgo
            have e1 : decide (i < m2) = true := decide_eq_true (by have := HJ.out; omega)
            have e5 : wrap64 ((i : Int) + 1) = ((i + 1 : Nat) : Int) := by have := HJ.out; have := HM.out; unfold wrap64; omega
            have h0 : (ee == 0) = true := beq_iff_eq.2 he
            obtain ⟨gn, hgn⟩ : ∃ gn, gk = gn + 1 := ⟨gk - 1, by omega⟩
            have HGN := Aside0.mk hgn
            have hG := HGO.out
            rw [hgn] at hG
            have HG1 := Aside0.mk hG
            have K := Aside0.mk (R_num_R g B HBB.out _ w0 wr HI.out HB.out)
            clear he hgk hgn hG
            go_wp2_with (fail)
            refine K.out.mono ?_
            rintro e w4 ⟨v, x, s1, rfl, hv, hs, hi, hb, hk⟩
            have hv' : v = .int .i64 x := hv
            subst hv'
            have HY0a := Aside0.mk ((hk.2 w.heap.size (blk_lt HY0.out) (by have := HG.out; omega)).trans HY0.out)
            have HY1a := Aside0.mk ((hk.2 (w.heap.size + 1) (blk_lt HY1.out) (by have := HG.out; omega)).trans HY1.out)
            have HO4 := Aside0.mk (R_only HO.out hk)
            have HK4 := Aside0.mk (HK.out.trans hk)
            have HS4 := Aside0.mk hs
            have hd4 := below_drew (Below.refl w4.heap.size w4)
            have hq4 : w4.drew.cell? ⟨w.heap.size + 1, 3, none⟩ = some (.slice A3 out.length c3) := (blk_cell HY1a.out) 3
            have KK := Aside0.mk (R_num_R g B HBB.out s1 w0 w4.drew (hi.below hd4) (below_drew hb))
            clear K hs hi hb hk hd4 hv hc1
            go_wp2
            go_region_law (first
              | (go_simp; go_at_call 41; refine KK.out.mono ?_; rintro e w5 ⟨v, y, s2, rfl, hv, hs, hi, hb, hk⟩; have hv' : v = .int .i64 y := hv; subst hv'; have HY0b := Aside0.mk ((hk.2 w.heap.size (blk_lt HY0a.out) (by have := HG.out; omega)).trans HY0a.out); have HY1b := Aside0.mk ((hk.2 (w.heap.size + 1) (blk_lt HY1a.out) (by have := HG.out; omega)).trans HY1a.out); have HO5 := Aside0.mk (R_only (Kd.R_below HO4.out (below_drew (Below.refl _ _))) hk); have HK5 := Aside0.mk ((HK4.out.trans (Only.below g (below_drew (Below.refl _ _)))).trans hk); have HS5 := Aside0.mk hs; have HI5 := Aside0.mk hi; have HB5 := Aside0.mk hb; have hq5 := (blk_cell HY1b.out) 3; have hb7 := below_alloc (Below.refl w5.heap.size w5) (Obj.cells #[.int .i64 x, .int .i64 y] 100); have HY1c := Aside0.mk ((hb7.block _ (blk_lt HY1b.out)).trans HY1b.out); have HY0c := Aside0.mk ((hb7.block _ (blk_lt HY0b.out)).trans HY0b.out); have hq7 := (blk_cell HY1c.out) 3; have HO7 := Aside0.mk (Kd.R_below HO5.out hb7); have HL7 := Aside0.mk (lit_stp w5 x y 100); have HI7 := Aside0.mk (hi.below hb7); have HB7 := Aside0.mk (below_alloc hb (Obj.cells #[.int .i64 x, .int .i64 y] 100)); have HK7 := Aside0.mk (HK5.out.trans (Only.below g hb7)); clear KK hv hs hi hb hk hb7)
              | (refine Kd.R_append_rows_step kStp (w0 := w5.alloc (.cells #[.int .i64 x, .int .i64 y] 100)) w.heap.size (by simp [Region.wanted]) (.tmp 57) (.tmp 62) 44 100 (.agg #[.int .i64 0, .int .i64 0]) 16 rfl Try.underlying44 info_pr rfl (by decide) (by decide) (.slice A3 out.length c3) out [(x, y)] (some ⟨w5.heap.size, 0, none⟩) 1 1 (fun k => k ≠ g) (fun k => k ≠ g ∧ some k ≠ (Value.slice A3 out.length c3).ownBlock) (by simp [Act.eval, Act.put]) (by simp [Act.eval, Act.put]) HO7.out HL7.out (fun p cs h => ⟨[_], [_], h, rfl, rfl⟩) (fun k hk => hk) (fun k hk => by have := HI7.out.lt; omega) (Below.refl _ _) HK7.out.1 (by have := HOL.out; have := HJ.out; have := HM.out; omega) ?_; intro v44 w8 ho hb hgr hat; obtain ⟨A8, c8, rfl⟩ := Kd.R_slice ho; have HO8 := Aside0.mk ho; have HB8 := Aside0.mk (HB7.out.trans (hb.mono HLE.out)); have HI8 := Aside0.mk (HI7.out.grown hgr (Kd.R_away HO7.out (fun k hk => hk))); have HK8 := Aside0.mk (HK7.out.belowG hb hgr.size); have HY1d := Aside0.mk ((hgr.block _ (blk_lt HY1c.out) (Kd.R_ne HO7.out HY1c.out (by decide))).trans HY1c.out); have HY0d := Aside0.mk ((hgr.block _ (blk_lt HY0c.out) (Kd.R_ne HO7.out HY0c.out (by decide))).trans HY0c.out); have hq8 := (blk_cell HY1d.out) 3; have hf8 := free_of HY1d.out 3; clear ho hb hgr hat))
            all_goals
              go_wp2
              go_roundg gn
              case measure => have := HGN.out; omega
              case rel =>
                have HYE := box_set (o := 3) HY1d.out (.slice A8 (out.length + 1) c8)
                refine ⟨i + 1, out ++ [(x, y)], s2, A8, c8, (by first | exact congrArg _ e5 | rfl), ⟨by have := HJ.out; have := HGN.out; omega⟩, ⟨by simp [HOL.out]⟩, ⟨HG1.out.next (Step.bind HS4.out (Step.map (f := fun b => (x, b)) HS5.out))⟩, ⟨HI8.out.far (by have := HG.out; omega) _ _⟩, ⟨Kd.R_set HO8.out HY1d.out (by decide) _ _⟩, ⟨(Below.heap_setCell _ ⟨w.heap.size + 1, 3, none⟩ _ w.heap.size (by simp)).trans HY0d.out⟩, ⟨by rw [len_snoc]; exact HYE⟩, ⟨HB8.out.setCell (p := ⟨w.heap.size + 1, 3, none⟩) (by have := HLE.out; show _ ≤ w.heap.size + 1; omega) _⟩, ⟨HK8.out.far (b := w.heap.size + 1) (by omega) _ _⟩⟩
          · have HT : Aside0 (∃ ys, Step (rmany rStp m2) st5 ys s) := ⟨by
              rcases HEE.out with ⟨he, _⟩ | ⟨he, rfl⟩
              · have h0 : gk = 0 := by omega
                have := HGO.out
                rw [h0] at this
                exact ⟨_, this.done⟩
              · exact ⟨[], HGO.out.fails []⟩⟩
            have hex : decide (i < m2) = false ∨ (decide (i < m2) = true ∧ (ee == 0) = false) := by
              rcases HEE.out with ⟨he, _⟩ | ⟨he, rfl⟩
              · exact .inl (decide_eq_false (by have := HJ.out; omega))
              · by_cases h1 : i < m2
                · exact .inr ⟨decide_eq_true h1, beq_eq_false_iff_ne.2 he⟩
                · exact .inl (decide_eq_false h1)
            clear hgo HEE HGO HJ HOL
            have hq0 := (blk_cell HY1.out) 0
            have hq1 := (blk_cell HY1.out) 1
            have hq2 := (blk_cell HY1.out) 2
            have hq3 := (blk_cell HY1.out) 3
            have hz0 := (blk_cell HY0.out) 0
            have hz1 := (blk_cell HY0.out) 1
            have hz2 := (blk_cell HY0.out) 2
            have hz3 := (blk_cell HY0.out) 3
            have hf0 := free_of HY0.out 0
            have hf1 := free_of HY0.out 1
            have hf2 := free_of HY0.out 2
            have hf3 := free_of HY0.out 3
            rcases hex with e1 | ⟨e1, h0⟩
            all_goals
              go_wp2
              refine bodyPost_ret (v := .agg #[.slice A0 n0 c0, .slice A1 n1 c1, .slice A2 L2 c2, .slice A3 out.length c3]) (by simp [results, Try.results22, go_sem, hz0, hz1, hz2, hz3]) rfl ?_
              obtain ⟨y0, t0⟩ := HT0.out
              obtain ⟨y1, t1⟩ := HT.out
              exact ⟨_, (x0, x1, y0, y1), s, rfl, trivial, Step.bind HS1.out (Step.map (f := fun y => (x0, y)) (Step.bind HS2.out (Step.map (f := fun y => (x1, y)) (Step.bind (Step.list HS3.out t0) (Step.map (f := fun y => (y0, y)) (Step.list HS5.out t1)))))), (((HI.out.far (by have := HG.out; omega) _ _).far (by have := HG.out; omega) _ _).far (by have := HG.out; omega) _ _).far (by have := HG.out; omega) _ _, (((HB.out.setCell (p := ⟨w.heap.size, 0, none⟩) HLE.out _).setCell (p := ⟨w.heap.size, 1, none⟩) HLE.out _).setCell (p := ⟨w.heap.size, 2, none⟩) HLE.out _).setCell (p := ⟨w.heap.size, 3, none⟩) HLE.out _, (((HK.out.far (Nat.le_refl _) _ _).far (Nat.le_refl _) _ _).far (Nat.le_refl _) _ _).far (Nat.le_refl _) _ _⟩
end Go.Proofs.Ythefbeekcjchcaa.P
