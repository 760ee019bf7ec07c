/- The document's reader: versions, ranges; what they give is not told. -/
import Derived.Test.YthefbeekcjchcaaRefW
import Derived.Deep.RegionLaw
namespace Go.Proofs.Ythefbeekcjchcaa.P
open Go Go.RowKit Go.Proofs.YthefbeekcjchcaaW.PrintWords Go.Proofs.YthefbeekcjchcaaW.PrintLast Go.Proofs.YthefbeekcjchcaaW.PrintMore
set_option linter.unusedVariables false
set_option linter.unusedSimpArgs false
set_option maxHeartbeats 8000000 in
set_option maxRecDepth 20000 in
theorem R_version_Q (g : Nat) (B : List Int) (hB0 : Bytes B ∧ B.length ≤ 1000000000) (st : St) (w0 w : World) (hI : RQ w0 w g B st) (hB : Below w0.heap.size w0 w) :
    Calls Try.prog 100 #[.pointer (some ⟨g, 0, none⟩)] w (RTell rVer VVer w0 w g B st) := by
  have HBB := Aside0.mk hB0
  obtain ⟨Z, hZ⟩ : ∃ o, o = Obj.cells #[.int .i64 0, .int .i64 0, .int .i64 0, .string ⟨#[]⟩] 122 := ⟨_, rfl⟩
  have hbx := below_alloc (below_alloc (Below.refl w.heap.size w) Z) Z
  have hK0 := Only.below g hbx
  have hz0 := ((below_alloc (Below.refl _ (w.alloc Z)) Z).block w.heap.size (by rw [World.size_alloc]; omega)).trans (heap_last w Z)
  have hz1 := heap_last (w.alloc Z) Z
  rw [World.size_alloc] at hz1
  have hs2 : w.heap.size + 2 ≤ ((w.alloc Z).alloc Z).heap.size := by rw [World.size_alloc, World.size_alloc]; omega
  have HG : Aside0 (g < w.heap.size) := ⟨hI.lt⟩
  have HLE := Aside0.mk hB.size
  have K := Aside0.mk (R_num_Q g B hB0 st w0 ((w.alloc Z).alloc Z) (hI.below hbx) (below_alloc (below_alloc hB Z) Z))
  subst hZ
  have HZ0 := Aside0.mk hz0
  have HZ1 := Aside0.mk hz1
  have HK0 := Aside0.mk hK0
  have HN0 := Aside0.mk hs2
  clear hB0 hbx hz0 hz1 hI hB hK0 hs2
  go_enter Try.func100, Try.ntmps100
  go_wp2_with (fail)
  refine K.out.mono ?_
  rintro e w1 ⟨v, a, st1, rfl, hv, hs, hi, hb, hk⟩
  have hv' : v = .int .i64 a := hv
  subst hv'
  have HS1 := Aside0.mk hs
  have HN1 : Aside0 (w.heap.size + 2 ≤ w1.heap.size) := ⟨by have := HN0.out; have := hk.1; omega⟩
  have HY0 := Aside0.mk ((hk.2 w.heap.size (by have := HN0.out; omega) (by have := HG.out; omega)).trans HZ0.out)
  have HY1 := Aside0.mk ((hk.2 (w.heap.size + 1) (by have := HN0.out; omega) (by have := HG.out; omega)).trans HZ1.out)
  have hq1 := (blk_cell HY1.out) 0
  have hf1 := free_of HY1.out 0
  have K' := Aside0.mk (R_num_Q g B HBB.out st1 w0 (w1.setCell ⟨w.heap.size + 1, 0, none⟩ (.int .i64 a)) (hi.far (by have := HG.out; omega) _ _) (hb.setCell (p := ⟨w.heap.size + 1, 0, none⟩) (by have := HLE.out; show _ ≤ w.heap.size + 1; omega) _))
  clear HZ0 HZ1
  have HZ0 := Aside0.mk ((Below.heap_setCell w1 ⟨w.heap.size + 1, 0, none⟩ (.int .i64 a) w.heap.size (by simp)).trans HY0.out)
  have HZ1 := Aside0.mk (box_set (o := 0) HY1.out (.int .i64 a))
  have HK1 := Aside0.mk ((HK0.out.trans hk).far (b := w.heap.size + 1) (by omega) 0 (.int .i64 a))
  have HN1' : Aside0 (w.heap.size + 2 ≤ (w1.setCell ⟨w.heap.size + 1, 0, none⟩ (.int .i64 a)).heap.size) := ⟨by rw [World.size_setCell]; exact HN1.out⟩
  clear HN1
  have HN1 := HN1'
  clear K hs hi hb hk hv HY0 HY1 HN1' HK0 HN0
  have K := K'
  clear K'
  go_wp2_with (fail)
  refine K.out.mono ?_
  rintro e w2 ⟨v, b, st2, rfl, hv, hs, hi, hb, hk⟩
  have hv' : v = .int .i64 b := hv
  subst hv'
  have HS2 := Aside0.mk hs
  have HN2 : Aside0 (w.heap.size + 2 ≤ w2.heap.size) := ⟨by have := HN1.out; have := hk.1; omega⟩
  have HY0 := Aside0.mk ((hk.2 w.heap.size (by have := HN1.out; omega) (by have := HG.out; omega)).trans HZ0.out)
  have HY1 := Aside0.mk ((hk.2 (w.heap.size + 1) (by have := HN1.out; omega) (by have := HG.out; omega)).trans HZ1.out)
  have hq2 := (blk_cell HY1.out) 1
  have hf2 := free_of HY1.out 1
  have K' := Aside0.mk (R_num_Q g B HBB.out st2 w0 (w2.setCell ⟨w.heap.size + 1, 1, none⟩ (.int .i64 b)) (hi.far (by have := HG.out; omega) _ _) (hb.setCell (p := ⟨w.heap.size + 1, 1, none⟩) (by have := HLE.out; show _ ≤ w.heap.size + 1; omega) _))
  clear HZ0 HZ1
  have HZ0 := Aside0.mk ((Below.heap_setCell w2 ⟨w.heap.size + 1, 1, none⟩ (.int .i64 b) w.heap.size (by simp)).trans HY0.out)
  have HZ1 := Aside0.mk (box_set (o := 1) HY1.out (.int .i64 b))
  have HK2 := Aside0.mk ((HK1.out.trans hk).far (b := w.heap.size + 1) (by omega) 1 (.int .i64 b))
  have HN2' : Aside0 (w.heap.size + 2 ≤ (w2.setCell ⟨w.heap.size + 1, 1, none⟩ (.int .i64 b)).heap.size) := ⟨by rw [World.size_setCell]; exact HN2.out⟩
  clear HN2
  have HN2 := HN2'
  clear K hs hi hb hk hv HY0 HY1 HN2' HK1 HN1
  have K := K'
  clear K'
  go_wp2_with (fail)
  refine K.out.mono ?_
  rintro e w3 ⟨v, c, st3, rfl, hv, hs, hi, hb, hk⟩
  have hv' : v = .int .i64 c := hv
  subst hv'
  have HS3 := Aside0.mk hs
  have HN3 : Aside0 (w.heap.size + 2 ≤ w3.heap.size) := ⟨by have := HN2.out; have := hk.1; omega⟩
  have HY0 := Aside0.mk ((hk.2 w.heap.size (by have := HN2.out; omega) (by have := HG.out; omega)).trans HZ0.out)
  have HY1 := Aside0.mk ((hk.2 (w.heap.size + 1) (by have := HN2.out; omega) (by have := HG.out; omega)).trans HZ1.out)
  have hq3 := (blk_cell HY1.out) 2
  have hf3 := free_of HY1.out 2
  have K' := Aside0.mk (R_text_Q g B HBB.out st3 w0 (w3.setCell ⟨w.heap.size + 1, 2, none⟩ (.int .i64 c)) (hi.far (by have := HG.out; omega) _ _) (hb.setCell (p := ⟨w.heap.size + 1, 2, none⟩) (by have := HLE.out; show _ ≤ w.heap.size + 1; omega) _))
  clear HZ0 HZ1
  have HZ0 := Aside0.mk ((Below.heap_setCell w3 ⟨w.heap.size + 1, 2, none⟩ (.int .i64 c) w.heap.size (by simp)).trans HY0.out)
  have HZ1 := Aside0.mk (box_set (o := 2) HY1.out (.int .i64 c))
  have HK3 := Aside0.mk ((HK2.out.trans hk).far (b := w.heap.size + 1) (by omega) 2 (.int .i64 c))
  have HN3' : Aside0 (w.heap.size + 2 ≤ (w3.setCell ⟨w.heap.size + 1, 2, none⟩ (.int .i64 c)).heap.size) := ⟨by rw [World.size_setCell]; exact HN3.out⟩
  clear HN3
  have HN3 := HN3'
  clear K hs hi hb hk hv HY0 HY1 HN3' HK2 HN2
  have K := K'
  clear K'
  go_wp2_with (fail)
  refine K.out.mono ?_
  rintro e w4 ⟨v, s, st4, rfl, hv, hs, hi, hb, hk⟩
  have hv' : v = .string s := hv
  subst hv'
  have HS4 := Aside0.mk hs
  have HN4 : Aside0 (w.heap.size + 2 ≤ w4.heap.size) := ⟨by have := HN3.out; have := hk.1; omega⟩
  have HY0 := Aside0.mk ((hk.2 w.heap.size (by have := HN3.out; omega) (by have := HG.out; omega)).trans HZ0.out)
  have HY1 := Aside0.mk ((hk.2 (w.heap.size + 1) (by have := HN3.out; omega) (by have := HG.out; omega)).trans HZ1.out)
  have hq4 := (blk_cell HY1.out) 3
  have hf4 := free_of HY1.out 3
  have HK4 := Aside0.mk (HK3.out.trans hk)
  have HI4 := Aside0.mk hi
  have HB4 := Aside0.mk hb
  have hz0 := (blk_cell HY0.out) 0
  have hz1 := (blk_cell HY0.out) 1
  have hz2 := (blk_cell HY0.out) 2
  have hz3 := (blk_cell HY0.out) 3
  have hg0 := free_of HY0.out 0
  have hg1 := free_of HY0.out 1
  have hg2 := free_of HY0.out 2
  have hg3 := free_of HY0.out 3
  have hy0 := (blk_cell HY1.out) 0
  have hy1 := (blk_cell HY1.out) 1
  have hy2 := (blk_cell HY1.out) 2
  clear K hs hi hb hk hv
  go_wp2
  refine bodyPost_ret (v := .agg #[.int .i64 a, .int .i64 b, .int .i64 c, .string s]) (by simp [results, Try.results100, go_sem, hz0, hz1, hz2, hz3]) rfl ?_
  exact ⟨_, (a, b, c, s), st4, rfl, rfl, Step.bind HS1.out (Step.map (f := fun y => (a, y)) (Step.bind HS2.out (Step.map (f := fun y => (b, y)) (Step.bind HS3.out (Step.map (f := fun y => (c, y)) HS4.out))))), ((((HI4.out.far (by have := HG.out; omega) _ _).far (by have := HG.out; omega) _ _).far (by have := HG.out; omega) _ _).far (by have := HG.out; omega) _ _).far (by have := HG.out; omega) _ _, ((((HB4.out.setCell (p := ⟨w.heap.size + 1, 3, none⟩) (by have := HLE.out; show _ ≤ w.heap.size + 1; omega) _).setCell (p := ⟨w.heap.size, 0, none⟩) HLE.out _).setCell (p := ⟨w.heap.size, 1, none⟩) HLE.out _).setCell (p := ⟨w.heap.size, 2, none⟩) HLE.out _).setCell (p := ⟨w.heap.size, 3, none⟩) HLE.out _, ((((HK4.out.far (b := w.heap.size + 1) (by omega) _ _).far (Nat.le_refl _) _ _).far (Nat.le_refl _) _ _).far (Nat.le_refl _) _ _).far (Nat.le_refl _) _ _⟩
/-- Cells of which nothing is told. -/
def kAny (n : Nat) : Kd Unit where
  sz := n
  E := []
  K := fun _ _ cs => cs.length = n ∧ ∀ u ∈ cs, u.oneCell' = true
  M := fun _ _ _ _ cs => cs.length = n ∧ ∀ u ∈ cs, u.oneCell' = true
  K_len := fun h => h.1
  K_one := fun h => h.2
  K_below := fun _ h => h
  K_of_M := fun h => h
  M_mono := fun _ h => h
  M_bound := fun h => h
  M_move := fun _ h => h
  M_lower := fun _ h => h
/-- A function of the document's reader at work: its result's box, its variable's box, what has been read. -/
structure RS (w0 w : World) (g : Nat) (B : List Int) (T : Nat) (z c : Array Value) (s : St) (W : World) : Prop where
  q : RQ w0 W g B s
  z0 : W.heap[w.heap.size]? = some (.cells z T (0, 0))
  c0 : W.heap[w.heap.size + 1]? = some (.cells c T (0, 0))
  b : Below w0.heap.size w0 W
  o : Only w W g
  lt : g < w.heap.size
  le : w0.heap.size ≤ w.heap.size
section
variable {w0 w W W1 : World} {g : Nat} {B : List Int} {T : Nat} {z c : Array Value} {s s1 : St}
theorem RS.start (hI : RQ w0 w g B s) (hB : Below w0.heap.size w0 w) (z : Array Value) (T : Nat) : RS w0 w g B T z z s ((w.alloc (.cells z T)).alloc (.cells z T)) where
  q := hI.below (below_alloc (below_alloc (Below.refl _ _) _) _)
  z0 := ((below_alloc (Below.refl _ (w.alloc (.cells z T))) (.cells z T)).block w.heap.size (by rw [World.size_alloc]; omega)).trans (heap_last w _)
  c0 := by
    have := heap_last (w.alloc (.cells z T)) (.cells z T)
    rwa [World.size_alloc] at this
  b := below_alloc (below_alloc hB _) _
  o := Only.below g (below_alloc (below_alloc (Below.refl _ _) _) _)
  lt := hI.lt
  le := hB.size
theorem RS.size (h : RS w0 w g B T z c s W) : w.heap.size + 2 ≤ W.heap.size := blk_lt h.c0
theorem RS.next (h : RS w0 w g B T z c s W) (hi : RQ w0 W1 g B s1) (hb : Below w0.heap.size w0 W1) (hk : Only W W1 g) : RS w0 w g B T z c s1 W1 where
  q := hi
  z0 := (hk.2 _ (by have := h.size; omega) (by have := h.lt; omega)).trans h.z0
  c0 := (hk.2 _ (by have := h.size; omega) (by have := h.lt; omega)).trans h.c0
  b := hb
  o := h.o.trans hk
  lt := h.lt
  le := h.le
theorem RS.turn (h : RS w0 w g B T z c s W) {b : Nat} (hb : w.heap.size + 2 ≤ b) (hs : W1.heap.size = W.heap.size) (hf : ∀ k, k ≠ b → W1.heap[k]? = W.heap[k]?) (hw : Below w0.heap.size w0 W1) : RS w0 w g B T z c s W1 where
  q := h.q.turned (by have := h.lt; omega) hf
  z0 := (hf _ (by omega)).trans h.z0
  c0 := (hf _ (by omega)).trans h.c0
  b := hw
  o := h.o.turned (b := b) (by omega) hs hf
  lt := h.lt
  le := h.le
theorem RS.far (h : RS w0 w g B T z c s W) {b : Nat} (hb : w.heap.size + 2 ≤ b) (o : Nat) (v : Value) : RS w0 w g B T z c s (W.setCell ⟨b, o, none⟩ v) :=
  h.turn hb (World.size_setCell ..) (fun k hk => Below.heap_setCell W ⟨b, o, none⟩ v k hk) (h.b.setCell (p := ⟨b, o, none⟩) (by have := h.le; show _ ≤ b; omega) v)
theorem RS.set (h : RS w0 w g B T z c s W) (o : Nat) (v : Value) : RS w0 w g B T z (c.set! o v) s (W.setCell ⟨w.heap.size + 1, o, none⟩ v) where
  q := h.q.far (by have := h.lt; omega) _ _
  z0 := (Below.heap_setCell W ⟨w.heap.size + 1, o, none⟩ v w.heap.size (by simp)).trans h.z0
  c0 := box_set h.c0 v
  b := h.b.setCell (p := ⟨w.heap.size + 1, o, none⟩) (by have := h.le; show _ ≤ w.heap.size + 1; omega) v
  o := h.o.far (b := w.heap.size + 1) (by omega) _ _
  lt := h.lt
  le := h.le
theorem RS.grow (h : RS w0 w g B T z c s W) {row : Option Nat} (hb : Below w.heap.size W W1) (hg : W.grownBy W1 row) (h0 : some w.heap.size ≠ row) (h1 : some (w.heap.size + 1) ≠ row) : RS w0 w g B T z c s W1 where
  q := by
    obtain ⟨i, e, a, ⟨A, c, h1, r⟩, h2⟩ := h.q
    exact ⟨i, e, a, ⟨A, c, (hb.block g h.lt).trans h1, r⟩, h2⟩
  z0 := (hg.block _ (blk_lt h.z0) h0).trans h.z0
  c0 := (hg.block _ (blk_lt h.c0) h1).trans h.c0
  b := h.b.trans (hb.mono h.le)
  o := h.o.belowG hb hg.size
  lt := h.lt
  le := h.le
theorem RS.below (h : RS w0 w g B T z c s W) (hb : Below W.heap.size W W1) : RS w0 w g B T z c s W1 where
  q := h.q.below hb
  z0 := (hb.block _ (blk_lt h.z0)).trans h.z0
  c0 := (hb.block _ (blk_lt h.c0)).trans h.c0
  b := h.b.trans (hb.mono h.b.size)
  o := h.o.trans (Only.below g hb)
  lt := h.lt
  le := h.le
end
def VRgQ (v : Value) (_ : Rng) (_ : World) : Prop := ∃ A n c, v = .agg #[.slice A n c]
theorem info_c12 : (Try.prog.info? 179).map (fun i => (i.zero, i.size, i.bytes)) = some (some (.agg #[.int .i64 0, .int .i64 0, .int .i64 0, .int .i64 0, .string ⟨#[]⟩]), 5, 48) := by kernel_rfl
theorem info_l12 : (Try.prog.info? 175).map (fun i => (i.zero, i.size, i.bytes)) = some (some (.slice none 0 0), 1, 24) := by kernel_rfl
theorem far1234 (w : World) {k b : Nat} (h : k ≠ b) (a1 a2 a3 a4 : Value) : ((((w.setCell ⟨b, 1, none⟩ a1).setCell ⟨b, 2, none⟩ a2).setCell ⟨b, 3, none⟩ a3).setCell ⟨b, 4, none⟩ a4).heap[k]? = w.heap[k]? :=
  (Below.heap_setCell _ ⟨b, 4, none⟩ a4 k h).trans ((Below.heap_setCell _ ⟨b, 3, none⟩ a3 k h).trans ((Below.heap_setCell _ ⟨b, 2, none⟩ a2 k h).trans (Below.heap_setCell _ ⟨b, 1, none⟩ a1 k h)))
/-- What the loops' heads ask: on, or out. -/
theorem RQ.head {w0 w : World} {g : Nat} {B : List Int} {st : St} (h : RQ w0 w g B st) : ∃ e, w.cell? ⟨g, 2, none⟩ = some (.int .i64 e) ∧ ((e = 0 ∧ ∃ bs, st = .left bs) ∨ (e ≠ 0 ∧ st = .err e)) := h.ecell
theorem goes_out {α : Type} {p : Rdr α} {m k i : Nat} {s0 s : St} {xs : List α} {e : Int} (h : Goes p m s0 k xs s) (hik : i + k = m) (he : (e = 0 ∧ ∃ bs, s = .left bs) ∨ (e ≠ 0 ∧ s = .err e)) (hn : ¬ (0 < k ∧ e = 0)) : (∃ ys, Step (rmany p m) s0 ys s) ∧ (decide (i < m) = false ∨ (decide (i < m) = true ∧ (e == 0) = false)) := by
  rcases he with ⟨he, _⟩ | ⟨he, rfl⟩
  · have h0 : k = 0 := by omega
    subst h0
    exact ⟨⟨_, h.done⟩, .inl (decide_eq_false (by omega))⟩
  · refine ⟨⟨[], h.fails []⟩, ?_⟩
    by_cases h1 : i < m
    · exact .inr ⟨decide_eq_true h1, beq_eq_false_iff_ne.2 he⟩
    · exact .inl (decide_eq_false h1)
set_option maxHeartbeats 8000000 in
set_option maxRecDepth 20000 in
theorem R_ranged_Q (g : Nat) (B : List Int) (hB0 : Bytes B ∧ B.length ≤ 1000000000) (st : St) (w0 w : World) (hI : RQ w0 w g B st) (hB : Below w0.heap.size w0 w) :
    Calls Try.prog 72 #[.pointer (some ⟨g, 0, none⟩)] w (RTell rRng VRgQ w0 w g B st) := by
  have HBB := Aside0.mk hB0
  have R0 := Aside0.mk (RS.start hI hB #[.slice none 0 0] 133)
  have K := Aside0.mk (R_size_Q g B hB0 st w0 _ R0.out.q R0.out.b)
  clear hB0 hI hB
  go_enter Try.func72, Try.ntmps72
  go_wp2_with (fail)
  refine K.out.mono ?_
  rintro e w1 ⟨m, st1, rfl, hm, hs, hi, hb, hk⟩
  have R1 := Aside0.mk (R0.out.next hi hb hk)
  have HS1 := Aside0.mk hs
  have HM := Aside0.mk hm
  clear hm hs hi hb hk K R0
  go_wp2
  go_loopg [5, 6, 7, 8, 9] m (fun kq v5 v6 v7 v8 v9 w' => ∃ (i : Nat) (xs : List (List Cmp)) (out : List Unit) (s : St) (A : Option Addr) (c : Nat), v5 = .int .i64 (i : Int) ∧ Aside0 (i + kq = m) ∧ Aside0 (out.length = i) ∧ Aside0 (Goes (rlist rCmp) m st1 kq xs s) ∧ Aside0 ((kAny 1).R 175 w' w.heap.size (fun k => k ≠ g) (.slice A out.length c) out) ∧ Aside0 (RS w0 w g B 133 #[.slice none 0 0] #[.slice A out.length c] s w'))
  case atStart => exact ⟨0, [], [], st1, none, 0, rfl, ⟨by omega⟩, ⟨rfl⟩, ⟨Goes.start _ _ _⟩, ⟨Kd.R_nil _ _ _ _ _⟩, R1⟩
  case round =>
    clear R1
    obtain ⟨i, xs, out, s1, A, c1, rfl, HJ, HOL, HGO, O1, R1⟩ := hrel
    obtain ⟨ee, hc1, hee⟩ := R1.out.q.ecell
    have HEE := Aside0.mk hee
    clear hee
    by_cases hgo : 0 < gk ∧ ee = 0
    · obtain ⟨hgk, he⟩ := hgo
      have e1 : decide (i < m) = true := decide_eq_true (by have := HJ.out; omega)
      have e5 : wrap64 ((i : Int) + 1) = ((i + 1 : Nat) : Int) := by have := HJ.out; have := HM.out; unfold wrap64; omega
      have h0 : (ee == 0) = true := beq_iff_eq.2 he
      obtain ⟨gn, hgn⟩ : ∃ gn, gk = gn + 1 := ⟨gk - 1, by omega⟩
      have HGN1 := Aside0.mk hgn
      have hG := HGO.out
      rw [hgn] at hG
      have HG1 := Aside0.mk hG
      have HE5 := Aside0.mk e5
      have K := Aside0.mk (R_size_Q g B HBB.out _ w0 wr R1.out.q R1.out.b)
      clear he hgk hgn hG e5
      go_wp2_with (fail)
      refine K.out.mono ?_
      rintro e w2 ⟨m2, st2, rfl, hm, hs, hi, hb, hk⟩
      have R2 := Aside0.mk (R1.out.next hi hb hk)
      have O2 := Aside0.mk (R_only O1.out hk)
      have HS2 := Aside0.mk hs
      have HM2 := Aside0.mk hm
      clear hm hs hi hb hk K R1 O1 hc1 e1 h0
      obtain ⟨wo, hwo⟩ : ∃ wo : World, wo = wr := ⟨_, rfl⟩
      clear hwo
      obtain ⟨go, hgo⟩ : ∃ go : Nat, go = gk := ⟨_, rfl⟩
      have HGK := Aside0.mk hgo
      clear hgo
      go_wp2
      go_loopg [6, 8, 9] m2 (fun kq v6 v8 v9 w' => ∃ (k : Nat) (xs2 : List Cmp) (ys : List Unit) (s : St), v8 = .int .i64 (k : Int) ∧ Aside0 (k + kq = m2) ∧ Aside0 (ys.length = k) ∧ Aside0 (Goes rCmp m2 st2 kq xs2 s) ∧ Aside0 ((kAny 5).R 179 w' w.heap.size (fun k => k ≠ g) v6 ys) ∧ Aside0 ((kAny 1).R 175 w' w.heap.size (fun k => k ≠ g) (.slice A out.length c1) out) ∧ Aside0 (RS w0 w g B 133 #[.slice none 0 0] #[.slice A out.length c1] s w'))
      case atStart => exact ⟨0, [], [], st2, rfl, ⟨by omega⟩, ⟨rfl⟩, ⟨Goes.start _ _ _⟩, ⟨Kd.R_nil _ _ _ _ _⟩, O2, R2⟩
      case round =>
        clear O2 R2
        obtain ⟨k, xs2, ys, s2, rfl, HJ2, HYL, HGO2, A3, O3, R3⟩ := hrel
        obtain ⟨ee2, hc1, hee⟩ := R3.out.q.ecell
        have HEE2 := Aside0.mk hee
        clear hee
        by_cases hgo2 : 0 < gk ∧ ee2 = 0
        · obtain ⟨hgk, he⟩ := hgo2
          have e1 : decide (k < m2) = true := decide_eq_true (by have := HJ2.out; omega)
          have HE52 : Aside0 (wrap64 ((k : Int) + 1) = ((k + 1 : Nat) : Int)) := ⟨by have := HJ2.out; have := HM2.out; unfold wrap64; omega⟩
          have h0 : (ee2 == 0) = true := beq_iff_eq.2 he
          obtain ⟨gn2, hgn⟩ : ∃ gn, gk = gn + 1 := ⟨gk - 1, by omega⟩
          have HGN2 := Aside0.mk hgn
          have hG := HGO2.out
          rw [hgn] at hG
          have HG2 := Aside0.mk hG
          obtain ⟨Z2, hZ2⟩ : ∃ o, o = Obj.cells #[.int .i64 0, .int .i64 0, .int .i64 0, .int .i64 0, .string ⟨#[]⟩] 179 := ⟨_, rfl⟩
          have hbx := below_alloc (Below.refl wr.heap.size wr) Z2
          have R3a := Aside0.mk (R3.out.below hbx)
          have A3a := Aside0.mk (Kd.R_below A3.out hbx)
          have O3a := Aside0.mk (Kd.R_below O3.out hbx)
          have HQ := heap_last wr Z2
          have HBS : Aside0 (w.heap.size + 2 ≤ wr.heap.size) := ⟨R3.out.size⟩
          have HGL : Aside0 (g < w.heap.size) := ⟨R3.out.lt⟩
          have HFR := Aside0.mk (Kd.R_fresh A3.out)
          have K := Aside0.mk (R_num_Q g B HBB.out _ w0 (wr.alloc Z2) R3a.out.q R3a.out.b)
          subst hZ2
          have HQ := Aside0.mk HQ
          clear he hgk hgn hG hbx R3 A3 O3
          go_wp2_with (fail)
          refine K.out.mono ?_
          rintro e w3 ⟨v, op, st3, rfl, hv, hs, hi, hb, hk⟩
          have hv' : v = .int .i64 op := hv
          subst hv'
          have HQ3 := Aside0.mk ((hk.2 wr.heap.size (by rw [World.size_alloc]; omega) (by have := HGL.out; have := HBS.out; omega)).trans HQ.out)
          have R4 := Aside0.mk ((R3a.out.next hi hb hk).far (b := wr.heap.size) HBS.out 0 (.int .i64 op))
          have A4 := Aside0.mk (Kd.R_mono (Kd.R_far (p := ⟨wr.heap.size, 0, none⟩) (Kd.R_far1 (R_only A3a.out hk) rfl HFR.out) (fun _ h => h.2) (.int .i64 op)) (fun _ h => h.1))
          have O4 := Aside0.mk (Kd.R_set (R_only O3a.out hk) HQ3.out (by simp [kAny]) 0 (.int .i64 op))
          have HS3 := Aside0.mk hs
          have hq0 := (blk_cell HQ3.out) 0
          have hf0 := free_of HQ3.out 0
          clear hs hi hb hk hv K HQ R3a A3a O3a hc1 e1 h0
          by_cases hop : op = 0
          · subst hop
            have hq1 := (blk_cell HQ3.out) 1
            have hq2 := (blk_cell HQ3.out) 2
            have hq3 := (blk_cell HQ3.out) 3
            have hq4 := (blk_cell HQ3.out) 4
            have HSX := Aside0.mk (show Step rCmp _ (0, noVer) st3 from Step.bind HS3.out (Step.map (f := fun v => (0, v)) (by rw [if_pos rfl]; exact Step.pure _ _)))
            clear HQ3
            go_wp2_with (first
              | ((with_reducible refine gate_dst (N := 49) rfl ?_); go_must (refine Kd.R_lit (kAny 5) (w0 := (w3.setCell ⟨wr.heap.size, 0, none⟩ (.int .i64 0))) w.heap.size 179 ?hg (N := 49) ?hd (xs := [()]) (inner := [.int .i64 0, .int .i64 0, .int .i64 0, .int .i64 0, .string ⟨#[]⟩]) (ok := fun k => k ≠ g ∧ some k ≠ u6.ownBlock) (okp := fun k => k ≠ g ∧ some k ≠ u6.ownBlock) ?hr ?hp (fun _ hk => hk) ⟨by have := R4.out.q.lt; omega, Kd.R_fresh A4.out⟩ (Below.refl _ _) R4.out.o.1 (by simp) ?_; (case hd => rfl); (case hg => rfl); (case hr => first | (go_simp; done) | (go_simp; rfl)); (case hp => exact reps1 ⟨rfl, by simp [Value.oneCell']⟩ rfl); intro v43 w7 ho hb hg_ hnew_; obtain ⟨A43, c43, rfl, hcl43, hC43⟩ := OwnRow.reads ho.2; have HC43 := Aside0.mk hC43; have A5 := Aside0.mk (Kd.R_grown A4.out hg_ (fun _ _ => by simp)); have O5 := Aside0.mk (Kd.R_grown O4.out hg_ (fun _ _ => by simp)); have R5 := Aside0.mk (R4.out.grow hb hg_ (by simp) (by simp)); clear ho hb hC43 hcl43 hg_ hnew_))
              | ((with_reducible refine gate_builtin (b := .append) (xs := #[.tmp 47, .tmp 49]) rfl ?_); at_builtin; go_must (refine Kd.R_append_rows (kAny 5) (w0 := w7) w.heap.size rfl (.tmp 47) (.tmp 49) 175 179 (.agg #[.int .i64 0, .int .i64 0, .int .i64 0, .int .i64 0, .string ⟨#[]⟩]) 48 rfl Try.underlying175 info_c12 rfl (by decide) (by decide) u6 ys [()] A43 1 c43 (fun k => k ≠ g) _ rfl rfl A5.out HC43.out (fun _ _ h => h) (fun k hk => ⟨hk.1.1, hk.1.2⟩) (fun k hk => by have := R5.out.q.lt; omega) (Below.refl _ _) R5.out.o.1 (by have := HYL.out; have := HJ2.out; have := HM2.out; omega) ?_; intro v44 w8 ho hb hgr hat; have A6 := Aside0.mk ho; have O6 := Aside0.mk (Kd.R_over O5.out A5.out (by simp [kAny]) hgr); have R6 := Aside0.mk (R5.out.grow hb hgr (Kd.R_ne A5.out R5.out.z0 (by decide)) (Kd.R_ne A5.out R5.out.c0 (by decide))); clear ho hb hgr hat)))
            go_roundg gn2
            case measure => have := HGN2.out; omega
            case rel => exact ⟨k + 1, xs2 ++ [(0, noVer)], ys ++ [()], _, (by first | exact congrArg _ HE52.out | rfl), ⟨by have := HJ2.out; have := HGN2.out; omega⟩, ⟨by simp [HYL.out]⟩, ⟨HG2.out.next HSX.out⟩, A6, O6, R6⟩
          · have h2 : (op == 0) = false := beq_eq_false_iff_ne.2 hop
            have h3 : (op != 0) = true := by simp [hop]
            have HOP := Aside0.mk hop
            have HQ4 := Aside0.mk (box_set (o := 0) HQ3.out (.int .i64 op))
            have K := Aside0.mk (R_version_Q g B HBB.out st3 w0 _ R4.out.q R4.out.b)
            clear hop HQ3
            go_wp2_with (fail)
            refine K.out.mono ?_
            rintro e w4 ⟨v, ⟨a, b, c, s⟩, st4, rfl, hv, hs, hi, hb, hk⟩
            have hv' : v = .agg #[.int .i64 a, .int .i64 b, .int .i64 c, .string s] := hv
            subst hv'
            clear hq0 hf0 K hv
            have HQ5 := Aside0.mk ((hk.2 wr.heap.size (blk_lt HQ4.out) (by have := HGL.out; have := HBS.out; omega)).trans HQ4.out)
            have R4' := Aside0.mk (((((R4.out.next hi hb hk).far (b := wr.heap.size) HBS.out 1 (.int .i64 a)).far (b := wr.heap.size) HBS.out 2 (.int .i64 b)).far (b := wr.heap.size) HBS.out 3 (.int .i64 c)).far (b := wr.heap.size) HBS.out 4 (.string s))
            have A4' := Aside0.mk (Kd.R_mono (Kd.R_step (Kd.R_far1 (R_only A4.out hk) rfl HFR.out) (fun k hk _ => far1234 w4 hk.2 (.int .i64 a) (.int .i64 b) (.int .i64 c) (.string s))) (fun _ h => h.1))
            have O4' := Aside0.mk (Kd.R_turned (R_only O4.out hk) HQ5.out (by simp [kAny]) (fun k hk => far1234 w4 hk (.int .i64 a) (.int .i64 b) (.int .i64 c) (.string s)))
            have HS4 := Aside0.mk hs
            have HSX := Aside0.mk (show Step rCmp _ (op, a, b, c, s) st4 from Step.bind HS3.out (Step.map (f := fun v => (op, v)) (by rw [if_neg HOP.out]; exact HS4.out)))
            clear R4 A4 O4 hs hi hb hk HQ4
            have R4 := R4'
            have A4 := A4'
            have O4 := O4'
            clear R4' A4' O4' h2 h3
            have hq0 := (blk_cell HQ5.out) 0
            have hq1 := (blk_cell HQ5.out) 1
            have hq2 := (blk_cell HQ5.out) 2
            have hq3 := (blk_cell HQ5.out) 3
            have hq4 := (blk_cell HQ5.out) 4
            have hf1 := free_of HQ5.out 1
            have hf2 := free_of HQ5.out 2
            have hf3 := free_of HQ5.out 3
            have hf4 := free_of HQ5.out 4
            clear HQ5
            go_wp2_with (first
              | ((with_reducible refine gate_dst (N := 49) rfl ?_); go_must (refine Kd.R_lit (kAny 5) (w0 := ((((w4.setCell ⟨wr.heap.size, 1, none⟩ (.int .i64 a)).setCell ⟨wr.heap.size, 2, none⟩ (.int .i64 b)).setCell ⟨wr.heap.size, 3, none⟩ (.int .i64 c)).setCell ⟨wr.heap.size, 4, none⟩ (.string s))) w.heap.size 179 ?hg (N := 49) ?hd (xs := [()]) (inner := [.int .i64 op, .int .i64 a, .int .i64 b, .int .i64 c, .string s]) (ok := fun k => k ≠ g ∧ some k ≠ u6.ownBlock) (okp := fun k => k ≠ g ∧ some k ≠ u6.ownBlock) ?hr ?hp (fun _ hk => hk) ⟨by have := R4.out.q.lt; omega, Kd.R_fresh A4.out⟩ (Below.refl _ _) R4.out.o.1 (by simp) ?_; (case hd => rfl); (case hg => rfl); (case hr => first | (go_simp; done) | (go_simp; rfl)); (case hp => exact reps1 ⟨rfl, by simp [Value.oneCell']⟩ rfl); intro v43 w7 ho hb hg_ hnew_; obtain ⟨A43, c43, rfl, hcl43, hC43⟩ := OwnRow.reads ho.2; have HC43 := Aside0.mk hC43; have A5 := Aside0.mk (Kd.R_grown A4.out hg_ (fun _ _ => by simp)); have O5 := Aside0.mk (Kd.R_grown O4.out hg_ (fun _ _ => by simp)); have R5 := Aside0.mk (R4.out.grow hb hg_ (by simp) (by simp)); clear ho hb hC43 hcl43 hg_ hnew_))
              | ((with_reducible refine gate_builtin (b := .append) (xs := #[.tmp 47, .tmp 49]) rfl ?_); at_builtin; go_must (refine Kd.R_append_rows (kAny 5) (w0 := w7) w.heap.size rfl (.tmp 47) (.tmp 49) 175 179 (.agg #[.int .i64 0, .int .i64 0, .int .i64 0, .int .i64 0, .string ⟨#[]⟩]) 48 rfl Try.underlying175 info_c12 rfl (by decide) (by decide) u6 ys [()] A43 1 c43 (fun k => k ≠ g) _ rfl rfl A5.out HC43.out (fun _ _ h => h) (fun k hk => ⟨hk.1.1, hk.1.2⟩) (fun k hk => by have := R5.out.q.lt; omega) (Below.refl _ _) R5.out.o.1 (by have := HYL.out; have := HJ2.out; have := HM2.out; omega) ?_; intro v44 w8 ho hb hgr hat; have A6 := Aside0.mk ho; have O6 := Aside0.mk (Kd.R_over O5.out A5.out (by simp [kAny]) hgr); have R6 := Aside0.mk (R5.out.grow hb hgr (Kd.R_ne A5.out R5.out.z0 (by decide)) (Kd.R_ne A5.out R5.out.c0 (by decide))); clear ho hb hgr hat)))
            go_roundg gn2
            case measure => have := HGN2.out; omega
            case rel => exact ⟨k + 1, xs2 ++ [(op, a, b, c, s)], ys ++ [()], _, (by first | exact congrArg _ HE52.out | rfl), ⟨by have := HJ2.out; have := HGN2.out; omega⟩, ⟨by simp [HYL.out]⟩, ⟨HG2.out.next HSX.out⟩, A6, O6, R6⟩
        · obtain ⟨hT2, hex2⟩ := goes_out HGO2.out HJ2.out HEE2.out hgo2
          have HT2 := Aside0.mk hT2
          obtain ⟨A6, c6, hv6⟩ := Kd.R_slice A3.out
          subst hv6
          have hq := (blk_cell R3.out.c0) 0
          have hf := free_of R3.out.c0 0
          clear hT2 hgo2 HEE2 HGO2
          rcases hex2 with e1 | ⟨e1, h0⟩
          all_goals
            go_wp2_with (first
              | ((with_reducible refine gate_dst (N := 54) rfl ?_); go_must (refine Kd.R_lit (kAny 1) (w0 := wr) w.heap.size 175 ?hg (N := 54) ?hd (xs := [()]) (inner := [.slice A6 ys.length c6]) (ok := fun k => k ≠ g ∧ some k ≠ (Value.slice A out.length c1).ownBlock) (okp := fun k => k ≠ g ∧ some k ≠ (Value.slice A out.length c1).ownBlock) ?hr ?hp (fun _ hk => hk) ⟨by have := R3.out.q.lt; omega, Kd.R_fresh O3.out⟩ (Below.refl _ _) R3.out.o.1 (by simp) ?_; (case hd => rfl); (case hg => rfl); (case hr => first | (go_simp; done) | (go_simp; rfl)); (case hp => exact reps1 ⟨rfl, by simp [Value.oneCell']⟩ rfl); intro v43 w7 ho hb hg_ hnew_; obtain ⟨A43, c43, rfl, hcl43, hC43⟩ := OwnRow.reads ho.2; have HC43 := Aside0.mk hC43; have O5 := Aside0.mk (Kd.R_grown O3.out hg_ (fun _ _ => by simp)); have R5 := Aside0.mk (R3.out.grow hb hg_ (by simp) (by simp)); have hq5 := (blk_cell R5.out.c0) 0; clear ho hb hC43 hcl43 hg_ hnew_))
              | ((with_reducible refine gate_builtin (b := .append) (xs := #[.tmp 52, .tmp 54]) rfl ?_); at_builtin; go_must (refine Kd.R_append_rows (kAny 1) (w0 := w7) w.heap.size rfl (.tmp 52) (.tmp 54) 131 175 (.slice none 0 0) 24 rfl Try.underlying131 info_l12 rfl (by decide) (by decide) (.slice A out.length c1) out [()] A43 1 c43 (fun k => k ≠ g) _ rfl rfl O5.out HC43.out (fun _ _ h => h) (fun k hk => ⟨hk.1.1, hk.1.2⟩) (fun k hk => by have := R5.out.q.lt; omega) (Below.refl _ _) R5.out.o.1 (by have := HOL.out; have := HJ.out; have := HM.out; omega) ?_; intro v44 w8 ho hb hgr hat; obtain ⟨A8, c8, rfl⟩ := Kd.R_slice ho; have O6 := Aside0.mk ho; have R6 := Aside0.mk (R5.out.grow hb hgr (Kd.R_ne O5.out R5.out.z0 (by decide)) (Kd.R_ne O5.out R5.out.c0 (by decide))); have hq8 := (blk_cell R6.out.c0) 0; have hf8 := free_of R6.out.c0 0; clear hq5 ho hb hgr hat)))
            go_roundg gn
            case measure => have := HGN1.out; omega
            case rel =>
              obtain ⟨ys2, t2⟩ := HT2.out
              refine ⟨i + 1, xs ++ [ys2], out ++ [()], s2, A8, c8, (by first | exact congrArg _ HE5.out | rfl), ⟨by have := HJ.out; have := HGN1.out; omega⟩, ⟨by simp [HOL.out]⟩, ⟨HG1.out.next (Step.list HS2.out t2)⟩, ⟨Kd.R_set O6.out R6.out.c0 (by simp [kAny]) 0 (.slice A8 (out.length + 1) c8)⟩, ⟨by rw [len_snoc]; exact R6.out.set 0 (.slice A8 (out.length + 1) c8)⟩⟩
    · obtain ⟨hT, hex⟩ := goes_out HGO.out HJ.out HEE.out hgo
      have HT := Aside0.mk hT
      have hz0 := (blk_cell R1.out.z0) 0
      have hg0 := free_of R1.out.z0 0
      have hy0 := (blk_cell R1.out.c0) 0
      clear hT hgo HEE HGO
      rcases hex with e1 | ⟨e1, h0⟩
      all_goals
        go_wp2
        refine bodyPost_ret (v := .agg #[.slice A out.length c1]) (by simp [results, Try.results72, go_sem, hz0]) rfl ?_
        obtain ⟨y, t⟩ := HT.out
        exact ⟨_, y, s1, rfl, ⟨_, _, _, rfl⟩, Step.list HS1.out t, R1.out.q.far (by have := R1.out.lt; omega) _ _, R1.out.b.setCell (p := ⟨w.heap.size, 0, none⟩) R1.out.le _, R1.out.o.far (Nat.le_refl _) _ _⟩
theorem rep_fin {xs : List Int} {e : Int} {st : St} (h : Rep xs e st) : st.fin = if e = 0 then (if xs = [] then 0 else 12) else e := by
  rcases h with ⟨rfl, rfl⟩ | ⟨h, rfl⟩
  · rw [if_pos rfl]; rfl
  · rw [if_neg h]; rfl
set_option maxHeartbeats 8000000 in
set_option maxRecDepth 20000 in
theorem R_End_Q (g : Nat) (B : List Int) (hlen : B.length ≤ 1000000000) (st : St) (w0 w : World) (hI : RQ w0 w g B st) (hB : Below w0.heap.size w0 w) :
    Calls Try.prog 18 #[.pointer (some ⟨g, 0, none⟩)] w fun en w' => en = .returned (.int .i64 st.fin) ∧ (∃ (i : Nat), i ≤ B.length ∧ RM w0 w' g B (i : Int) st.fin) ∧ Below w0.heap.size w0 w' ∧ Only w w' g := by
  obtain ⟨i, e, hi, h1, h2⟩ := hI
  have hf := rep_fin h2
  have HI := Aside0.mk h1
  have HB := Aside0.mk hB
  have HIL := Aside0.mk hi
  obtain ⟨A, c0, hg, _⟩ := h1
  have hc0 := (blk_cell hg) 0
  have hc1 := (blk_cell hg) 1
  have hc2 := (blk_cell hg) 2
  clear hg hB h2
  by_cases c : i < B.length
  · have g1 : decide (i < B.length) = true := decide_eq_true c
    have hne : B.drop i ≠ [] := fun h => by have := congrArg List.length h; rw [List.length_drop] at this; simp at this; omega
    rw [if_neg hne] at hf
    have K := Aside0.mk (R_fail_calls g B (i : Int) e 12 w0 w.drew (show RM w0 w.drew g B (i : Int) e from HI.out) (below_drew HB.out))
    rw [← hf] at K
    generalize st.fin = F at K hf ⊢
    clear c hne hf hi
    go_enter Try.func18, Try.ntmps18
    go_wp2
    go_region
    go_wp2_with (fail)
    refine K.out.mono ?_
    rintro e w2 ⟨rfl, hi, hb, hk⟩
    have HI2 := Aside0.mk hi
    have HB2 := Aside0.mk hb
    have HK2 := Aside0.mk ((show Only w w.drew g from Only.refl w g).trans hk)
    obtain ⟨A, c0, hg, _⟩ := hi
    have hc2 := (blk_cell hg) 2
    clear hb hk hc1 hc0 hg K
    go_wp2
    go_ret
    exact ⟨rfl, ⟨i, HIL.out, HI2.out⟩, HB2.out, HK2.out⟩
  · have g1 : decide (i < B.length) = false := decide_eq_false c
    have hne : B.drop i = [] := List.drop_eq_nil_of_le (by omega)
    rw [if_pos hne] at hf
    have hf2 : st.fin = e := by
      rw [hf]
      split
      · rename_i h; exact h.symm
      · rfl
    rw [hf2]
    clear c hne hf hf2 hi
    go_enter Try.func18, Try.ntmps18
    go_wp2
    go_region
    go_wp2
    go_ret
    exact ⟨rfl, ⟨i, HIL.out, show RM w0 w.drew g B (i : Int) e from HI.out⟩, below_drew HB.out, show Only w w.drew g from Only.refl w g⟩
theorem RQ.new {w : World} {A : Option Addr} {c : Nat} {B : List Int} (hr : Kd.C (Kd.int .u8) w A B.length B) (hc : B.length ≤ c) : RQ w (w.alloc (.cells #[.slice A B.length c, .int .i64 0, .int .i64 0] 39)) w.heap.size B (.left B) :=
  ⟨0, 0, by omega, ⟨A, c, heap_last w _, Nat.le_refl _, hr, hc⟩, .inl ⟨rfl, rfl⟩⟩
theorem RQ.ne {w0 w : World} {g : Nat} {B : List Int} {e : Int} (h : RQ w0 w g B (.err e)) : e ≠ 0 := by
  obtain ⟨i, e', _, _, h2⟩ := h
  rcases h2 with ⟨_, h2⟩ | ⟨h1, h2⟩
  · cases h2
  · cases h2; exact h1
end Go.Proofs.Ythefbeekcjchcaa.P
namespace Go.Proofs.Ythefbeekcjchcaa.P
open Go Go.RowKit Go.Proofs.YthefbeekcjchcaaW.PrintWords Go.Proofs.YthefbeekcjchcaaW.PrintLast Go.Proofs.YthefbeekcjchcaaW.PrintMore
set_option linter.unusedVariables false
set_option linter.unusedSimpArgs false
def VRl (v : Value) (_ : Rel) (_ : World) : Prop := ∃ a b c s l A n k, v = .agg #[.int .i64 a, .int .i64 b, .int .i64 c, .string s, .int .i64 l, .slice A n k]
theorem info_n12 : (Try.prog.info? 137).map (fun i => (i.zero, i.size, i.bytes)) = some (some (.agg #[.int .i64 0, .slice none 0 0]), 2, 32) := by kernel_rfl
/-- A literal of one element, of whose cells nothing is told. -/
theorem lit_any (W : World) (cs : List Value) (T n : Nat) (hn : cs.length = n) (h1 : ∀ u ∈ cs, u.oneCell' = true) (h0 : 0 < n) : ReadsRow (fun (_ : Unit) (cs : List Value) => cs.length = n ∧ ∀ u ∈ cs, u.oneCell' = true) n (W.alloc (.cells cs.toArray T)) (some ⟨W.heap.size, 0, none⟩) 1 [()] := by
  refine ⟨rfl, by decide, fun _ => ⟨_, rfl, fun j p hj => ?_⟩⟩
  match j, hj with
  | 0, hj =>
    cases hj
    refine ⟨cs, hn, ⟨hn, h1⟩, fun i u hu => ?_⟩
    have := (blk_cell (heap_last W (.cells cs.toArray T))) i
    rw [List.getElem?_toArray, hu] at this
    rcases i with _ | i <;> simpa [Addr.add] using this
set_option maxHeartbeats 8000000 in
set_option maxRecDepth 20000 in
theorem R_release_Q (g : Nat) (B : List Int) (hB0 : Bytes B ∧ B.length ≤ 1000000000) (st : St) (w0 w : World) (hI : RQ w0 w g B st) (hB : Below w0.heap.size w0 w) :
    Calls Try.prog 85 #[.pointer (some ⟨g, 0, none⟩)] w (RTell rRel VRl w0 w g B st) := by
  have HBB := Aside0.mk hB0
  have R0 := Aside0.mk (RS.start hI hB #[.int .i64 0, .int .i64 0, .int .i64 0, .string ⟨#[]⟩, .int .i64 0, .slice none 0 0] 125)
  have K := Aside0.mk (R_version_Q g B hB0 st w0 _ R0.out.q R0.out.b)
  clear hB0 hI hB
  go_enter Try.func85, Try.ntmps85
  go_wp2_with (fail)
  refine K.out.mono ?_
  rintro e w1 ⟨v, ⟨a, b, c, s⟩, st1, rfl, hv, hs, hi, hb, hk⟩
  have hv' : v = .agg #[.int .i64 a, .int .i64 b, .int .i64 c, .string s] := hv
  subst hv'
  have R1a := R0.out.next hi hb hk
  have hq0 := (blk_cell R1a.c0) 0
  have hq1 := (blk_cell R1a.c0) 1
  have hq2 := (blk_cell R1a.c0) 2
  have hq3 := (blk_cell R1a.c0) 3
  have hf0 := free_of R1a.c0 0
  have hf1 := free_of R1a.c0 1
  have hf2 := free_of R1a.c0 2
  have hf3 := free_of R1a.c0 3
  have R1 := Aside0.mk (show RS w0 w g B 125 #[.int .i64 0, .int .i64 0, .int .i64 0, .string ⟨#[]⟩, .int .i64 0, .slice none 0 0] #[.int .i64 a, .int .i64 b, .int .i64 c, .string s, .int .i64 0, .slice none 0 0] st1 _ from (((R1a.set 0 (.int .i64 a)).set 1 (.int .i64 b)).set 2 (.int .i64 c)).set 3 (.string s))
  have HS1 := Aside0.mk hs
  have K1 := Aside0.mk (R_num_Q g B HBB.out st1 w0 _ R1.out.q R1.out.b)
  clear hv hs hi hb hk K R0 R1a
  go_wp2_with (fail)
  refine K1.out.mono ?_
  rintro e w2 ⟨v, l, st2, rfl, hv, hs, hi, hb, hk⟩
  have hv' : v = .int .i64 l := hv
  subst hv'
  have R2a := R1.out.next hi hb hk
  clear hq0 hq1 hq2 hq3 hf0 hf1 hf2 hf3
  have hq4 := (blk_cell R2a.c0) 4
  have hf4 := free_of R2a.c0 4
  have R2 := Aside0.mk (show RS w0 w g B 125 #[.int .i64 0, .int .i64 0, .int .i64 0, .string ⟨#[]⟩, .int .i64 0, .slice none 0 0] #[.int .i64 a, .int .i64 b, .int .i64 c, .string s, .int .i64 l, .slice none 0 0] st2 _ from R2a.set 4 (.int .i64 l))
  have HS2 := Aside0.mk hs
  have K2 := Aside0.mk (R_size_Q g B HBB.out st2 w0 _ R2.out.q R2.out.b)
  clear hv hs hi hb hk K1 R1 R2a
  go_wp2_with (fail)
  refine K2.out.mono ?_
  rintro e w3 ⟨m, st3, rfl, hm, hs, hi, hb, hk⟩
  have R3 := Aside0.mk (R2.out.next hi hb hk)
  have HS3 := Aside0.mk hs
  have HM := Aside0.mk hm
  clear hm hs hi hb hk K2 R2 hq4 hf4
  go_wp2
  go_loopg [5, 6] m (fun kq v5 v6 w' => ∃ (i : Nat) (xs : List Nd) (out : List Unit) (s1 : St) (A : Option Addr) (c1 : Nat), v5 = .int .i64 (i : Int) ∧ Aside0 (i + kq = m) ∧ Aside0 (out.length = i) ∧ Aside0 (Goes rNd m st3 kq xs s1) ∧ Aside0 ((kAny 2).R 137 w' w.heap.size (fun k => k ≠ g) (.slice A out.length c1) out) ∧ Aside0 (RS w0 w g B 125 #[.int .i64 0, .int .i64 0, .int .i64 0, .string ⟨#[]⟩, .int .i64 0, .slice none 0 0] #[.int .i64 a, .int .i64 b, .int .i64 c, .string s, .int .i64 l, .slice A out.length c1] s1 w'))
  case atStart => exact ⟨0, [], [], st3, none, 0, rfl, ⟨by omega⟩, ⟨rfl⟩, ⟨Goes.start _ _ _⟩, ⟨Kd.R_nil _ _ _ _ _⟩, R3⟩
  case round =>
    clear R3
    obtain ⟨i, xs, out, s1, A, c1, rfl, HJ, HOL, HGO, O1, R1⟩ := hrel
    obtain ⟨ee, hc1, hee⟩ := R1.out.q.ecell
    have HEE := Aside0.mk hee
    clear hee
    by_cases hgo : 0 < gk ∧ ee = 0
    · obtain ⟨hgk, he⟩ := hgo
      have e1 : decide (i < m) = true := decide_eq_true (by have := HJ.out; omega)
      have HE5 : Aside0 (wrap64 ((i : Int) + 1) = ((i + 1 : Nat) : Int)) := ⟨by have := HJ.out; have := HM.out; unfold wrap64; omega⟩
      have h0 : (ee == 0) = true := beq_iff_eq.2 he
      obtain ⟨gn, hgn⟩ : ∃ gn, gk = gn + 1 := ⟨gk - 1, by omega⟩
      have HGN := Aside0.mk hgn
      have hG := HGO.out
      rw [hgn] at hG
      have HG1 := Aside0.mk hG
      have K := Aside0.mk (R_num_Q g B HBB.out _ w0 wr R1.out.q R1.out.b)
      clear he hgk hgn hG
      go_wp2_with (fail)
      refine K.out.mono ?_
      rintro e w4 ⟨v, x, s2, rfl, hv, hs, hi, hb, hk⟩
      have hv' : v = .int .i64 x := hv
      subst hv'
      have R4 := Aside0.mk ((R1.out.next hi hb hk).below (below_drew (Below.refl w4.heap.size w4)))
      have O4 := Aside0.mk (Kd.R_below (R_only O1.out hk) (below_drew (Below.refl w4.heap.size w4)))
      have HS4 := Aside0.mk hs
      have hq4 : w4.drew.cell? ⟨w.heap.size + 1, 5, none⟩ = some (.slice A out.length c1) := (blk_cell R4.out.c0) 5
      have K' := Aside0.mk (R_ranged_Q g B HBB.out s2 w0 w4.drew R4.out.q R4.out.b)
      clear K hs hi hb hk hv hc1
      go_wp2
      go_region_law (first
        | (go_simp; go_at_call 72; go_must (refine K'.out.mono ?_; rintro e w5 ⟨v, y, s3, rfl, ⟨Ar, nr, cr, rfl⟩, hs, hi, hb, hk⟩; have R5 := Aside0.mk (R4.out.next hi hb hk); have hb7 := below_alloc (Below.refl w5.heap.size w5) (Obj.cells #[.int .i64 x, .slice Ar nr cr] 137); have R7 := Aside0.mk (R5.out.below hb7); have O7 := Aside0.mk (Kd.R_below (R_only O4.out hk) hb7); have HS5 := Aside0.mk hs; have HL7 := Aside0.mk (lit_any w5 [.int .i64 x, .slice Ar nr cr] 137 2 rfl (by simp [Value.oneCell']) (by decide)); have hq5 := (blk_cell R5.out.c0) 5; have hq7 := (blk_cell R7.out.c0) 5; clear K' hs hi hb hk hb7))
        | (refine Kd.R_append_rows_step (kAny 2) (w0 := w5.alloc (.cells #[.int .i64 x, .slice Ar nr cr] 137)) w.heap.size (by simp [Region.wanted]) (.tmp 30) (.tmp 35) 123 137 (.agg #[.int .i64 0, .slice none 0 0]) 32 rfl Try.underlying123 info_n12 rfl (by decide) (by decide) (.slice A out.length c1) out [()] (some ⟨w5.heap.size, 0, none⟩) 1 1 (fun k => k ≠ g) (fun k => k ≠ g ∧ some k ≠ (Value.slice A out.length c1).ownBlock) (by simp [Act.eval, Act.put]) (by simp [Act.eval, Act.put]) O7.out HL7.out (fun p cs h => h) (fun k hk => hk) (fun k hk => by have := R7.out.q.lt; omega) (Below.refl _ _) R7.out.o.1 (by have := HOL.out; have := HJ.out; have := HM.out; omega) ?_; intro v44 w8 ho hb hgr hat; obtain ⟨A8, c8, rfl⟩ := Kd.R_slice ho; have O8 := Aside0.mk ho; have R8 := Aside0.mk (R7.out.grow hb hgr (Kd.R_ne O7.out R7.out.z0 (by decide)) (Kd.R_ne O7.out R7.out.c0 (by decide))); have hq8 := (blk_cell R8.out.c0) 5; have hf8 := free_of R8.out.c0 5; clear ho hb hgr hat))
      all_goals
        go_wp2
        go_roundg gn
        case measure => have := HGN.out; omega
        case rel =>
          refine ⟨i + 1, xs ++ [(x, y)], out ++ [()], s3, A8, c8, (by first | exact congrArg _ HE5.out | rfl), ⟨by have := HJ.out; have := HGN.out; omega⟩, ⟨by simp [HOL.out]⟩, ⟨HG1.out.next (Step.bind HS4.out (Step.map (f := fun b => (x, b)) HS5.out))⟩, ⟨Kd.R_set O8.out R8.out.c0 (by simp [kAny]) 5 (.slice A8 (out.length + 1) c8)⟩, ⟨by rw [len_snoc]; exact R8.out.set 5 (.slice A8 (out.length + 1) c8)⟩⟩
    · obtain ⟨hT, hex⟩ := goes_out HGO.out HJ.out HEE.out hgo
      have HT := Aside0.mk hT
      have hz0 := (blk_cell R1.out.z0) 0
      have hg0 := free_of R1.out.z0 0
      have hy0 := (blk_cell R1.out.c0) 0
      have hz1 := (blk_cell R1.out.z0) 1
      have hg1 := free_of R1.out.z0 1
      have hy1 := (blk_cell R1.out.c0) 1
      have hz2 := (blk_cell R1.out.z0) 2
      have hg2 := free_of R1.out.z0 2
      have hy2 := (blk_cell R1.out.c0) 2
      have hz3 := (blk_cell R1.out.z0) 3
      have hg3 := free_of R1.out.z0 3
      have hy3 := (blk_cell R1.out.c0) 3
      have hz4 := (blk_cell R1.out.z0) 4
      have hg4 := free_of R1.out.z0 4
      have hy4 := (blk_cell R1.out.c0) 4
      have hz5 := (blk_cell R1.out.z0) 5
      have hg5 := free_of R1.out.z0 5
      have hy5 := (blk_cell R1.out.c0) 5
      clear hT hgo HEE HGO
      rcases hex with e1 | ⟨e1, h0⟩
      all_goals
        go_wp2
        refine bodyPost_ret (v := .agg #[.int .i64 a, .int .i64 b, .int .i64 c, .string s, .int .i64 l, .slice A out.length c1]) (by simp [results, Try.results85, go_sem, hz0, hz1, hz2, hz3, hz4, hz5]) rfl ?_
        obtain ⟨y, t⟩ := HT.out
        exact ⟨_, ((a, b, c, s), l, y), s1, rfl, ⟨_, _, _, _, _, _, _, _, rfl⟩, Step.bind HS1.out (Step.map (f := fun y => ((a, b, c, s), y)) (Step.bind HS2.out (Step.map (f := fun y => (l, y)) (Step.list HS3.out t)))), R1.out.q.turned (b := w.heap.size) (by have := R1.out.lt; omega) (fun k hk => far6 _ hk _ _ _ _ _ _), (((((R1.out.b.setCell (p := ⟨w.heap.size, 0, none⟩) R1.out.le _).setCell (p := ⟨w.heap.size, 1, none⟩) R1.out.le _).setCell (p := ⟨w.heap.size, 2, none⟩) R1.out.le _).setCell (p := ⟨w.heap.size, 3, none⟩) R1.out.le _).setCell (p := ⟨w.heap.size, 4, none⟩) R1.out.le _).setCell (p := ⟨w.heap.size, 5, none⟩) R1.out.le _, R1.out.o.turned (b := w.heap.size) (Nat.le_refl _) (by simp) (fun k hk => far6 _ hk _ _ _ _ _ _)⟩
theorem info_r12 : (Try.prog.info? 125).map (fun i => (i.zero, i.size, i.bytes)) = some (some (.agg #[.int .i64 0, .int .i64 0, .int .i64 0, .string ⟨#[]⟩, .int .i64 0, .slice none 0 0]), 6, 72) := by kernel_rfl
theorem info_s12 : (Try.prog.info? 116).map (fun i => (i.zero, i.size, i.bytes)) = some (some (.agg #[.string ⟨#[]⟩, .slice none 0 0]), 2, 40) := by kernel_rfl
set_option maxHeartbeats 8000000 in
set_option maxRecDepth 20000 in
theorem R_Catalog_Q (g : Nat) (B : List Int) (hB0 : Bytes B ∧ B.length ≤ 1000000000) (st : St) (w0 w : World) (hI : RQ w0 w g B st) (hB : Below w0.heap.size w0 w) :
    Calls Try.prog 33 #[.pointer (some ⟨g, 0, none⟩)] w (RTell rCat (fun _ _ _ => True) w0 w g B st) := by
  have HBB := Aside0.mk hB0
  have R0 := Aside0.mk (RS.start hI hB #[.slice none 0 0] 64)
  have K := Aside0.mk (R_size_Q g B hB0 st w0 _ R0.out.q R0.out.b)
  clear hB0 hI hB
  go_enter Try.func33, Try.ntmps33
  go_wp2_with (fail)
  refine K.out.mono ?_
  rintro e w1 ⟨m, st1, rfl, hm, hs, hi, hb, hk⟩
  have R1 := Aside0.mk (R0.out.next hi hb hk)
  have HS1 := Aside0.mk hs
  have HM := Aside0.mk hm
  clear hm hs hi hb hk K R0
  go_wp2
  go_loopg [5, 6, 7, 8] m (fun kq v5 v6 v7 v8 w' => ∃ (i : Nat) (xs : List Svc) (out : List Unit) (s : St) (A : Option Addr) (c : Nat), v5 = .int .i64 (i : Int) ∧ Aside0 (i + kq = m) ∧ Aside0 (out.length = i) ∧ Aside0 (Goes rSvc m st1 kq xs s) ∧ Aside0 ((kAny 2).R 116 w' w.heap.size (fun k => k ≠ g) (.slice A out.length c) out) ∧ Aside0 (RS w0 w g B 64 #[.slice none 0 0] #[.slice A out.length c] s w'))
  case atStart => exact ⟨0, [], [], st1, none, 0, rfl, ⟨by omega⟩, ⟨rfl⟩, ⟨Goes.start _ _ _⟩, ⟨Kd.R_nil _ _ _ _ _⟩, R1⟩
  case round =>
    clear R1
    obtain ⟨i, xs, out, s1, A, c1, rfl, HJ, HOL, HGO, O1, R1⟩ := hrel
    obtain ⟨ee, hc1, hee⟩ := R1.out.q.ecell
    have HEE := Aside0.mk hee
    clear hee
    by_cases hgo : 0 < gk ∧ ee = 0
    · obtain ⟨hgk, he⟩ := hgo
      have e1 : decide (i < m) = true := decide_eq_true (by have := HJ.out; omega)
      have HE5 : Aside0 (wrap64 ((i : Int) + 1) = ((i + 1 : Nat) : Int)) := ⟨by have := HJ.out; have := HM.out; unfold wrap64; omega⟩
      have h0 : (ee == 0) = true := beq_iff_eq.2 he
      obtain ⟨gn, hgn⟩ : ∃ gn, gk = gn + 1 := ⟨gk - 1, by omega⟩
      have HGN1 := Aside0.mk hgn
      have hG := HGO.out
      rw [hgn] at hG
      have HG1 := Aside0.mk hG
      obtain ⟨Z2, hZ2⟩ : ∃ o, o = Obj.cells #[.string ⟨#[]⟩, .slice none 0 0] 116 := ⟨_, rfl⟩
      have hbx := below_alloc (Below.refl wr.heap.size wr) Z2
      have R1a := Aside0.mk (R1.out.below hbx)
      have O1a := Aside0.mk (Kd.R_below O1.out hbx)
      have HQ := heap_last wr Z2
      obtain ⟨bs, hbs⟩ : ∃ bs, wr.heap.size = bs := ⟨_, rfl⟩
      have HBS : Aside0 (w.heap.size + 2 ≤ bs) := ⟨by rw [← hbs]; exact R1.out.size⟩
      have HGL : Aside0 (g < w.heap.size) := ⟨R1.out.lt⟩
      have HFR : Aside0 (some bs ≠ (Value.slice A out.length c1).ownBlock) := ⟨by rw [← hbs]; exact Kd.R_fresh O1.out⟩
      rw [hbs] at HQ
      have K := Aside0.mk (R_text_Q g B HBB.out _ w0 (wr.alloc Z2) R1a.out.q R1a.out.b)
      subst hZ2
      have HQ := Aside0.mk HQ
      clear he hgk hgn hG hbx R1 O1
      go_wp2_with (fail)
      refine K.out.mono ?_
      rintro e w2 ⟨v, nm, st2, rfl, hv, hs, hi, hb, hk⟩
      have hv' : v = .string nm := hv
      subst hv'
      have HQ2 := Aside0.mk ((hk.2 bs (blk_lt HQ.out) (by have := HGL.out; have := HBS.out; omega)).trans HQ.out)
      have R2 := Aside0.mk ((R1a.out.next hi hb hk).far (b := bs) HBS.out 0 (.string nm))
      have O2 := Aside0.mk (Kd.R_mono (Kd.R_far (p := ⟨bs, 0, none⟩) (Kd.R_far1 (R_only O1a.out hk) rfl HFR.out) (fun _ h => h.2) (.string nm)) (fun _ h => h.1))
      have HS2 := Aside0.mk hs
      have hq0 := (blk_cell HQ2.out) 0
      have hf0 := free_of HQ2.out 0
      have HQ3 := Aside0.mk (box_set (o := 0) HQ2.out (.string nm))
      have K := Aside0.mk (R_size_Q g B HBB.out st2 w0 _ R2.out.q R2.out.b)
      clear hs hi hb hk hv HQ HQ2 R1a O1a hc1 e1 h0
      go_wp2_with (fail)
      refine K.out.mono ?_
      rintro e w3 ⟨m2, st3, rfl, hm, hs, hi, hb, hk⟩
      have R3 := Aside0.mk (R2.out.next hi hb hk)
      have O3 := Aside0.mk (R_only O2.out hk)
      have HQ4 := Aside0.mk ((hk.2 bs (blk_lt HQ3.out) (by have := HGL.out; have := HBS.out; omega)).trans HQ3.out)
      have HS3 := Aside0.mk hs
      have HM2 := Aside0.mk hm
      clear hm hs hi hb hk K R2 O2 HQ3 hq0 hf0
      obtain ⟨wo, hwo⟩ : ∃ wo : World, wo = wr := ⟨_, rfl⟩
      clear hwo hbs
      go_wp2
      go_loopg [8] m2 (fun kq v8 w' => ∃ (k : Nat) (xs2 : List Rel) (ys : List Unit) (s : St) (A2 : Option Addr) (c2 : Nat), v8 = .int .i64 (k : Int) ∧ Aside0 (k + kq = m2) ∧ Aside0 (ys.length = k) ∧ Aside0 (Goes rRel m2 st3 kq xs2 s) ∧ Aside0 ((kAny 6).R 125 w' w.heap.size (fun k => k ≠ g) (.slice A2 ys.length c2) ys) ∧ Aside0 ((kAny 2).R 116 w' w.heap.size (fun k => k ≠ g) (.slice A out.length c1) out) ∧ Aside0 (w'.heap[bs]? = some (.cells #[.string nm, .slice A2 ys.length c2] 116)) ∧ Aside0 (RS w0 w g B 64 #[.slice none 0 0] #[.slice A out.length c1] s w'))
      case atStart => exact ⟨0, [], [], st3, none, 0, rfl, ⟨by omega⟩, ⟨rfl⟩, ⟨Goes.start _ _ _⟩, ⟨Kd.R_nil _ _ _ _ _⟩, O3, HQ4, R3⟩
      case round =>
        clear O3 R3 HQ4
        obtain ⟨k, xs2, ys, s2, A2, c2, rfl, HJ2, HYL, HGO2, A3, O3, HQ, R3⟩ := hrel
        obtain ⟨ee2, hc1, hee⟩ := R3.out.q.ecell
        have HEE2 := Aside0.mk hee
        clear hee
        by_cases hgo2 : 0 < gk ∧ ee2 = 0
        · obtain ⟨hgk, he⟩ := hgo2
          have e1 : decide (k < m2) = true := decide_eq_true (by have := HJ2.out; omega)
          have HE52 : Aside0 (wrap64 ((k : Int) + 1) = ((k + 1 : Nat) : Int)) := ⟨by have := HJ2.out; have := HM2.out; unfold wrap64; omega⟩
          have h0 : (ee2 == 0) = true := beq_iff_eq.2 he
          obtain ⟨gn2, hgn⟩ : ∃ gn, gk = gn + 1 := ⟨gk - 1, by omega⟩
          have HGN2 := Aside0.mk hgn
          have hG := HGO2.out
          rw [hgn] at hG
          have HG2 := Aside0.mk hG
          have hd4 := below_drew (Below.refl wr.heap.size wr)
          have R4 := Aside0.mk (R3.out.below hd4)
          have O4 := Aside0.mk (Kd.R_below O3.out hd4)
          have A4 := Aside0.mk (Kd.R_below A3.out hd4)
          have HQ4 : Aside0 (wr.drew.heap[bs]? = some (.cells #[.string nm, .slice A2 ys.length c2] 116)) := ⟨HQ.out⟩
          have hq4 : wr.drew.cell? ⟨bs, 1, none⟩ = some (.slice A2 ys.length c2) := (blk_cell HQ4.out) 1
          have K' := Aside0.mk (R_release_Q g B HBB.out _ w0 wr.drew R4.out.q R4.out.b)
          clear he hgk hgn hG hd4
          go_wp2
          go_region_law (first
            | (go_simp; go_at_call 85; go_must (refine K'.out.mono ?_; rintro e w5 ⟨v, y, s3, rfl, ⟨a, b, c, sx, l, Ar, nr, cr, rfl⟩, hs, hi, hb, hk⟩; have R5 := Aside0.mk (R4.out.next hi hb hk); have HQ5 := Aside0.mk ((hk.2 bs (blk_lt HQ4.out) (by have := HGL.out; have := HBS.out; omega)).trans HQ4.out); have hb7 := below_alloc (Below.refl w5.heap.size w5) (Obj.cells #[.int .i64 a, .int .i64 b, .int .i64 c, .string sx, .int .i64 l, .slice Ar nr cr] 125); have R7 := Aside0.mk (R5.out.below hb7); have O7 := Aside0.mk (Kd.R_below (R_only O4.out hk) hb7); have A7 := Aside0.mk (Kd.R_below (R_only A4.out hk) hb7); have HQ7 := Aside0.mk ((hb7.block _ (blk_lt HQ5.out)).trans HQ5.out); have HS5 := Aside0.mk hs; have HL7 := Aside0.mk (lit_any w5 [.int .i64 a, .int .i64 b, .int .i64 c, .string sx, .int .i64 l, .slice Ar nr cr] 125 6 rfl (by simp [Value.oneCell']) (by decide)); have hq5 := (blk_cell HQ5.out) 1; have hq7 := (blk_cell HQ7.out) 1; clear K' hs hi hb hk hb7))
            | (refine Kd.R_append_rows_step (kAny 6) (w0 := w5.alloc (.cells #[.int .i64 a, .int .i64 b, .int .i64 c, .string sx, .int .i64 l, .slice Ar nr cr] 125)) w.heap.size (by simp [Region.wanted]) (.tmp 41) (.tmp 44) 114 125 (.agg #[.int .i64 0, .int .i64 0, .int .i64 0, .string ⟨#[]⟩, .int .i64 0, .slice none 0 0]) 72 rfl Try.underlying114 info_r12 rfl (by decide) (by decide) (.slice A2 ys.length c2) ys [()] (some ⟨w5.heap.size, 0, none⟩) 1 1 (fun k => k ≠ g) (fun k => k ≠ g ∧ some k ≠ (Value.slice A2 ys.length c2).ownBlock) (by simp [Act.eval, Act.put]) (by simp [Act.eval, Act.put]) A7.out HL7.out (fun p cs h => h) (fun k hk => hk) (fun k hk => by have := R7.out.q.lt; omega) (Below.refl _ _) R7.out.o.1 (by have := HYL.out; have := HJ2.out; have := HM2.out; omega) ?_; intro v44 w8 ho hb hgr hat; obtain ⟨A8, c8, rfl⟩ := Kd.R_slice ho; have A9 := Aside0.mk ho; have O8 := Aside0.mk (Kd.R_over O7.out A7.out (by simp [kAny]) hgr); have HQ8 := Aside0.mk ((hgr.block _ (blk_lt HQ7.out) (Kd.R_ne A7.out HQ7.out (by decide))).trans HQ7.out); have R8 := Aside0.mk (R7.out.grow hb hgr (Kd.R_ne A7.out R7.out.z0 (by decide)) (Kd.R_ne A7.out R7.out.c0 (by decide))); have hq8 := (blk_cell HQ8.out) 1; have hf8 := free_of HQ8.out 1; clear ho hb hgr hat))
          all_goals
            go_wp2
            go_roundg gn2
            case measure => have := HGN2.out; omega
            case rel =>
              refine ⟨k + 1, xs2 ++ [y], ys ++ [()], s3, A8, c8, (by first | exact congrArg _ HE52.out | rfl), ⟨by have := HJ2.out; have := HGN2.out; omega⟩, ⟨by simp [HYL.out]⟩, ⟨HG2.out.next HS5.out⟩, ⟨Kd.R_set A9.out HQ8.out (by simp [kAny]) 1 (.slice A8 (ys.length + 1) c8)⟩, ⟨Kd.R_mono (Kd.R_far (p := ⟨bs, 1, none⟩) (Kd.R_far1 O8.out rfl HFR.out) (fun _ h => h.2) (.slice A8 (ys.length + 1) c8)) (fun _ h => h.1)⟩, ⟨by rw [len_snoc]; exact box_set (o := 1) HQ8.out (.slice A8 (ys.length + 1) c8)⟩, ⟨R8.out.far (b := bs) HBS.out 1 (.slice A8 (ys.length + 1) c8)⟩⟩
        · obtain ⟨hT2, hex2⟩ := goes_out HGO2.out HJ2.out HEE2.out hgo2
          have HT2 := Aside0.mk hT2
          have hq := (blk_cell R3.out.c0) 0
          have hf := free_of R3.out.c0 0
          have hp0 := (blk_cell HQ.out) 0
          have hp1 := (blk_cell HQ.out) 1
          clear hT2 hgo2 HEE2 HGO2
          rcases hex2 with e1 | ⟨e1, h0⟩
          all_goals
            go_wp2_with (first
              | ((with_reducible refine gate_dst (N := 50) rfl ?_); go_must (refine Kd.R_lit (kAny 2) (w0 := wr) w.heap.size 116 ?hg (N := 50) ?hd (xs := [()]) (inner := [.string nm, .slice A2 ys.length c2]) (ok := fun k => k ≠ g ∧ some k ≠ (Value.slice A out.length c1).ownBlock) (okp := fun k => k ≠ g ∧ some k ≠ (Value.slice A out.length c1).ownBlock) ?hr ?hp (fun _ hk => hk) ⟨by have := R3.out.q.lt; omega, Kd.R_fresh O3.out⟩ (Below.refl _ _) R3.out.o.1 (by simp) ?_; (case hd => rfl); (case hg => rfl); (case hr => first | (go_simp; done) | (go_simp; rfl)); (case hp => exact reps1 ⟨rfl, by simp [Value.oneCell']⟩ rfl); intro v43 w7 ho hb hg_ hnew_; obtain ⟨A43, c43, rfl, hcl43, hC43⟩ := OwnRow.reads ho.2; have HC43 := Aside0.mk hC43; have O5 := Aside0.mk (Kd.R_grown O3.out hg_ (fun _ _ => by simp)); have R5 := Aside0.mk (R3.out.grow hb hg_ (by simp) (by simp)); have hq5 := (blk_cell R5.out.c0) 0; clear ho hb hC43 hcl43 hg_ hnew_))
              | ((with_reducible refine gate_builtin (b := .append) (xs := #[.tmp 48, .tmp 50]) rfl ?_); at_builtin; go_must (refine Kd.R_append_rows (kAny 2) (w0 := w7) w.heap.size rfl (.tmp 48) (.tmp 50) 62 116 (.agg #[.string ⟨#[]⟩, .slice none 0 0]) 40 rfl Try.underlying62 info_s12 rfl (by decide) (by decide) (.slice A out.length c1) out [()] A43 1 c43 (fun k => k ≠ g) _ rfl rfl O5.out HC43.out (fun _ _ h => h) (fun k hk => ⟨hk.1.1, hk.1.2⟩) (fun k hk => by have := R5.out.q.lt; omega) (Below.refl _ _) R5.out.o.1 (by have := HOL.out; have := HJ.out; have := HM.out; omega) ?_; intro v44 w8 ho hb hgr hat; obtain ⟨A8, c8, rfl⟩ := Kd.R_slice ho; have O6 := Aside0.mk ho; have R6 := Aside0.mk (R5.out.grow hb hgr (Kd.R_ne O5.out R5.out.z0 (by decide)) (Kd.R_ne O5.out R5.out.c0 (by decide))); have hq8 := (blk_cell R6.out.c0) 0; have hf8 := free_of R6.out.c0 0; clear hq5 ho hb hgr hat)))
            go_roundg gn
            case measure => have := HGN1.out; omega
            case rel =>
              obtain ⟨ys2, t2⟩ := HT2.out
              refine ⟨i + 1, xs ++ [(nm, ys2)], out ++ [()], s2, A8, c8, (by first | exact congrArg _ HE5.out | rfl), ⟨by have := HJ.out; have := HGN1.out; omega⟩, ⟨by simp [HOL.out]⟩, ⟨HG1.out.next (Step.bind HS2.out (Step.map (f := fun y => (nm, y)) (Step.list HS3.out t2)))⟩, ⟨Kd.R_set O6.out R6.out.c0 (by simp [kAny]) 0 (.slice A8 (out.length + 1) c8)⟩, ⟨by rw [len_snoc]; exact R6.out.set 0 (.slice A8 (out.length + 1) c8)⟩⟩
    · obtain ⟨hT, hex⟩ := goes_out HGO.out HJ.out HEE.out hgo
      have HT := Aside0.mk hT
      have hz0 := (blk_cell R1.out.z0) 0
      have hg0 := free_of R1.out.z0 0
      have hy0 := (blk_cell R1.out.c0) 0
      clear hT hgo HEE HGO
      rcases hex with e1 | ⟨e1, h0⟩
      all_goals
        go_wp2
        refine bodyPost_ret (v := .agg #[.slice A out.length c1]) (by simp [results, Try.results33, go_sem, hz0]) rfl ?_
        obtain ⟨y, t⟩ := HT.out
        exact ⟨_, y, s1, rfl, trivial, Step.list HS1.out t, R1.out.q.far (by have := R1.out.lt; omega) _ _, R1.out.b.setCell (p := ⟨w.heap.size, 0, none⟩) R1.out.le _, R1.out.o.far (Nat.le_refl _) _ _⟩
end Go.Proofs.Ythefbeekcjchcaa.P
