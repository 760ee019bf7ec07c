/- What the statements make of ranges and catalogues: the document's form of them, walked. -/
import Derived.Test.YthefbeekcjchcaaPutAllC
import Derived.Test.YthefbeekcjchcaaGetVer
namespace Go.Proofs.Ythefbeekcjchcaa.P
open Go Go.RowKit Go.Proofs.YthefbeekcjchcaaW.PrintWords Go.Proofs.YthefbeekcjchcaaW.PrintLast Go.Proofs.YthefbeekcjchcaaW.PrintMore
set_option linter.unusedVariables false
set_option linter.unusedSimpArgs false
abbrev kCmpsR : Kd (List Cmp) := Kd.slice 179 kCmp
abbrev kRngR : Kd Rng := Kd.slice 175 kCmpsR
abbrev kNdR : Kd Nd := Kd.pair (Kd.int .i64) kRngR
abbrev kRelR : Kd Rel := Kd.pair kVer (Kd.pair (Kd.int .i64) (Kd.slice 137 kNdR))
abbrev kSvcR : Kd Svc := Kd.pair Kd.string (Kd.slice 125 kRelR)
def okCmp (c : Cmp) : Bool := decide (c.2.2.2.2.size ≤ 100)
def okCmps (l : List Cmp) : Bool := decide (l.length ≤ 12) && l.all okCmp
def okRng (x : Rng) : Bool := decide (x.length ≤ 12) && x.all okCmps
/-- The boxes of an argument, of a result, of what is made. -/
structure MB (w : World) (T0 T1 : Nat) (a z c : Array Value) (W : World) : Prop where
  a0 : W.heap[w.heap.size]? = some (.cells a T0 (0, 0))
  z0 : W.heap[w.heap.size + 1]? = some (.cells z T1 (0, 0))
  c0 : W.heap[w.heap.size + 2]? = some (.cells c T1 (0, 0))
  b : Below w.heap.size w W
section
variable {w W W1 : World} {T0 T1 : Nat} {a z c : Array Value}
theorem MB.start (w : World) (a z : Array Value) (T0 T1 : Nat) : MB w T0 T1 a z z (((w.alloc (.cells a T0)).alloc (.cells z T1)).alloc (.cells z T1)) where
  a0 := ((below_alloc (below_alloc (Below.refl _ (w.alloc (.cells a T0))) (.cells z T1)) (.cells z T1)).block w.heap.size (by rw [World.size_alloc]; omega)).trans (heap_last w _)
  z0 := by
    have h := box_lit (w.alloc (.cells a T0)) (.cells z T1) (.cells z T1)
    rwa [World.size_alloc] at h
  c0 := by
    have h := heap_last ((w.alloc (.cells a T0)).alloc (.cells z T1)) (.cells z T1)
    rwa [World.size_alloc, World.size_alloc] at h
  b := below_alloc (below_alloc (below_alloc (Below.refl _ _) _) _) _
theorem MB.size (h : MB w T0 T1 a z c W) : w.heap.size + 3 ≤ W.heap.size := blk_lt h.c0
theorem MB.below (h : MB w T0 T1 a z c W) (hb : Below W.heap.size W W1) : MB w T0 T1 a z c W1 where
  a0 := (hb.block _ (blk_lt h.a0)).trans h.a0
  z0 := (hb.block _ (blk_lt h.z0)).trans h.z0
  c0 := (hb.block _ (blk_lt h.c0)).trans h.c0
  b := h.b.trans (hb.mono h.b.size)
theorem MB.grow (h : MB w T0 T1 a z c W) {row : Option Nat} (hb : Below w.heap.size W W1) (hg : W.grownBy W1 row) (h0 : some w.heap.size ≠ row) (h1 : some (w.heap.size + 1) ≠ row) (h2 : some (w.heap.size + 2) ≠ row) : MB w T0 T1 a z c W1 where
  a0 := (hg.block _ (blk_lt h.a0) h0).trans h.a0
  z0 := (hg.block _ (blk_lt h.z0) h1).trans h.z0
  c0 := (hg.block _ (blk_lt h.c0) h2).trans h.c0
  b := h.b.trans hb
theorem MB.set (h : MB w T0 T1 a z c W) (o : Nat) (v : Value) : MB w T0 T1 a z (c.set! o v) (W.setCell ⟨w.heap.size + 2, o, none⟩ v) where
  a0 := (Below.heap_setCell W ⟨w.heap.size + 2, o, none⟩ v w.heap.size (by simp)).trans h.a0
  z0 := (Below.heap_setCell W ⟨w.heap.size + 2, o, none⟩ v (w.heap.size + 1) (by simp)).trans h.z0
  c0 := box_set h.c0 v
  b := h.b.setCell (p := ⟨w.heap.size + 2, o, none⟩) (by show _ ≤ w.heap.size + 2; omega) v
end
theorem at_slice {α : Type} {d : Kd α} {e : Nat} {w : World} {A : Option Addr} {l : List (List α)} (h : Kd.C (Kd.slice e d) w A l.length l) (i : Nat) (hi : i < l.length) :
    ∃ ad Ai ci, A = some ad ∧ w.cell? (ad.add i) = some (.slice Ai (l.getD i []).length ci) ∧ (l.getD i []).length ≤ ci ∧ Kd.C d w Ai (l.getD i []).length (l.getD i []) := by
  obtain ⟨ad, cs, ea, hcl, hK, hcc⟩ := Kd.C_get h [] (i : Int) (by omega) (by omega)
  rw [Int.toNat_natCast] at hK hcc
  obtain ⟨Ai, ci, rfl, hle, hC⟩ := hK
  have := hcc 0 _ rfl
  exact ⟨ad, Ai, ci, ea, by simpa [Kd.slice] using this, hle, hC⟩
theorem at_cmp {w : World} {A : Option Addr} {l : List Cmp} (h : Kd.C kCmp w A l.length l) (i : Nat) (hi : i < l.length) :
    ∃ ad, A = some ad ∧ w.cell? (ad.add (i * 5)) = some (.int .i64 (l.getD i (0, noVer)).1) ∧ w.cell? ⟨(ad.add (i * 5)).block, (ad.add (i * 5)).off + 1, none⟩ = some (.int .i64 (l.getD i (0, noVer)).2.1) ∧ w.cell? ⟨(ad.add (i * 5)).block, (ad.add (i * 5)).off + 2, none⟩ = some (.int .i64 (l.getD i (0, noVer)).2.2.1) ∧ w.cell? ⟨(ad.add (i * 5)).block, (ad.add (i * 5)).off + 3, none⟩ = some (.int .i64 (l.getD i (0, noVer)).2.2.2.1) ∧ w.cell? ⟨(ad.add (i * 5)).block, (ad.add (i * 5)).off + 4, none⟩ = some (.string (l.getD i (0, noVer)).2.2.2.2) := by
  obtain ⟨ad, cs, ea, hcl, hK, hcc⟩ := Kd.C_get h (0, noVer) (i : Int) (by omega) (by omega)
  rw [Int.toNat_natCast] at hK hcc
  obtain ⟨z0, z1, rfl, y0, z2, z3, rfl, y1, z4, z5, rfl, y2, z6, z7, rfl, y3, y4⟩ := hK
  cases y0
  cases y1
  cases y2
  cases y3
  cases y4
  have hj : ∀ j u, ([Value.int .i64 (l.getD i (0, noVer)).1, .int .i64 (l.getD i (0, noVer)).2.1, .int .i64 (l.getD i (0, noVer)).2.2.1, .int .i64 (l.getD i (0, noVer)).2.2.2.1, .string (l.getD i (0, noVer)).2.2.2.2] : List Value)[j]? = some u → w.cell? ((ad.add (i * 5)).add j) = some u := fun j u hu => by
    rw [Addr.add_add]
    exact hcc j u hu
  exact ⟨ad, ea, hj 0 _ rfl, hj 1 _ rfl, hj 2 _ rfl, hj 3 _ rfl, hj 4 _ rfl⟩
theorem take_ok {α : Type} {f : α → Bool} {l : List α} {i : Nat} (h : i < l.length) (z : α) (hl : (l.take i).all f = true) (hx : f (l.getD i z) = true) : (l.take (i + 1)).all f = true := by
  rw [List.take_add_one, List.all_append, hl, Bool.true_and]
  rw [List.getD_eq_getElem?_getD, List.getElem?_eq_getElem h] at hx
  rw [List.getElem?_eq_getElem h]
  simpa using hx
theorem take_bad {α : Type} {f : α → Bool} {l : List α} {i : Nat} (h : i < l.length) (z : α) (hx : f (l.getD i z) = false) : l.all f = false := by
  rw [List.getD_eq_getElem?_getD, List.getElem?_eq_getElem h] at hx
  rw [List.all_eq_false]
  exact ⟨l[i], List.getElem_mem h, by simpa using hx⟩
theorem take_snoc {α : Type} {l : List α} {i : Nat} (h : i < l.length) (z : α) : l.take i ++ [l.getD i z] = l.take (i + 1) := by
  rw [List.take_add_one, List.getD_eq_getElem?_getD, List.getElem?_eq_getElem h]
  rfl
theorem info_mc : (Try.prog.info? 179).map (fun i => (i.zero, i.size, i.bytes)) = some (some (.agg #[.int .i64 0, .int .i64 0, .int .i64 0, .int .i64 0, .string ⟨#[]⟩]), 5, 48) := by kernel_rfl
theorem info_ml : (Try.prog.info? 175).map (fun i => (i.zero, i.size, i.bytes)) = some (some (.slice none 0 0), 1, 24) := by kernel_rfl
set_option maxHeartbeats 8000000 in
set_option maxRecDepth 20000 in
theorem Range_T (x : Rng) (A : Option Addr) (c : Nat) (w : World) (h : Kd.C kCmps w A x.length x) :
    Calls Try.prog 54 #[.agg #[.slice A x.length c]] w fun e w' => ∃ Au nu cu, e = .returned (.tuple #[.agg #[.slice Au nu cu], .bool (okRng x)]) ∧ (okRng x = true → kCmpsR.R 175 w' w.heap.size (fun _ => True) (.slice Au nu cu) x) ∧ Below w.heap.size w w' := by
  have HC := Aside0.mk h
  obtain ⟨R, hR⟩ : ∃ r, okRng x = r := ⟨_, rfl⟩
  rw [hR]
  have HR := Aside0.mk hR
  clear hR
  have M0 := Aside0.mk (MB.start w #[.slice A x.length c] #[.slice none 0 0] 128 133)
  have hp0 := (blk_cell M0.out.a0) 0
  clear h
  by_cases q : x.length ≤ 12
  · have d : decide (12 < (x.length : Int)) = false := decide_eq_false (by omega)
    have HQ := Aside0.mk q
    clear q
    go_enter Try.func54, Try.ntmps54
    go_wp2
    clear hp0 d
    go_loopg [6, 7, 9, 18, 28] x.length (fun kq v6 v7 v9 v18 v28 w' => ∃ (i : Nat) (A2 : Option Addr) (c2 : Nat), v18 = .int .i64 (i : Int) ∧ Aside0 (i + kq = x.length) ∧ Aside0 ((x.take i).all okCmps = true) ∧ Aside0 (kCmpsR.R 175 w' w.heap.size (fun _ => True) (.slice A2 i c2) (x.take i)) ∧ Aside0 (MB w 128 133 #[.slice A x.length c] #[.slice none 0 0] #[.slice A2 i c2] w'))
    case atStart => exact ⟨0, none, 0, rfl, ⟨by omega⟩, ⟨rfl⟩, ⟨Kd.R_nil _ _ _ _ _⟩, M0⟩
    case round =>
      clear M0
      obtain ⟨i, A2, c2, rfl, HJ, HOK, O1, M1⟩ := hrel
      by_cases c1 : i < x.length
      · have e1 : decide (i < x.length) = true := decide_eq_true c1
        have HE5 : Aside0 (wrap64 ((i : Int) + 1) = ((i + 1 : Nat) : Int)) := ⟨by have := HQ.out; unfold wrap64; omega⟩
        have HI := Aside0.mk c1
        obtain ⟨ad, Ai, ci, ea, hx, hle, hCl⟩ := at_slice HC.out i c1
        cases ea
        have hx0 := pw_cell_below M1.out.b hx
        obtain ⟨l, hl⟩ : ∃ l, x.getD i [] = l := ⟨_, rfl⟩
        rw [hl] at hx0 hle hCl
        have HL := Aside0.mk hl
        have HCL := Aside0.mk hCl
        clear hx hle hCl hl
        by_cases q2 : l.length ≤ 12
        · have d2 : decide (12 < (l.length : Int)) = false := decide_eq_false (by omega)
          have HQ2 := Aside0.mk q2
          clear q2
          obtain ⟨wo, hwo⟩ : ∃ wo : World, wo = wr := ⟨_, rfl⟩
          subst hwo
          obtain ⟨go, hgo⟩ : ∃ go : Nat, go = gk := ⟨_, rfl⟩
          subst hgo
          go_wp2
          clear hx0 d2 e1
          go_loopg [7, 9, 28] l.length (fun kq v7 v9 v28 w' => ∃ (k : Nat), v28 = .int .i64 (k : Int) ∧ Aside0 (k + kq = l.length) ∧ Aside0 ((l.take k).all okCmp = true) ∧ Aside0 (kCmp.R 179 w' wo.heap.size (fun _ => True) v7 (l.take k)) ∧ Aside0 (Below wo.heap.size wo w'))
          case atStart => exact ⟨0, rfl, ⟨by omega⟩, ⟨rfl⟩, ⟨Kd.R_nil _ _ _ _ _⟩, ⟨Below.refl _ _⟩⟩
          case round =>
            obtain ⟨k, rfl, HJ2, HOK2, A3, HB3⟩ := hrel
            have M3 := Aside0.mk (M1.out.below HB3.out)
            by_cases c3 : k < l.length
            · have e2 : decide (k < l.length) = true := decide_eq_true c3
              have HE52 : Aside0 (wrap64 ((k : Int) + 1) = ((k + 1 : Nat) : Int)) := ⟨by have := HQ2.out; unfold wrap64; omega⟩
              obtain ⟨ad2, ea2, y0, y1, y2, y3, y4⟩ := at_cmp HCL.out k c3
              cases ea2
              have hx0 := pw_cell_below M3.out.b y0
              have hx1 := pw_cell_below M3.out.b y1
              have hx2 := pw_cell_below M3.out.b y2
              have hx3 := pw_cell_below M3.out.b y3
              have hx4 := pw_cell_below M3.out.b y4
              have HK := Aside0.mk c3
              obtain ⟨cm, hcm⟩ : ∃ cm, l.getD k (0, noVer) = cm := ⟨_, rfl⟩
              rw [hcm] at hx0 hx1 hx2 hx3 hx4
              have HCM := Aside0.mk hcm
              obtain ⟨op, a, b, cc, s⟩ := cm
              dsimp only at hx0 hx1 hx2 hx3 hx4
              clear y0 y1 y2 y3 y4 hcm
              by_cases q3 : s.size ≤ 100
              · have d3 : decide (100 < (s.size : Int)) = false := decide_eq_false (by omega)
                have HOC : Aside0 (okCmp (op, a, b, cc, s) = true) := ⟨decide_eq_true q3⟩
                have hbx := below_alloc (Below.refl wr.heap.size wr) (Obj.cells #[.int .i64 op, .int .i64 a, .int .i64 b, .int .i64 cc, .string s] 177)
                have A4 := Aside0.mk (Kd.R_below A3.out hbx)
                have HB4 := Aside0.mk (HB3.out.trans (hbx.mono HB3.out.size))
                have HV := Aside0.mk (Kd.M_apart (show kCmp.M (wr.alloc (Obj.cells #[.int .i64 op, .int .i64 a, .int .i64 b, .int .i64 cc, .string s] 177)) wo.heap.size (fun _ => True) (op, a, b, cc, s) [.int .i64 op, .int .i64 a, .int .i64 b, .int .i64 cc, .string s] from ⟨[_], [_, _, _, _], rfl, rfl, [_], [_, _, _], rfl, rfl, [_], [_, _], rfl, rfl, [_], [_], rfl, rfl, rfl⟩) A4.out (by decide))
                clear q3 hbx
                go_wp2_with (first
                  | ((with_reducible refine gate_dst (N := 44) rfl ?_); go_must (refine Kd.R_lit kCmp (w0 := wr.alloc (Obj.cells #[.int .i64 op, .int .i64 a, .int .i64 b, .int .i64 cc, .string s] 177)) wo.heap.size 179 ?hg (N := 44) ?hd (xs := [(op, a, b, cc, s)]) (inner := [.int .i64 op, .int .i64 a, .int .i64 b, .int .i64 cc, .string s]) (ok := fun k => True ∧ some k ≠ u7.ownBlock) (okp := fun k => True ∧ some k ≠ u7.ownBlock) ?hr ?hp (fun _ hk => hk) ⟨trivial, Kd.R_fresh A4.out⟩ (Below.refl _ _) HB4.out.size (by simp) ?_; (case hd => rfl); (case hg => rfl); (case hr => first | (go_simp; done) | (go_simp; rfl)); (case hp => exact reps1 HV.out rfl); intro v43 w7 ho hb hg_ hnew_; obtain ⟨A43, c43, rfl, hcl43, hC43⟩ := OwnRow.reads ho.2; have HC43 := Aside0.mk hC43; have A5 := Aside0.mk (Kd.R_grown A4.out hg_ (fun _ _ => by simp)); have HB5 := Aside0.mk (HB4.out.trans hb); clear ho hb hC43 hcl43 hg_ hnew_))
                  | ((with_reducible refine gate_builtin (b := .append) (xs := #[.tmp 38, .tmp 44]) rfl ?_); at_builtin; go_must (refine Kd.R_append_rows kCmp (w0 := w7) wo.heap.size rfl (.tmp 38) (.tmp 44) 175 179 (.agg #[.int .i64 0, .int .i64 0, .int .i64 0, .int .i64 0, .string ⟨#[]⟩]) 48 rfl Try.underlying175 info_mc rfl (by decide) (by decide) u7 (l.take k) [(op, a, b, cc, s)] A43 1 c43 (fun _ => True) _ rfl rfl A5.out HC43.out (fun _ _ h => h) (fun k hk => ⟨trivial, hk.1.2⟩) (fun k hk => trivial) (Below.refl _ _) HB5.out.size (by have := HQ2.out; have := List.length_take_le k l; have := HK.out; simp only [List.length_take]; omega) ?_; intro v44 w8 ho hb hgr hat; have A6 := Aside0.mk ho; have HB6 := Aside0.mk (HB5.out.trans hb); clear ho hb hgr hat)))
                go_roundg (gk - 1)
                case measure => have := HJ2.out; have := HK.out; omega
                case rel => exact ⟨k + 1, (by first | exact congrArg _ HE52.out | rfl), ⟨by have := HJ2.out; have := HK.out; omega⟩, ⟨take_ok HK.out (0, noVer) HOK2.out (by rw [HCM.out]; exact HOC.out)⟩, ⟨by rw [← take_snoc HK.out (0, noVer), HCM.out]; exact A6.out⟩, HB6⟩
              · have d3 : decide (100 < (s.size : Int)) = true := decide_eq_true (by omega)
                have ho : okRng x = false := by
                  have h1 : okCmps (x.getD i []) = false := by
                    rw [HL.out]
                    unfold okCmps
                    rw [take_bad HK.out (0, noVer) (by rw [HCM.out]; exact decide_eq_false q3), Bool.and_false]
                  unfold okRng
                  rw [take_bad HI.out [] h1, Bool.and_false]
                obtain rfl : R = false := HR.out.symm.trans ho
                have hz0 := (blk_cell M3.out.z0) 0
                have hf0 := free_of M3.out.z0 0
                have hc0 := (blk_cell M3.out.c0) 0
                have hbx := below_alloc (Below.refl wr.heap.size wr) (Obj.cells #[.int .i64 op, .int .i64 a, .int .i64 b, .int .i64 cc, .string s] 177)
                have M4 := Aside0.mk (M3.out.below hbx)
                have hz1 := (blk_cell M4.out.z0) 0
                have hf1 := free_of M4.out.z0 0
                have hc1 := (blk_cell M4.out.c0) 0
                clear q3 ho hbx hz0 hf0 hc0
                go_wp2
                refine bodyPost_ret (v := .tuple #[.agg #[.slice A2 i c2], .bool false]) (by simp [results, Try.results54, go_sem, hz1]) rfl ?_
                exact ⟨_, _, _, rfl, (fun h => by cases h), M4.out.b.setCell (p := ⟨w.heap.size + 1, 0, none⟩) (by show _ ≤ w.heap.size + 1; omega) _⟩
            · have e2 : decide (k < l.length) = false := decide_eq_false c3
              obtain ⟨A6, c6, hv6⟩ := Kd.R_slice A3.out
              subst hv6
              have hkl : k = l.length := by have := HJ2.out; omega
              subst hkl
              have A3' := A3.out
              have HOK3 := HOK2.out
              rw [List.take_length] at A3' HOK3 ⊢
              have HOC : Aside0 (okCmps l = true) := ⟨by unfold okCmps; rw [HOK3, Bool.and_true]; exact decide_eq_true HQ2.out⟩
              have O3 := Aside0.mk (Kd.R_below O1.out (show Below wo.heap.size wo wr from HB3.out))
              have HV := Aside0.mk (Kd.M_apart (show kCmpsR.M wr w.heap.size (fun _ => True) l [.slice A6 l.length c6] from ⟨_, rfl, Kd.R_lower A3' M1.out.b.size⟩) O3.out (by decide))
              have hq := (blk_cell M3.out.c0) 0
              clear c3 A3' HOK3
              go_wp2_with (first
                | ((with_reducible refine gate_dst (N := 50) rfl ?_); go_must (refine Kd.R_lit kCmpsR (w0 := wr) w.heap.size 175 ?hg (N := 50) ?hd (xs := [l]) (inner := [.slice A6 l.length c6]) (ok := fun k => True ∧ some k ≠ (Value.slice A2 i c2).ownBlock) (okp := fun k => True ∧ some k ≠ (Value.slice A2 i c2).ownBlock) ?hr ?hp (fun _ hk => hk) ⟨trivial, Kd.R_fresh O3.out⟩ (Below.refl _ _) M3.out.b.size (by simp) ?_; (case hd => rfl); (case hg => rfl); (case hr => first | (go_simp; done) | (go_simp; rfl)); (case hp => exact reps1 HV.out rfl); intro v43 w7 ho hb hg_ hnew_; obtain ⟨A43, c43, rfl, hcl43, hC43⟩ := OwnRow.reads ho.2; have HC43 := Aside0.mk hC43; have O5 := Aside0.mk (Kd.R_grown O3.out hg_ (fun _ _ => by simp)); have M5 := Aside0.mk (M3.out.grow hb hg_ (by simp) (by simp) (by simp)); have hq5 := (blk_cell M5.out.c0) 0; clear ho hb hC43 hcl43 hg_ hnew_))
                | ((with_reducible refine gate_builtin (b := .append) (xs := #[.tmp 48, .tmp 50]) rfl ?_); at_builtin; go_must (refine Kd.R_append_rows kCmpsR (w0 := w7) w.heap.size rfl (.tmp 48) (.tmp 50) 131 175 (.slice none 0 0) 24 rfl Try.underlying131 info_ml rfl (by decide) (by decide) (.slice A2 i c2) (x.take i) [l] A43 1 c43 (fun _ => True) _ rfl rfl O5.out HC43.out (fun _ _ h => h) (fun k hk => ⟨trivial, hk.1.2⟩) (fun k hk => trivial) (Below.refl _ _) M5.out.b.size (by have := HQ.out; simp only [List.length_take]; omega) ?_; intro v44 w8 ho hb hgr hat; rw [← HL.out, take_snoc HI.out []] at ho; obtain ⟨A8, c8, hv8⟩ := Kd.R_slice ho; rw [List.length_take, Nat.min_eq_left (Nat.succ_le_of_lt HI.out)] at hv8; subst hv8; have O6 := Aside0.mk ho; have M6 := Aside0.mk (M5.out.grow hb hgr (Kd.R_ne O5.out M5.out.a0 (by decide)) (Kd.R_ne O5.out M5.out.z0 (by decide)) (Kd.R_ne O5.out M5.out.c0 (by decide))); have hq8 := (blk_cell M6.out.c0) 0; have hf8 := free_of M6.out.c0 0; clear hq5 ho hb hgr hat)))
              go_roundg (go - 1)
              case measure => have := HJ.out; have := HI.out; omega
              case rel => exact ⟨i + 1, A8, c8, (by first | exact congrArg _ HE5.out | rfl), ⟨by have := HJ.out; have := HI.out; omega⟩, ⟨take_ok HI.out [] HOK.out (by rw [HL.out]; exact HOC.out)⟩, ⟨Kd.R_set O6.out M6.out.c0 (by decide) 0 (.slice A8 (i + 1) c8)⟩, ⟨M6.out.set 0 (.slice A8 (i + 1) c8)⟩⟩
        · have d2 : decide (12 < (l.length : Int)) = true := decide_eq_true (by omega)
          have ho : okRng x = false := by
            have h1 : okCmps (x.getD i []) = false := by
              rw [HL.out]
              unfold okCmps
              rw [decide_eq_false q2, Bool.false_and]
            unfold okRng
            rw [take_bad HI.out [] h1, Bool.and_false]
          obtain rfl : R = false := HR.out.symm.trans ho
          have hz0 := (blk_cell M1.out.z0) 0
          have hf0 := free_of M1.out.z0 0
          have hc0 := (blk_cell M1.out.c0) 0
          clear q2 ho
          go_wp2
          refine bodyPost_ret (v := .tuple #[.agg #[.slice A2 i c2], .bool false]) (by simp [results, Try.results54, go_sem, hz0]) rfl ?_
          exact ⟨_, _, _, rfl, (fun h => by cases h), M1.out.b.setCell (p := ⟨w.heap.size + 1, 0, none⟩) (by show _ ≤ w.heap.size + 1; omega) _⟩
      · have e1 : decide (i < x.length) = false := decide_eq_false c1
        have hi : i = x.length := by have := HJ.out; omega
        subst hi
        have ho : okRng x = true := by
          have := HOK.out
          rw [List.take_length] at this
          unfold okRng
          rw [this, Bool.and_true]
          exact decide_eq_true HQ.out
        obtain rfl : R = true := HR.out.symm.trans ho
        have hz0 := (blk_cell M1.out.z0) 0
        have hf0 := free_of M1.out.z0 0
        have hc0 := (blk_cell M1.out.c0) 0
        clear c1 ho
        go_wp2
        refine bodyPost_ret (v := .tuple #[.agg #[.slice A2 x.length c2], .bool true]) (by simp [results, Try.results54, go_sem, hz0]) rfl ?_
        have hfin : kCmpsR.R 175 (wr.setCell ⟨w.heap.size + 1, 0, none⟩ (.slice A2 x.length c2)) w.heap.size (fun _ => True) (.slice A2 x.length c2) x := by have := Kd.R_set O1.out M1.out.z0 (by decide) 0 (.slice A2 x.length c2); rwa [List.take_length] at this
        exact ⟨_, _, _, rfl, (by first | exact hfin | exact fun _ => hfin), M1.out.b.setCell (p := ⟨w.heap.size + 1, 0, none⟩) (by show _ ≤ w.heap.size + 1; omega) _⟩
  · have d : decide (12 < (x.length : Int)) = true := decide_eq_true (by omega)
    have ho : okRng x = false := by unfold okRng; rw [decide_eq_false q, Bool.false_and]
    obtain rfl : R = false := HR.out.symm.trans ho
    have hz0 := (blk_cell M0.out.z0) 0
    have hf0 := free_of M0.out.z0 0
    have hc0 := (blk_cell M0.out.c0) 0
    clear q ho
    go_enter Try.func54, Try.ntmps54
    go_wp2
    refine bodyPost_ret (v := .tuple #[.agg #[.slice none 0 0], .bool false]) (by simp [results, Try.results54, go_sem, hz0]) rfl ?_
    exact ⟨_, _, _, rfl, (fun h => by cases h), M0.out.b⟩
end Go.Proofs.Ythefbeekcjchcaa.P
