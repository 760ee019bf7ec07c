/- digraph: ahead, ready, walked. -/
import Derived.Test.YtplhihakeodadaaDoorSgGraph
import Derived.IntWalk
import Derived.Deep.DeepCutAuto
import Derived.Deep.CutBlock
namespace Go.Proofs.YtplhihakeodadaaDoor.Sg
open Go Go.RowKit Go.Proofs.YtplhihakeodadaaDoorW.PrintWords Go.Proofs.YtplhihakeodadaaDoorW.PrintLast Go.Proofs.YtplhihakeodadaaDoorW.PrintMore
set_option linter.unusedVariables false
set_option linter.unusedSimpArgs false
abbrev kU : Kd Int := Kd.int .u64
theorem info_u64 : (Tryd.prog.info? 56).map (fun i => (i.zero, i.size, i.bytes)) = some (some (.int .u64 0), 1, 8) := by kernel_rfl
/-- The nodes with an edge to a node. -/
def preds (E : List Stp) (i : Nat) : Nat := E.foldl (fun a e => if e.2.toNat = i then a ||| 2 ^ e.1.toNat else a) 0
def ahd (E : List Stp) (N : Nat) : List Int := (List.range N).map fun i => ((preds E i : Nat) : Int)
theorem preds_snoc (E : List Stp) (e : Stp) (i : Nat) : preds (E ++ [e]) i = if e.2.toNat = i then preds E i ||| 2 ^ e.1.toNat else preds E i := by
  unfold preds
  rw [List.foldl_append]
  rfl
theorem take_snoc' {α : Type} {l : List α} {i : Nat} (h : i < l.length) (z : α) : l.take (i + 1) = l.take i ++ [l.getD i z] := by
  rw [List.take_add_one, List.getD_eq_getElem?_getD, List.getElem?_eq_getElem h]
  rfl
theorem ahd_len (E : List Stp) (N : Nat) : (ahd E N).length = N := by simp [ahd]
theorem ahd_get (E : List Stp) (N i : Nat) (h : i < N) : (ahd E N).getD i 0 = ((preds E i : Nat) : Int) := by
  rw [List.getD_eq_getElem?_getD, ahd, List.getElem?_map, List.getElem?_range h]
  rfl
theorem ahd_snoc (E : List Stp) (e : Stp) (N y : Nat) (hy : y < N) (h : e.2.toNat = y) : ahd (E ++ [e]) N = (ahd E N).set y ((preds E y ||| 2 ^ e.1.toNat : Nat) : Int) := by
  apply List.ext_getElem
  · simp [ahd]
  · intro i h1 h2
    have hi : i < N := by simpa [ahd] using h1
    rw [List.getElem_set]
    simp only [ahd, List.getElem_map, List.getElem_range]
    rw [preds_snoc, h]
    by_cases q : y = i
    · subst q; simp
    · rw [if_neg q, if_neg q]
theorem or_lt {a b n : Nat} (ha : a < 2 ^ n) (hb : b < 2 ^ n) : a ||| b < 2 ^ n := Nat.or_lt_two_pow ha hb
theorem pow_lt {i n : Nat} (h : i < n) : 2 ^ i < 2 ^ n := Nat.pow_lt_pow_right (by decide) h
theorem preds_lt (E : List Stp) (n i : Nat) (h : ∀ e ∈ E, e.1.toNat < n) : preds E i < 2 ^ n := by
  have : ∀ (E : List Stp) (a : Nat), a < 2 ^ n → (∀ e ∈ E, e.1.toNat < n) → E.foldl (fun a e => if e.2.toNat = i then a ||| 2 ^ e.1.toNat else a) a < 2 ^ n := by
    intro E
    induction E with
    | nil => intro a ha _; exact ha
    | cons e E ih =>
      intro a ha h
      rw [List.foldl_cons]
      refine ih _ ?_ (fun e' he => h e' (List.mem_cons_of_mem _ he))
      split
      · exact or_lt ha (pow_lt (h e List.mem_cons_self))
      · exact ha
  exact this E 0 (Nat.two_pow_pos n) h
theorem orU (a b : Nat) (ha : a < 2 ^ 64) (hb : b < 2 ^ 64) : bits .or .u64 (a : Int) (b : Int) = ((a ||| b : Nat) : Int) :=
  (bits_nat .u64 64 (by decide) (fun n h0 h1 => by simp only [IntKind.wrap, IntKind.bits, IntKind.signed]; simp; omega) a b ha hb).2
theorem pow64 (x : Nat) (h : x < 64) : (2 : Nat) ^ x < 18446744073709551616 := by
  have := pow_lt h
  simpa using this
theorem orPow (a x : Nat) (ha : a < 2 ^ 64) (hx : x < 64) : bits .or .u64 (a : Int) ((2 : Int) ^ x) = ((a ||| 2 ^ x : Nat) : Int) := by
  rw [← orU a (2 ^ x) ha (pow_lt hx)]
  simp
theorem shlU (x : Nat) (h : x < 64) : IntKind.u64.wrap ((2 : Int) ^ x) = (2 : Int) ^ x := by
  have h2 := pow64 x h
  have e : ((2 : Int) ^ x) = ((2 ^ x : Nat) : Int) := by simp
  rw [e]
  generalize 2 ^ x = y at h2 ⊢
  simp only [IntKind.wrap, IntKind.bits, IntKind.signed]
  simp
  omega
theorem rightG_in {N : Int} {E : List Stp} (h : rightG N E = true) : EdgesIn 64 E ∧ (0 ≤ N ∧ N ≤ 64) ∧ E.length ≤ 4096 ∧ ∀ e ∈ E, (0 ≤ e.1 ∧ e.1 < N) ∧ (0 ≤ e.2 ∧ e.2 < N) := by
  unfold rightG at h
  rw [Bool.and_eq_true, decide_eq_true_eq, List.all_eq_true] at h
  obtain ⟨⟨h1, h2, h3⟩, h4⟩ := h
  have h5 : ∀ e ∈ E, (0 ≤ e.1 ∧ e.1 < N) ∧ (0 ≤ e.2 ∧ e.2 < N) := fun e he => by
    have := h4 e he
    unfold okEdge at this
    exact of_decide_eq_true this
  exact ⟨fun e he => by have := h5 e he; omega, ⟨h1, h2⟩, h3, h5⟩
set_option maxHeartbeats 8000000 in
set_option maxRecDepth 20000 in
theorem ahead_T (N : Nat) (E : List Stp) (A : Option Addr) (c : Nat) (w : World) (h : Kd.C kP w A E.length E) (hR : rightG N E = true) :
    Calls Tryd.prog 96 #[.agg #[.int .i64 (N : Int), .slice A E.length c]] w fun e w' => ∃ v, e = .returned v ∧ Kd.R kU 56 w' w.heap.size (fun _ => True) v (ahd E N) ∧ Below w.heap.size w w' := by
  obtain ⟨hE, ⟨hN0, hN1⟩, hl, hEN⟩ := rightG_in hR
  have HC := Aside0.mk h
  have HL := Aside0.mk hl
  have HE := Aside0.mk hE
  have HEN := Aside0.mk hEN
  have HN : Aside0 (N ≤ 64) := ⟨by omega⟩
  have HB0 := Aside0.mk (below_alloc (Below.refl w.heap.size w) (.cells #[.int .i64 (N : Int), .slice A E.length c] 62))
  have HG0 := Aside0.mk (heap_last w (.cells #[.int .i64 (N : Int), .slice A E.length c] 62))
  have hg0 := (blk_cell HG0.out) 0
  have hg1 := (blk_cell HG0.out) 1
  clear h hl hE hEN hR hN0 hN1
  go_enter Tryd.func96, Tryd.ntmps96
  go_wp2_with (first | ((with_reducible refine gate_dst (N := 8) rfl ?_); refine Kd.R_make kU (w0 := w) w.heap.size 56 rfl (N := 8) rfl 60 (.tmp 7) (.tmp 7) rfl (N : Int) rfl rfl Tryd.underlying60 (.int .u64 0) 8 info_u64 rfl (by decide) (by decide) (0 : Int) (ok := fun _ => True) (okp := fun _ => True) rfl (fun _ h => h) trivial (by omega) (by have := HN.out; omega) HB0.out (below_size HB0.out) ?_; intro v1 w1 ho hb hg hat; have HO := Aside0.mk ho; have HB := Aside0.mk hb; have HG := Aside0.mk (blk_grown HG0.out hg (by simp)); have hg1' := (blk_cell HG.out) 1; obtain ⟨A1, c1, rfl⟩ := Kd.R_slice ho; clear ho hb hg hat hg0 hg1 HB0 HG0))
  have HO0 : Aside0 (Kd.R kU 56 w1 w.heap.size (fun _ => True) (.slice A1 N c1) (ahd (E.take 0) N)) := ⟨by
    have := HO.out
    rw [List.length_replicate, Int.toNat_natCast] at this
    rw [List.take_zero, show ahd [] N = List.replicate N 0 by simp [ahd, preds, List.map_const']]
    exact this⟩
  clear HO hg1'
  go_loopg [12] E.length (fun kq v12 w' => ∃ (i : Nat), v12 = .int .i64 (i : Int) ∧ Aside0 (i + kq = E.length) ∧ Aside0 (Kd.R kU 56 w' w.heap.size (fun _ => True) (.slice A1 N c1) (ahd (E.take i) N)) ∧ Aside0 (Below w.heap.size w w'))
  case atStart => exact ⟨0, rfl, ⟨by omega⟩, HO0, HB⟩
  case round =>
    clear HO0 HB HG
    obtain ⟨i, rfl, HJ, HO, HB⟩ := hrel
    by_cases c1' : i < E.length
    · have e1 : decide (i < E.length) = true := decide_eq_true c1'
      have HE5 : Aside0 (wrap64 ((i : Int) + 1) = ((i + 1 : Nat) : Int)) := ⟨by have := HL.out; unfold wrap64; omega⟩
      obtain ⟨ad, ea, hx, hy⟩ := at_stp HC.out i c1'
      cases ea
      replace hx := pw_cell_below HB.out hx
      replace hy := pw_cell_below HB.out hy
      obtain ⟨e, he⟩ : ∃ e, E.getD i (0, 0) = e := ⟨_, rfl⟩
      have hm : e ∈ E := by rw [← he]; exact getD_mem c1' _
      obtain ⟨⟨p1, p2⟩, ⟨p3, p4⟩⟩ := HEN.out e hm
      have hps := preds_lt (E.take i) 64 e.2.toNat (fun e' he' => by have := HE.out e' (List.mem_of_mem_take he'); omega)
      rw [he] at hx hy
      have HEe := Aside0.mk he
      have HI := Aside0.mk c1'
      obtain ⟨x, y⟩ := e
      obtain ⟨x, rfl⟩ := Int.eq_ofNat_of_zero_le p1
      obtain ⟨y, rfl⟩ := Int.eq_ofNat_of_zero_le p3
      dsimp only at p2 p4 hx hy hps
      rw [Int.toNat_natCast] at hps
      obtain ⟨g, rfl⟩ : ∃ g, A1 = some ⟨g, 0, none⟩ := by
        obtain ⟨inner, hz, ho⟩ := Kd.R_own HO.out
        rw [ahd_len] at ho
        rcases ho with ⟨hv, hn⟩ | ⟨g, cap, cur, hv, _⟩
        · omega
        · injection hv with h1
          exact ⟨g, h1⟩
      obtain ⟨W, hW⟩ : ∃ W, wr.alloc (.cells #[.int .i64 (x : Int), .int .i64 (y : Int)] 74) = W := ⟨_, rfl⟩
      have hb1 := below_alloc HB.out (.cells #[.int .i64 (x : Int), .int .i64 (y : Int)] 74)
      have hl1 := heap_last wr (.cells #[.int .i64 (x : Int), .int .i64 (y : Int)] 74)
      have ho1 := Kd.R_alloc HO.out (.cells #[.int .i64 (x : Int), .int .i64 (y : Int)] 74)
      rw [hW] at hb1 hl1 ho1
      have hc := Kd.R_cell (0 : Int) (by rw [ahd_len]; exact ho1) (y : Int) (by omega) (by rw [ahd_len]; omega)
      rw [Int.toNat_natCast, show rdOf 0 (ahd (E.take i) N) (y : Int) = ((preds (E.take i) y : Nat) : Int) from ahd_get _ _ _ (by omega)] at hc
      obtain ⟨hu, huf⟩ := hc
      obtain ⟨p, hp⟩ : ∃ p, preds (E.take i) y = p := ⟨_, rfl⟩
      rw [hp] at hu hps
      have HP := Aside0.mk hp
      have hx1 := (blk_cell hl1) 0
      have hy1 := (blk_cell hl1) 1
      go_wp2_with (fail)
      have hx64 : x < 64 := by have := HN.out; omega
      have s0 : min x 64 = x := by omega
      have s1 := shlU x hx64
      have s2 := orPow p x hps hx64
      have hyN : y < N := by omega
      have hWS := hW
      have HW := Aside0.mk hb1
      have HO1 := Aside0.mk ho1
      clear hW hWS hb1 hl1 ho1 he hm p1 p2 p3 p4 hx hy hp
      go_big_region
      go_wp2_with (fail)
      obtain ⟨r1, r2⟩ := Kd.R_putg HO1.out (y : Int) ((p ||| 2 ^ x : Nat) : Int)
      rw [Int.toNat_natCast] at r1 r2
      have hbb := pw_below_grown HW.out (some g) HW.out.size r2 (fun k hk => by cases hk; exact Kd.R_base HO1.out g rfl)
      go_roundg (gk - 1)
      case measure => have := HJ.out; have := HI.out; omega
      case rel =>
        refine ⟨i + 1, (by first | exact congrArg _ HE5.out | rfl), ⟨by have := HJ.out; have := HI.out; omega⟩, ⟨?_⟩, ⟨below_drew1 hbb⟩⟩
        rw [take_snoc' HI.out (0, 0), HEe.out, ahd_snoc _ _ N y hyN rfl, HP.out]
        exact Kd.R_drew r1
    · have e1 : decide (i < E.length) = false := decide_eq_false c1'
      have HI := Aside0.mk c1'
      go_wp2
      go_ret
      refine ⟨_, rfl, ?_, HB.out⟩
      have := HO.out
      rwa [List.take_of_length_le (by have := HI.out; omega)] at this
end Go.Proofs.YtplhihakeodadaaDoor.Sg
