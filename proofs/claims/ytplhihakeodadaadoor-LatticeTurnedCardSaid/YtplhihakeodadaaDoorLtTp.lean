/- lattice: a graph with all edges turned round, plainly: its closed sets are what the others leave, its ways are as many. -/
import Derived.Test.YtplhihakeodadaaDoorLtPd
namespace Go.Proofs.YtplhihakeodadaaDoor.Sg
open Go Go.RowKit Go.Proofs Go.Proofs.YtplhihakeodadaaDoor.IMap Go.Proofs.YtplhihakeodadaaDoorW.PrintWords Go.Proofs.YtplhihakeodadaaDoorW.PrintLast Go.Proofs.YtplhihakeodadaaDoorW.PrintMore
set_option linter.unusedVariables false
set_option linter.unusedSimpArgs false
abbrev turnE (E : List Stp) : List Stp := E.map swapS
theorem turn_mem {E : List Stp} {e : Stp} : e ∈ turnE E ↔ (e.2, e.1) ∈ E := by
  constructor
  · intro h
    obtain ⟨x, hx, rfl⟩ := List.mem_map.1 h
    exact hx
  · intro h
    exact List.mem_map.2 ⟨(e.2, e.1), h, rfl⟩
theorem Reach.head {E : List Stp} {a y : Nat} {e : Stp} (he : e ∈ E) (h1 : e.1.toNat = a) (h : Reach E e.2.toNat y) : Reach E a y := by
  generalize hb : e.2.toNat = b at h
  induction h with
  | one e2 h2 h3 => exact Reach.more _ e2 (Reach.one e he h1) h2 (by rw [h3, hb])
  | more x e2 _ h2 h3 ih => exact Reach.more x e2 ih h2 h3
theorem Reach.turn {E : List Stp} {a y : Nat} (h : Reach E a y) : Reach (turnE E) y a := by
  induction h with
  | one e he h1 =>
    have := Reach.one (E := turnE E) (swapS e) (List.mem_map.2 ⟨e, he, rfl⟩) (a := e.2.toNat) rfl
    rw [show (swapS e).2.toNat = a from h1] at this
    exact this
  | more x e _ he h1 ih =>
    refine Reach.head (e := swapS e) (List.mem_map.2 ⟨e, he, rfl⟩) rfl ?_
    rw [show (swapS e).2.toNat = x from h1]
    exact ih
theorem turn_turn (E : List Stp) : turnE (turnE E) = E := by
  unfold turnE
  rw [List.map_map]
  exact List.map_id' E
theorem circ_turn {E : List Stp} {N : Nat} : Circ (turnE E) N ↔ Circ E N := by
  constructor
  · rintro ⟨a, ha, h⟩
    have := h.turn
    rw [turn_turn] at this
    exact ⟨a, ha, this⟩
  · rintro ⟨a, ha, h⟩
    exact ⟨a, ha, h.turn⟩
theorem orderErr_turn {N : Int} {E : List Stp} : orderErr N (turnE E) = orderErr N E := by
  cases hr : rightG N E with
  | false => unfold orderErr; rw [show rightG N (turnE E) = rightG N E from right_swap, hr]; rfl
  | true =>
    obtain ⟨n, rfl⟩ := Int.eq_ofNat_of_zero_le (rightG_in hr).2.1.1
    have hr' : rightG (n : Int) (turnE E) = true := by rw [show rightG (n : Int) (turnE E) = rightG n E from right_swap, hr]
    have h1 := orderErr_iff hr
    have h2 := orderErr_iff hr'
    rw [circ_turn] at h2
    rcases orderErr_val hr with h | h <;> rcases orderErr_val hr' with k | k
    · rw [h, k]
    · exact absurd (h2.2 (h1.1 h)) (by rw [k]; decide)
    · exact absurd (h1.2 (h2.1 k)) (by rw [h]; decide)
    · rw [h, k]
/-! ### What a set leaves -/
def rest (n t : Nat) : Nat := (2 ^ n - 1) ^^^ t
theorem rest_bit (n t i : Nat) : (rest n t).testBit i = (decide (i < n) ^^ t.testBit i) := by unfold rest; rw [Nat.testBit_xor, mask_bit]
theorem bit_big {n t i : Nat} (h : t < 2 ^ n) (hi : ¬ i < n) : t.testBit i = false := by
  cases hb : t.testBit i with
  | false => rfl
  | true => exact absurd (bit_lt h hb) hi
theorem rest_lt {n t : Nat} (h : t < 2 ^ n) : rest n t < 2 ^ n := lt_pow_of_bits fun i hi => by
  rw [rest_bit] at hi
  by_cases c : i < n
  · exact c
  · rw [decide_eq_false c, bit_big h c] at hi; cases hi
theorem rest_rest (n t : Nat) : rest n (rest n t) = t := by unfold rest; rw [← Nat.xor_assoc, Nat.xor_self, Nat.zero_xor]
theorem rest_sub {n t : Nat} (h : t < 2 ^ n) : rest n t = 2 ^ n - 1 - t := by
  refine Nat.eq_of_testBit_eq fun i => ?_
  rw [rest_bit, show 2 ^ n - 1 - t = 2 ^ n - (t + 1) by omega, Nat.testBit_two_pow_sub_succ h]
  by_cases c : i < n
  · rw [decide_eq_true c]; cases t.testBit i <;> rfl
  · rw [decide_eq_false c, bit_big h c]; rfl
theorem rest_andN {n t : Nat} (hn : n ≤ 10) (h : t < 2 ^ n) : andN (2 ^ n - 1) t = rest n t := Nat.eq_of_testBit_eq fun i => by
  rw [andN_bit _ _ _ (bits_lt64 hn), rest_bit, mask_bit]
  by_cases c : i < n
  · rw [decide_eq_true c]; cases t.testBit i <;> rfl
  · rw [decide_eq_false c, bit_big h c]; rfl
theorem cl_turn {E : List Stp} {n t : Nat} (hE : ∀ e ∈ E, e.1.toNat < n ∧ e.2.toNat < n) : Cl Prod.snd Prod.fst (turnE E) (rest n t) ↔ Cl Prod.snd Prod.fst E t := by
  rw [show Cl Prod.snd Prod.fst (turnE E) (rest n t) ↔ Cl Prod.fst Prod.snd E (rest n t) from cl_swap]
  constructor
  · intro h e he hb
    have h1 := h e he
    rw [rest_bit, rest_bit, decide_eq_true (hE e he).1, decide_eq_true (hE e he).2] at h1
    cases hc : t.testBit (Prod.fst e).toNat with
    | true => rfl
    | false => rw [hc, hb] at h1; exact absurd (h1 rfl) (by decide)
  · intro h e he hb
    have h1 := h e he
    rw [rest_bit, decide_eq_true (hE e he).1] at hb
    rw [rest_bit, decide_eq_true (hE e he).2]
    cases hc : t.testBit (Prod.snd e).toNat with
    | false => rfl
    | true => rw [h1 hc] at hb; cases hb
theorem closed_turn {E : List Stp} {n t : Nat} (hE : ∀ e ∈ E, e.1.toNat < n ∧ e.2.toNat < n) : closedE (turnE E) (rest n t) = closedE E t := by
  rw [Bool.eq_iff_iff, cl_iff, cl_iff, cl_turn hE]
/-- The closed sets of the turned graph, in their order. -/
theorem clF_turn {E : List Stp} {n : Nat} (hE : ∀ e ∈ E, e.1.toNat < n ∧ e.2.toNat < n) : clF (turnE E) (2 ^ n) = ((clF E (2 ^ n)).map (rest n)).reverse := by
  have hs1 := clF_sorted (turnE E) (2 ^ n)
  have hs2 : (((clF E (2 ^ n)).map (rest n)).reverse).Pairwise (· < ·) := by
    rw [List.pairwise_reverse, List.pairwise_map]
    refine List.Pairwise.imp_of_mem ?_ (clF_sorted E (2 ^ n))
    intro a b ha hb hab
    have h1 := (clF_mem.1 ha).1
    have h2 := (clF_mem.1 hb).1
    rw [rest_sub h1, rest_sub h2]
    omega
  have hp : (clF (turnE E) (2 ^ n)).Perm (((clF E (2 ^ n)).map (rest n)).reverse) := (List.perm_ext_iff_of_nodup (hs1.imp fun h => Nat.ne_of_lt h) (hs2.imp fun h => Nat.ne_of_lt h)).2 fun x => by
    rw [List.mem_reverse, List.mem_map, clF_mem]
    constructor
    · rintro ⟨h1, h2⟩
      refine ⟨rest n x, clF_mem.2 ⟨rest_lt h1, ?_⟩, rest_rest n x⟩
      rw [← closed_turn hE, rest_rest]
      exact h2
    · rintro ⟨y, hy, rfl⟩
      have h := clF_mem.1 hy
      exact ⟨rest_lt h.1, by rw [closed_turn hE]; exact h.2⟩
  exact List.Perm.eq_of_pairwise (le := (· < ·)) (fun a b _ _ h1 h2 => by omega) hs1 hs2 hp
theorem clF_turn_len {E : List Stp} {n : Nat} (hE : ∀ e ∈ E, e.1.toNat < n ∧ e.2.toNat < n) : (clF (turnE E) (2 ^ n)).length = (clF E (2 ^ n)).length := by rw [clF_turn hE]; simp
theorem clF_turn_get {E : List Stp} {n i L : Nat} (hE : ∀ e ∈ E, e.1.toNat < n ∧ e.2.toNat < n) (hL : (clF E (2 ^ n)).length = L) (hi : i < L) : (clF (turnE E) (2 ^ n)).getD (L - 1 - i) 0 = rest n ((clF E (2 ^ n)).getD i 0) := by
  rw [clF_turn hE, List.getD_eq_getElem?_getD, List.getElem?_reverse (by simp; omega), List.length_map, hL, show L - 1 - (L - 1 - i) = i by omega, List.getElem?_map, List.getD_eq_getElem?_getD, List.getElem?_eq_getElem (by omega)]
  rfl
/-! ### The ways -/
theorem sum_add (f g : Nat → Nat) : ∀ l : List Nat, (l.map fun i => f i + g i).sum = (l.map f).sum + (l.map g).sum
  | [] => rfl
  | x :: l => by simp only [List.map_cons, List.sum_cons, sum_add f g l]; omega
theorem sum_swap (f : Nat → Nat → Nat) (m : List Nat) : ∀ l : List Nat, (l.map fun i => (m.map fun j => f i j).sum).sum = (m.map fun j => (l.map fun i => f i j).sum).sum
  | [] => by simp [sum_const]
  | x :: l => by
    simp only [List.map_cons, List.sum_cons, sum_swap f m l]
    rw [← sum_add]
section
variable (E : List Stp) (N : Nat)
/-- The ways from a set to a set. -/
def wf (s t : Nat) : Nat := (if s = t then 1 else 0) + ((List.range N).map fun i => if h : t.testBit i = true then (if rdy E (t ^^^ 2 ^ i) i = true then wf s (t ^^^ 2 ^ i) else 0) else 0).sum
termination_by t
decreasing_by exact clr_lt h
end
variable {E : List Stp} {N : Nat}
theorem wf_eq (s t : Nat) : wf E N s t = (if s = t then 1 else 0) + ((List.range N).map fun i => if t.testBit i = true ∧ rdy E (t ^^^ 2 ^ i) i = true then wf E N s (t ^^^ 2 ^ i) else 0).sum := by
  rw [wf]
  congr 1
  refine sum_same fun i _ => ?_
  by_cases c : t.testBit i = true
  · simp [c]
  · simp [c]
theorem ways_wf : ∀ t, ways E N t = wf E N 0 t := by
  intro t
  induction t using Nat.strongRecOn with
  | ind t ih =>
    rw [ways_eq, wf_eq]
    congr 1
    · by_cases c : t = 0
      · rw [if_pos c, if_pos c.symm]
      · rw [if_neg c, if_neg (fun e => c e.symm)]
    · refine sum_same fun i _ => ?_
      by_cases c : t.testBit i = true ∧ rdy E (t ^^^ 2 ^ i) i = true
      · rw [if_pos c, if_pos c, ih _ (clr_lt c.1)]
      · rw [if_neg c, if_neg c]
theorem rdy_bit {s i : Nat} (h : rdy E s i = true) : s.testBit i = false := by
  unfold rdy at h
  rw [Bool.and_eq_true] at h
  simpa using h.1
/-- The ways, by their first step. -/
theorem wf_first : ∀ t s, wf E N s t = (if s = t then 1 else 0) + ((List.range N).map fun j => if rdy E s j = true then wf E N (s ||| 2 ^ j) t else 0).sum := by
  intro t
  induction t using Nat.strongRecOn with
  | ind t ih =>
    intro s
    have h1 : ∀ i ∈ List.range N, (if t.testBit i = true ∧ rdy E (t ^^^ 2 ^ i) i = true then wf E N s (t ^^^ 2 ^ i) else 0) =
        (if t.testBit i = true ∧ rdy E (t ^^^ 2 ^ i) i = true ∧ s = t ^^^ 2 ^ i then 1 else 0) + ((List.range N).map fun j => if t.testBit i = true ∧ rdy E (t ^^^ 2 ^ i) i = true ∧ rdy E s j = true then wf E N (s ||| 2 ^ j) (t ^^^ 2 ^ i) else 0).sum := fun i _ => by
      by_cases c : t.testBit i = true ∧ rdy E (t ^^^ 2 ^ i) i = true
      · rw [if_pos c, ih _ (clr_lt c.1)]
        congr 1
        · by_cases d : s = t ^^^ 2 ^ i
          · rw [if_pos d, if_pos ⟨c.1, c.2, d⟩]
          · rw [if_neg d, if_neg (fun h => d h.2.2)]
        · refine sum_same fun j _ => ?_
          by_cases d : rdy E s j = true
          · rw [if_pos d, if_pos ⟨c.1, c.2, d⟩]
          · rw [if_neg d, if_neg (fun h => d h.2.2)]
      · rw [if_neg c, if_neg (fun h => c ⟨h.1, h.2.1⟩), sum_same (g := fun _ => 0) (fun j _ => if_neg (fun h => c ⟨h.1, h.2.1⟩)), sum_const]
        simp
    rw [wf_eq, sum_same h1, sum_add, sum_swap]
    congr 1
    rw [← sum_add]
    refine sum_same fun j hj => ?_
    by_cases d : rdy E s j = true
    · rw [if_pos d, wf_eq (s ||| 2 ^ j) t]
      congr 1
      · have hb := rdy_bit d
        by_cases c : s ||| 2 ^ j = t
        · have e : t ^^^ 2 ^ j = s := by rw [← c, add_clr hb]
          rw [if_pos c, if_pos ⟨by rw [← c]; exact add_bit s j, by rw [e]; exact d, e.symm⟩]
        · rw [if_neg c, if_neg (fun h => c (by rw [h.2.2, clr_add h.1]))]
      · refine sum_same fun i _ => ?_
        by_cases c : t.testBit i = true ∧ rdy E (t ^^^ 2 ^ i) i = true
        · rw [if_pos c, if_pos ⟨c.1, c.2, d⟩]
        · rw [if_neg c, if_neg (fun h => c ⟨h.1, h.2.1⟩)]
    · rw [if_neg d, sum_same (g := fun _ => 0) (fun i _ => if_neg (fun h => d h.2.2)), sum_const]
      rw [if_neg (fun h => d (by rw [h.2.2]; exact h.2.1))]
      simp
theorem rest_add {n t i : Nat} (hi : i < n) (h : t.testBit i = false) : rest n (t ||| 2 ^ i) = rest n t ^^^ 2 ^ i := Nat.eq_of_testBit_eq fun j => by
  rw [clr_bit, rest_bit, rest_bit, Nat.testBit_or, Nat.testBit_two_pow]
  by_cases c : i = j
  · subst c; rw [h]; simp
  · simp [c]
theorem ways_rest (hE : EdgesIn 64 E) (hEN : ∀ e ∈ E, e.1.toNat < N ∧ e.2.toNat < N) : ∀ (u t : Nat), t < 2 ^ N → rest N t = u → Cl Prod.snd Prod.fst E t → ways (turnE E) N u = wf E N t (2 ^ N - 1) := by
  have hE' : EdgesIn 64 (turnE E) := fun e he => by
    have := hE _ (turn_mem.1 he)
    exact ⟨this.2, this.1⟩
  intro u
  induction u using Nat.strongRecOn with
  | ind u ih =>
    intro t ht hu hc
    rw [ways_eq, wf_first]
    congr 1
    · have : u = 0 ↔ t = 2 ^ N - 1 := by
        have := rest_sub ht
        omega
      by_cases c : u = 0
      · rw [if_pos c, if_pos (this.1 c)]
      · rw [if_neg c, if_neg (fun e => c (this.2 e))]
    · refine sum_same fun i hi => ?_
      have hi' := List.mem_range.1 hi
      by_cases d : rdy E t i = true
      · have hb := rdy_bit d
        have hub : u.testBit i = true := by rw [← hu, rest_bit, decide_eq_true hi', hb]; rfl
        have hcl : Cl Prod.snd Prod.fst E (t ||| 2 ^ i) := fun e he h => by
          rw [Nat.testBit_or, Bool.or_eq_true, Nat.testBit_two_pow, decide_eq_true_eq] at h
          rw [Nat.testBit_or, Bool.or_eq_true]
          rcases h with h | h
          · exact .inl (hc e he h)
          · exact .inl (((rdy_iff hE).1 d).2 e he h.symm)
        have hlt : t ||| 2 ^ i < 2 ^ N := Nat.or_lt_two_pow ht (Nat.pow_lt_pow_right (by decide) hi')
        have hr : rest N (t ||| 2 ^ i) = u ^^^ 2 ^ i := by rw [rest_add hi' hb, hu]
        have hrd : rdy (turnE E) (u ^^^ 2 ^ i) i = true := (rdy_iff hE').2 ⟨by rw [clr_bit, hub]; simp, fun e he h => by
          have he2 := turn_mem.1 he
          have hx := hEN _ he2
          dsimp only at hx
          rw [← hr, rest_bit, decide_eq_true hx.2]
          have hn : (t ||| 2 ^ i).testBit e.1.toNat = false := by
            cases hz : (t ||| 2 ^ i).testBit e.1.toNat with
            | false => rfl
            | true =>
              rw [Nat.testBit_or, Bool.or_eq_true, Nat.testBit_two_pow, decide_eq_true_eq] at hz
              rcases hz with hz | hz
              · have h3 := hc _ he2 hz
                dsimp only at h3
                rw [h] at h3
                rw [hb] at h3
                cases h3
              · have h3 := ((rdy_iff hE).1 d).2 _ he2 hz.symm
                dsimp only at h3
                rw [h, hb] at h3
                cases h3
          rw [hn]
          rfl⟩
        rw [if_pos ⟨hub, hrd⟩, if_pos d]
        exact ih _ (clr_lt hub) _ hlt hr hcl
      · rw [if_neg d]
        by_cases c : u.testBit i = true ∧ rdy (turnE E) (u ^^^ 2 ^ i) i = true
        · rw [if_pos c]
          have hb : t.testBit i = false := by
            have := c.1
            rw [← hu, rest_bit, decide_eq_true hi'] at this
            cases hz : t.testBit i with
            | false => rfl
            | true => rw [hz] at this; cases this
          have hr : rest N (t ||| 2 ^ i) = u ^^^ 2 ^ i := by rw [rest_add hi' hb, hu]
          cases hw : ways (turnE E) N (u ^^^ 2 ^ i) with
          | zero => rfl
          | succ k =>
            have h1 := ways_closed hE' _ (show ways (turnE E) N (u ^^^ 2 ^ i) ≠ 0 by rw [hw]; omega)
            rw [← hr, cl_turn hEN] at h1
            refine absurd ((rdy_iff hE).2 ⟨hb, fun e he h => ?_⟩) d
            have h2 := h1 e he (by
              show (t ||| 2 ^ i).testBit e.2.toNat = true
              rw [h]; exact add_bit t i)
            rw [Nat.testBit_or, Bool.or_eq_true, Nat.testBit_two_pow, decide_eq_true_eq] at h2
            rcases h2 with h2 | h2
            · exact h2
            · -- a step to itself: the turned step asks for what it takes away
              have h3 := ((rdy_iff hE').1 c.2).2 (e.2, e.1) (turn_mem.2 he) (by show e.1.toNat = i; exact h2.symm)
              dsimp only at h3
              rw [h, clr_bit, c.1] at h3
              simp at h3
        · rw [if_neg c]
theorem ways_turn (hE : EdgesIn 64 E) (hEN : ∀ e ∈ E, e.1.toNat < N ∧ e.2.toNat < N) : ways (turnE E) N (2 ^ N - 1) = ways E N (2 ^ N - 1) := by
  rw [ways_rest hE hEN (2 ^ N - 1) 0 (Nat.two_pow_pos N) (by unfold rest; exact Nat.xor_zero _) (fun e he h => by rw [Nat.zero_testBit] at h; cases h), ← ways_wf]
end Go.Proofs.YtplhihakeodadaaDoor.Sg
namespace Go.Proofs.YtplhihakeodadaaDoor.Sg
open Go Go.RowKit Go.Proofs Go.Proofs.YtplhihakeodadaaDoor.IMap Go.Proofs.YtplhihakeodadaaDoorW.PrintWords Go.Proofs.YtplhihakeodadaaDoorW.PrintLast Go.Proofs.YtplhihakeodadaaDoorW.PrintMore
set_option linter.unusedVariables false
set_option linter.unusedSimpArgs false
set_option maxHeartbeats 16000000 in
set_option maxRecDepth 1000000 in
theorem LatticeTurned_main (N : Int) (E : List Stp) (A : Option Addr) (c : Nat) (w : World) (hT : TabW w) (h : Kd.C kP w A E.length E) (hN : -9223372036854775808 ≤ N ∧ N < 9223372036854775808) :
    Calls Tryd.prog 11 #[.agg #[.int .i64 N, .slice A E.length c]] w fun e w' => e = .returned (.bool true) ∧ Below w.heap.size w w' := by
  have hb0 := below_alloc (Below.refl w.heap.size w) (.cells #[.int .i64 N, .slice A E.length c] 62)
  have HX := Aside0.mk (heap_last w (.cells #[.int .i64 N, .slice A E.length c] 62))
  have HB := Aside0.mk hb0
  have K0 := Aside0.mk (Anchor_T (w.alloc (.cells #[.int .i64 N, .slice A E.length c] 62)) (hT.below hb0))
  have KP := Aside0.mk (fun W (hb : Below w.heap.size w W) => plain_T N E A c W (Kd.C_below h hb) hN)
  have HN := Aside0.mk hN
  have HC := Aside0.mk h
  have HT := Aside0.mk hT
  have h0 := (blk_cell HX.out) 0
  have h1 := (blk_cell HX.out) 1
  clear hb0 h hT
  obtain ⟨hN1, hN2⟩ := hN
  go_enter Tryd.func11, Tryd.ntmps11
  go_wp2_with (fail)
  refine K0.out.mono ?_
  rintro e w1 ⟨rfl, hb⟩
  have HB1 := Aside0.mk (below_step HB.out hb)
  have HX1 := Aside0.mk (blk_below HX.out hb)
  clear K0 hb h0 h1
  have h0 := (blk_cell HX1.out) 0
  have h1 := (blk_cell HX1.out) 1
  go_wp2_with (fail)
  refine (KP.out w1 HB1.out).mono ?_
  rintro e w2 ⟨rfl, hb⟩
  have HB2' := Aside0.mk (below_step HB1.out hb)
  have HX2' := Aside0.mk (blk_below HX1.out hb)
  clear KP hb h0 h1
  have HB2 := Aside0.mk (below_alloc HB2'.out (.cells #[.int .i64 N, .slice A E.length c] 55))
  have HX2 := Aside0.mk (blk_alloc HX2'.out (.cells #[.int .i64 N, .slice A E.length c] 55))
  clear HB1 HX1 HB HX HB2' HX2'
  by_cases hok : okG N E = true
  · rw [hok]
    have HOK := Aside0.mk hok
    have hl := okG_len hok
    have HLN := Aside0.mk hl
    clear hok hl
    go_upto_region 6 with (fail)
    obtain ⟨w4, hw4⟩ : ∃ W, w2.alloc (.cells #[.int .i64 N, .slice A E.length c] 55) = W := ⟨_, rfl⟩
    have HB4 := HB2
    have HX4 := HX2
    rw [hw4] at HB4 HX4
    rw [hw4]
    clear hw4 HB2 HX2
    have h0 := (blk_cell HX4.out) 0
    have h1 := (blk_cell HX4.out) 1
    have h2 := (blk_cell (blk_alloc HX4.out (.cells #[.int .i64 N, .slice none 0 0] 62))) 1
    go_wp2_with (fail)
    clear h2
    obtain ⟨bt, hbt⟩ : ∃ b, w4.heap.size = b := ⟨_, rfl⟩
    rw [hbt]
    have HBT := Aside0.mk hbt
    have hwb : w.heap.size ≤ bt := by rw [← hbt]; exact below_size HB4.out
    have HWB := Aside0.mk hwb
    clear hbt hwb
    go_loopg [34] E.length (fun kq v34 w' => ∃ (k : Nat) (v : Value), v34 = .int .i64 (k : Int) ∧ Aside0 (k + kq = E.length) ∧ Aside0 (w'.heap[bt]? = some (.cells #[.int .i64 N, v] 62 (0, 0))) ∧ Aside0 (Kd.R kP 74 w' bt (fun b => bt < b) v ((E.take k).map swapS)) ∧ Aside0 (Below bt w4 w'))
    case atStart =>
      refine ⟨0, .slice none 0 0, rfl, ⟨by omega⟩, ⟨?_⟩, ⟨Kd.R_nil _ _ _ _ _⟩, ⟨?_⟩⟩
      · have := heap_last w4 (.cells #[.int .i64 N, .slice none 0 0] 62)
        rw [HBT.out] at this
        exact this
      · have := below_alloc (Below.refl w4.heap.size w4) (.cells #[.int .i64 N, .slice none 0 0] 62)
        rw [HBT.out] at this
        exact this
    case round =>
      clear h0 h1
      obtain ⟨k, v, rfl, HJJ, HG, HR2, HB5⟩ := hrel
      have HBW := Aside0.mk (HB4.out.trans (HB5.out.mono HWB.out))
      obtain ⟨A14, c14, rfl⟩ := Kd.R_slice HR2.out
      by_cases c1 : k < E.length
      · have e1 : decide (k < E.length) = true := decide_eq_true c1
        have HE5 : Aside0 (wrap64 ((k : Int) + 1) = ((k + 1 : Nat) : Int)) := ⟨by have := HLN.out; unfold wrap64; omega⟩
        obtain ⟨ad, ea, hx, hy⟩ := at_stp HC.out k c1
        cases ea
        replace hx := pw_cell_below HBW.out hx
        replace hy := pw_cell_below HBW.out hy
        obtain ⟨e, he⟩ : ∃ e, E.getD k (0, 0) = e := ⟨_, rfl⟩
        have htk : (E.take (k + 1)).map swapS = (E.take k).map swapS ++ [swapS e] := by rw [take_snoc' c1 (0, 0), he, List.map_append]; rfl
        rw [he] at hx hy
        obtain ⟨p, q⟩ := e
        dsimp only at hx hy
        have HI := Aside0.mk c1
        have HTK := Aside0.mk htk
        have hbl : bt ≤ wr.heap.size := by rw [← HBT.out]; exact HB5.out.size
        have hB6 := HB5.out.alloc hbl (.cells #[.int .i64 p, .int .i64 q] 74)
        have hB7 := hB6.alloc (Nat.le_trans hbl (by simp)) (.cells #[.int .i64 q, .int .i64 p] 74)
        have hG6 := blk_alloc HG.out (.cells #[.int .i64 p, .int .i64 q] 74)
        have hG7 := blk_alloc hG6 (.cells #[.int .i64 q, .int .i64 p] 74)
        have hL6 := heap_last wr (.cells #[.int .i64 p, .int .i64 q] 74)
        have hL7 := heap_last (wr.alloc (.cells #[.int .i64 p, .int .i64 q] 74)) (.cells #[.int .i64 q, .int .i64 p] 74)
        rw [World.size_alloc] at hL7
        have HR7 := Aside0.mk (Kd.R_alloc (Kd.R_alloc HR2.out (.cells #[.int .i64 p, .int .i64 q] 74)) (.cells #[.int .i64 q, .int .i64 p] 74))
        have HL7 := Aside0.mk (lit_rp _ _ q p ((blk_cell hL7) 0) ((blk_cell hL7) 1))
        have hl1 := (blk_cell hL6) 0
        have hl2 := (blk_cell hL6) 1
        have hg1 := (blk_cell hG6) 1
        have HB7 := Aside0.mk hB7
        have HG7 := Aside0.mk hG7
        have HF7 : Aside0 (∀ b, ((wr.alloc (.cells #[.int .i64 p, .int .i64 q] 74)).alloc (.cells #[.int .i64 q, .int .i64 p] 74)).heap.size ≤ b → bt < b) := ⟨fun b hb => by have := blk_lt hG6; rw [World.size_alloc] at hb; omega⟩
        have HS7 : Aside0 (bt ≤ ((wr.alloc (.cells #[.int .i64 p, .int .i64 q] 74)).alloc (.cells #[.int .i64 q, .int .i64 p] 74)).heap.size) := ⟨by rw [World.size_alloc, World.size_alloc]; omega⟩
        have HLL : Aside0 ((List.length ((E.take k).map swapS) + 1) * 16 ≤ 140737488355328) := ⟨by have := HLN.out; rw [List.length_map, List.length_take]; omega⟩
        obtain ⟨n14, hn14⟩ : ∃ z, ((E.take k).map swapS).length = z := ⟨_, rfl⟩
        rw [hn14] at HR7 HG7 hg1
        clear he htk hB6 hB7 hG6 hG7 hL6 hL7 hbl hn14
        go_wp2_with (first | ((with_reducible refine gate_builtin (b := .append) (xs := #[.tmp 39, .tmp 45]) rfl ?_); at_builtin; refine Kd.R_append_rows kP (w0 := w4) bt rfl (.tmp 39) (.tmp 45) 24 74 (.agg #[.int .i64 0, .int .i64 0]) 16 rfl Tryd.underlying24 info_pair rfl (by decide) (by decide) (.slice A14 n14 c14) ((E.take k).map swapS) [(q, p)] _ 1 _ (fun b => bt < b) (fun b => bt < b ∧ some b ≠ (Value.slice A14 n14 c14).ownBlock) rfl rfl HR7.out HL7.out (fun p cs hp => M_pair p cs hp) (fun _ hb => hb) HF7.out HB7.out HS7.out HLL.out ?_; intro v1 w8 ho hbl hg hat; refine Halt.out ?_))
        unfold Halt
        obtain ⟨A8, c8, rfl⟩ := Kd.R_slice ho
        obtain ⟨n8, hn8⟩ : ∃ z, ((E.take k).map swapS ++ [(q, p)]).length = z := ⟨_, rfl⟩
        rw [hn8] at ho ⊢
        clear hn8
        have hne : some bt ≠ (Value.slice A14 n14 c14).ownBlock := fun e => by have := HR7.out.1 bt e.symm; omega
        have hG8 := blk_grown HG7.out hg hne
        have HR8 := Aside0.mk (Kd.R_far (p := ⟨bt, 1, none⟩) ho (fun b hb => Nat.ne_of_gt hb) (.slice A8 n8 c8))
        have HG8 := Aside0.mk (box_set (o := 1) hG8 (.slice A8 n8 c8))
        have HB8 := Aside0.mk (hbl.setCell (p := ⟨bt, 1, none⟩) (Nat.le_refl _) (.slice A8 n8 c8))
        have hc8 := (blk_cell hG8) 1
        have hf8 := free_of hG8 1
        clear hl1 hl2 hg1 ho hbl hg hat hne hG8 HR7 HL7 HG7 HB7 HF7 HS7 HLL
        go_wp2
        go_roundg (gk - 1)
        case measure => have := HJJ.out; have := HI.out; omega
        case rel => exact ⟨k + 1, (.slice A8 n8 c8), (by first | exact congrArg _ HE5.out | rfl), ⟨by have := HJJ.out; have := HI.out; omega⟩, HG8, ⟨by rw [HTK.out]; exact HR8.out⟩, HB8⟩
      · have e1 : decide (k < E.length) = false := decide_eq_false c1
        have hit : E.take k = E := List.take_of_length_le (by omega)
        have hr2 := HR2.out
        rw [hit] at hr2
        have hC2 := (Kd.R_reads' hr2).2.2
        rw [hit] at HG
        have hln : (E.map swapS).length = E.length := List.length_map ..
        rw [hln] at hC2 HG
        have HC2 : Aside0 (Kd.C kP wr A14 (turnE E).length (turnE E)) := ⟨by rw [show (turnE E).length = E.length from hln]; exact hC2⟩
        have HLT : Aside0 ((turnE E).length = E.length) := ⟨hln⟩
        have HX5 := Aside0.mk (HX4.out.symm ▸ (HB5.out.block _ (by rw [← HBT.out]; exact blk_lt HX4.out)))
        have h0 := (blk_cell HX5.out) 0
        have h1 := (blk_cell HX5.out) 1
        clear hit hr2 hC2 hln c1 HR2
        by_cases ho : orderErr N E = 0
        · have hr : rightG N E = true := by
            cases hr : rightG N E with
            | true => rfl
            | false => unfold orderErr at ho; rw [hr] at ho; cases ho
          have h0n := (rightG_in hr).2.1
          obtain ⟨n, rfl⟩ := Int.eq_ofNat_of_zero_le h0n.1
          have hr' : rightG (n : Int) (turnE E) = true := by rw [show rightG (n : Int) (turnE E) = rightG n E from right_swap, hr]
          have HR := Aside0.mk hr
          have HR' := Aside0.mk hr'
          have hn10 := okG_ten HOK.out hr
          have HN10 := Aside0.mk hn10
          have HCC := Aside0.mk ((orderErr_iff hr).1 ho)
          have HCC' : Aside0 (¬ Circ (turnE E) n) := ⟨fun h => HCC.out (circ_turn.1 h)⟩
          have HEN := Aside0.mk (right_edges hr)
          have HWT := Aside0.mk (ways_turn (rightG_in hr).1 (right_edges hr))
          obtain ⟨L, hL⟩ : ∃ L, (clF E (2 ^ n)).length = L := ⟨_, rfl⟩
          have hL2 : L ≤ 1024 := by rw [← hL]; exact Nat.le_trans (clF_len E _) (Nat.pow_le_pow_right (n := 2) (by decide) hn10 : 2 ^ n ≤ 2 ^ 10)
          have hLT := clF_turn_len (right_edges hr)
          rw [hL] at hLT
          have KA := Aside0.mk (fun W (hb : Below w.heap.size w W) => AllR_T n E A c W (HT.out.below hb) (Kd.C_below HC.out hb) HN10.out HR.out HCC.out)
          have KA' := Aside0.mk (fun W (hb : Below wr.heap.size wr W) => AllR_T n (turnE E) A14 c14 W (HT.out.below (below_step HBW.out hb)) (Kd.C_below HC2.out hb) HN10.out HR'.out HCC'.out)
          have KW := Aside0.mk (fun W (hb : Below w.heap.size w W) => WaysR_T n E A c W (HT.out.below hb) (Kd.C_below HC.out hb) HN10.out HR.out HCC.out)
          have KW' := Aside0.mk (fun W (hb : Below wr.heap.size wr W) => WaysR_T n (turnE E) A14 c14 W (HT.out.below (below_step HBW.out hb)) (Kd.C_below HC2.out hb) HN10.out HR'.out HCC'.out)
          rw [hL] at KA
          rw [hLT, HLT.out] at KA'
          rw [HWT.out, HLT.out] at KW'
          have HL := Aside0.mk hL
          have HL2 := Aside0.mk hL2
          have HG5 := Aside0.mk HG.out
          clear hr hr' h0n hn10 ho hL hL2 hLT
          go_wp2_with (fail)
          refine (KA.out _ HBW.out).mono ?_
          rintro e w5 ⟨g1, c5, rfl, hli, hb⟩
          have HB6 := Aside0.mk hb
          have HL1 := Aside0.mk hli
          have HX6 := Aside0.mk (blk_below HX5.out hb)
          have HG6 := Aside0.mk (blk_below HG5.out hb)
          clear KA h0 h1 hb hli
          have h0 := (blk_cell HG6.out) 0
          have h1 := (blk_cell HG6.out) 1
          go_wp2_with (fail)
          refine (KA'.out _ HB6.out).mono ?_
          rintro e w6 ⟨g2, c6, rfl, hli, hb⟩
          have HB7 := Aside0.mk (below_step HB6.out hb)
          have HL3 := Aside0.mk hli
          have HL4 := Aside0.mk (Kd.C_below HL1.out hb)
          have HX7 := Aside0.mk (blk_below HX6.out hb)
          have HG7 := Aside0.mk (blk_below HG6.out hb)
          clear KA' h0 h1 hb hli HL1 HX6 HG6 HX5
          have h0 := (blk_cell HX7.out) 0
          have s0 : min n 64 = n := by have := HN10.out; omega
          obtain ⟨m, hm⟩ : ∃ m, 2 ^ n - 1 = m := ⟨_, rfl⟩
          have hM : 2 ^ n = m + 1 := by have := Nat.two_pow_pos n; omega
          have hmb : m < 1024 := by have h2 : 2 ^ n ≤ 1024 := Nat.pow_le_pow_right (n := 2) (by decide) HN10.out; omega
          have s1 : IntKind.u64.wrap ((2 : Int) ^ n) = (m : Int) + 1 := by
            rw [shlU n (by have := HN10.out; omega)]
            have e : ((2 : Int) ^ n) = ((2 ^ n : Nat) : Int) := by simp
            rw [e, hM]
            simp
          have HM := Aside0.mk hm
          have HMM := Aside0.mk hM
          clear hm hM
          go_wp2_with (fail)
          clear h0 s1
          go_loopg [13, 14, 77] L (fun kq v13 v14 v77 w' => ∃ i : Nat, v77 = .int .i64 (i : Int) ∧ i + kq = L ∧ w' = w6)
          case atStart => exact ⟨0, rfl, by omega, rfl⟩
          case round =>
            obtain ⟨i, rfl, hk, rfl⟩ := hrel
            by_cases hil : i < L
            · have d1 : decide (i < L) = true := decide_eq_true hil
              have hl2 := HL2.out
              obtain ⟨j, hj⟩ : ∃ j, L - 1 - i = j := ⟨_, rfl⟩
              have hv := C_cellU HL4.out i hil
              have hu := C_cellU HL3.out j (by omega)
              have hgt := clF_turn_get HEN.out HL.out hil
              rw [hj] at hgt
              obtain ⟨s, hs⟩ : ∃ s, (clF E (2 ^ n)).getD i 0 = s := ⟨_, rfl⟩
              have hsl : s < 2 ^ n := by
                have h1 : (clF E (2 ^ n)).getD i 0 ∈ clF E (2 ^ n) := by
                  rw [List.getD_eq_getElem?_getD, List.getElem?_eq_getElem (by rw [HL.out]; exact hil)]
                  exact List.getElem_mem _
                rw [hs] at h1
                exact (clF_mem.1 h1).1
              have hra := rest_andN HN10.out hsl
              rw [HM.out] at hra
              rw [clL_get, hs] at hv
              rw [clL_get, hgt, hs] at hu
              obtain ⟨r, hr⟩ : ∃ r, rest n s = r := ⟨_, rfl⟩
              rw [hr] at hu hra
              have e5 : bits .andNot .u64 (m : Int) (s : Int) = (r : Int) := by rw [andNU, hra]
              have e6 : wrap64 ((L : Int) - 1) = (L : Int) - 1 := by unfold wrap64; omega
              have e7 : wrap64 ((L : Int) - 1 - (i : Int)) = (j : Int) := by unfold wrap64; omega
              have e8 : (L : Int) - 1 - (i : Int) = (j : Int) := by omega
              have hjl : j < L := by omega
              have HJE := Aside0.mk hj
              have HIL := Aside0.mk hil
              clear hj hgt hs hsl hra hr e6 e7 hil
              go_wp2
              go_roundg (gk - 1)
              case measure => have := HIL.out; omega
              case rel => exact ⟨i + 1, by first | rfl | (congr 1; go_num), by have := HIL.out; omega, rfl⟩
            · have d1 : decide (i < L) = false := decide_eq_false hil
              have h0 := (blk_cell HX7.out) 0
              have h1 := (blk_cell HX7.out) 1
              clear hil
              go_wp2_with (fail)
              refine (KW.out _ (HBW.out.trans (HB7.out.mono (below_size HBW.out)))).mono ?_
              rintro e w8 ⟨rfl, hb⟩
              have HB8 := Aside0.mk (below_step HB7.out hb)
              have HX8 := Aside0.mk (blk_below HX7.out hb)
              have HG8 := Aside0.mk (blk_below HG7.out hb)
              clear KW h0 h1 hb
              have h0 := (blk_cell HG8.out) 0
              have h1 := (blk_cell HG8.out) 1
              go_wp2_with (fail)
              refine (KW'.out _ HB8.out).mono ?_
              rintro e w9 ⟨rfl, hb⟩
              have HB9 := Aside0.mk (below_step HBW.out (below_step HB8.out hb))
              have HX9 := Aside0.mk (blk_below HX8.out hb)
              clear KW' h0 h1 hb
              have h0 := (blk_cell HX9.out) 0
              obtain ⟨W, hW⟩ : ∃ W : Int, ((ways E n (2 ^ n - 1) : Nat) : Int) = W := ⟨_, rfl⟩
              rw [hW]
              have g1 : (W == W) = true := beq_self_eq_true W
              by_cases hn0 : n = 0
              · subst hn0
                go_wp2
                go_ret
                exact ⟨by simp, HB9.out⟩
              · have g2 : ((n : Int) == 0) = false := beq_eq_false_iff_ne.2 (by omega)
                have hbit : m.testBit 0 = true := by rw [← HM.out, mask_bit]; exact decide_eq_true (by omega)
                have KI := Aside0.mk (fun W => In_T m 0 W (by omega) (by decide))
                rw [hbit] at KI
                clear hbit
                go_wp2_with (fail)
                refine (KI.out _).mono ?_
                rintro e w10 ⟨rfl, rfl⟩
                go_wp2
                go_ret
                exact ⟨by simp, HB9.out⟩
        · obtain ⟨z, hz⟩ : ∃ z, orderErr N E = z := ⟨_, rfl⟩
          have KA := Aside0.mk (fun W (hb : Below w.heap.size w W) => AllE_T N E A c W (HT.out.below hb) (Kd.C_below HC.out hb) (by have := HLN.out; omega) HN.out ho)
          have KA' := Aside0.mk (fun W (hb : Below wr.heap.size wr W) => AllE_T N (turnE E) A14 c14 W (HT.out.below (below_step HBW.out hb)) (Kd.C_below HC2.out hb) (by rw [HLT.out]; have := HLN.out; omega) HN.out (by rw [orderErr_turn]; exact ho))
          rw [hz] at KA ho
          rw [orderErr_turn, hz, HLT.out] at KA'
          have e2 : (z != 0) = true := by rw [bne_iff_ne]; exact ho
          have e3 : (z != z) = false := by simp
          have HG5 := Aside0.mk HG.out
          clear hz ho
          go_wp2_with (fail)
          refine (KA.out _ HBW.out).mono ?_
          rintro e w5 ⟨rfl, hb⟩
          have HB6 := Aside0.mk hb
          have HG6 := Aside0.mk (blk_below HG5.out hb)
          clear KA h0 h1 hb
          have h0 := (blk_cell HG6.out) 0
          have h1 := (blk_cell HG6.out) 1
          go_wp2_with (fail)
          refine (KA'.out _ HB6.out).mono ?_
          rintro e w6 ⟨rfl, hb⟩
          have HB7 := Aside0.mk (below_step HBW.out (below_step HB6.out hb))
          clear KA' h0 h1 hb
          go_wp2
          go_ret
          exact ⟨by simp, HB7.out⟩
  · rw [Bool.not_eq_true] at hok
    rw [hok]
    clear hok
    go_wp2
    go_ret
    exact ⟨by simp, HB2.out⟩
theorem LatticeTurned_card (N : Int) (E : List Stp) (A : Option Addr) (c : Nat) (w : World) (hT : TabW w) (h : Kd.C kP w A E.length E) (hN : (Lit.int .i64 N).wf = true) :
    Calls Tryd.prog 11 #[.agg #[.int .i64 N, .slice A E.length c]] w fun e w' => e = .returned (.bool true) ∧ Below w.heap.size w w' :=
  LatticeTurned_main N E A c w hT h (wf_i64 hN)
end Go.Proofs.YtplhihakeodadaaDoor.Sg
