/- lattice: the nodes of a set, as its bits from below. -/
import Derived.Test.YtplhihakeodadaaDoorSgOrdW
import Derived.RangeFuncNested
import Derived.RangeFuncBound
import Derived.RangeFuncCalls
import Derived.RangeFuncLeaves
import Derived.Shelf.Abstract
import Derived.Shelf.RegionOpen
import Derived.WalkKit
import Derived.OwnWalkIn
import Derived.TacticsInMore
import Derived.LoopNIn
import Derived.LoopIn
import Derived.Sort.LoopGhostIn
namespace Go.Proofs.YtplhihakeodadaaDoor.Sg
open Go Go.RowKit Go.Proofs.YtplhihakeodadaaDoorW.PrintWords Go.Proofs.YtplhihakeodadaaDoorW.PrintLast Go.Proofs.YtplhihakeodadaaDoorW.PrintMore
set_option linter.unusedVariables false
set_option linter.unusedSimpArgs false
/-- The walk halts here, and is gone on with outside. -/
def Halt (p : Prop) : Prop := p
theorem Halt.out {p : Prop} (h : Halt p) : p := h
def nodes (x : Nat) : List Nat := (List.range 64).filter fun i => x.testBit i
theorem nodes_mem (x i : Nat) (hx : x < 2 ^ 64) : i ∈ nodes x ↔ x.testBit i = true := by
  unfold nodes
  rw [List.mem_filter, List.mem_range]
  refine ⟨fun h => h.2, fun h => ⟨?_, h⟩⟩
  rcases Nat.lt_or_ge i 64 with c | c
  · exact c
  · have : x < 2 ^ i := Nat.lt_of_lt_of_le hx (Nat.pow_le_pow_right (by decide) c)
    rw [Nat.testBit_lt_two_pow this] at h
    cases h
theorem nodes_zero : nodes 0 = [] := by simp [nodes]
theorem low_split (x : Nat) (h0 : x ≠ 0) (hx : x < 2 ^ 64) : x = 2 ^ (Lib.ctz 64 x + 1) * (x / 2 ^ (Lib.ctz 64 x + 1)) + 2 ^ Lib.ctz 64 x := by
  obtain ⟨h1, _, h3⟩ := ctz_bit x h0 hx
  have hm : x % 2 ^ (Lib.ctz 64 x + 1) = 2 ^ Lib.ctz 64 x := by
    apply Nat.eq_of_testBit_eq
    intro j
    rw [Nat.testBit_mod_two_pow, Nat.testBit_two_pow]
    rcases Nat.lt_trichotomy j (Lib.ctz 64 x) with c | c | c
    · rw [h3 j c]; simp; omega
    · subst c; rw [h1]; simp
    · have : ¬ j < Lib.ctz 64 x + 1 := by omega
      simp [this]; omega
  have := Nat.div_add_mod x (2 ^ (Lib.ctz 64 x + 1))
  rw [hm] at this
  exact this.symm
/-- The set without its least node. -/
theorem and_pred_bit (x : Nat) (h0 : x ≠ 0) (hx : x < 2 ^ 64) (j : Nat) : (x &&& (x - 1)).testBit j = (x.testBit j && decide (j ≠ Lib.ctz 64 x)) := by
  obtain ⟨h1, _, h3⟩ := ctz_bit x h0 hx
  have hs := low_split x h0 hx
  obtain ⟨k, hk⟩ : ∃ k, Lib.ctz 64 x = k := ⟨_, rfl⟩
  obtain ⟨m, hm⟩ : ∃ m, x / 2 ^ (k + 1) = m := ⟨_, rfl⟩
  rw [hk] at hs h1 h3 ⊢
  rw [hm] at hs
  have hp : 0 < 2 ^ k := Nat.two_pow_pos k
  have hlt : 2 ^ k < 2 ^ (k + 1) := Nat.pow_lt_pow_right (by decide) (by omega)
  have hpr : x - 1 = 2 ^ (k + 1) * m + (2 ^ k - 1) := by omega
  rw [Nat.testBit_and]
  rcases Nat.lt_trichotomy j k with c | c | c
  · rw [h3 j c]; simp
  · subst c
    rw [hpr, Nat.testBit_two_pow_mul_add _ (by omega), if_pos (by omega), Nat.testBit_two_pow_sub_one]
    simp
  · have hj : ¬ j < k + 1 := by omega
    rw [hpr, Nat.testBit_two_pow_mul_add _ (by omega), if_neg hj]
    have e2 : x.testBit j = m.testBit (j - (k + 1)) := by
      rw [hs, Nat.testBit_two_pow_mul_add _ hlt, if_neg hj]
    rw [e2]
    have : j ≠ k := by omega
    simp [this]
theorem nodes_step (x : Nat) (h0 : x ≠ 0) (hx : x < 2 ^ 64) : nodes x = Lib.ctz 64 x :: nodes (x &&& (x - 1)) := by
  obtain ⟨h1, h2, h3⟩ := ctz_bit x h0 hx
  have hb := and_pred_bit x h0 hx
  obtain ⟨k, hk⟩ : ∃ k, Lib.ctz 64 x = k := ⟨_, rfl⟩
  rw [hk] at h1 h2 h3 hb ⊢
  have hr : List.range 64 = List.range k ++ (k :: List.range' (k + 1) (63 - k)) := by
    have e1 : k :: List.range' (k + 1) (63 - k) = List.range' k (64 - k) := by
      rw [show 64 - k = (63 - k) + 1 by omega, List.range'_succ]
    rw [e1, List.range_eq_range', List.range_eq_range', show (64 : Nat) = k + (64 - k) by omega, ← List.range'_append]
    simp
  unfold nodes
  rw [hr, List.filter_append, List.filter_append]
  have f1 : (List.range k).filter (fun i => x.testBit i) = [] := by
    rw [List.filter_eq_nil_iff]
    intro i hi
    rw [List.mem_range] at hi
    rw [h3 i hi]; simp
  have f2 : (List.range k).filter (fun i => (x &&& (x - 1)).testBit i) = [] := by
    rw [List.filter_eq_nil_iff]
    intro i hi
    rw [List.mem_range] at hi
    rw [hb, h3 i hi]; simp
  rw [f1, f2, List.nil_append, List.nil_append, List.filter_cons_of_pos h1, List.filter_cons_of_neg (by rw [hb]; simp)]
  congr 1
  refine List.filter_congr fun i hi => ?_
  rw [List.mem_range'_1] at hi
  have : i ≠ k := by omega
  rw [hb]
  simp [this]
theorem andU (a b : Nat) (ha : a < 2 ^ 64) (hb : b < 2 ^ 64) : bits .and .u64 (a : Int) (b : Int) = ((a &&& b : Nat) : Int) := by
  simp only [bits, BitVec.ofInt_natCast]
  have e : (BitVec.ofNat 64 a &&& BitVec.ofNat 64 b).toNat = a &&& b := by
    rw [BitVec.toNat_and, BitVec.toNat_ofNat, BitVec.toNat_ofNat, Nat.mod_eq_of_lt ha, Nat.mod_eq_of_lt hb]
  have h := (BitVec.ofNat 64 a &&& BitVec.ofNat 64 b).isLt
  show IntKind.u64.wrap (((BitVec.ofNat 64 a &&& BitVec.ofNat 64 b).toNat : Nat) : Int) = _
  rw [e] at h ⊢
  simp only [IntKind.wrap, IntKind.bits, IntKind.signed]
  simp
  omega
end Go.Proofs.YtplhihakeodadaaDoor.Sg
namespace Go.Proofs.YtplhihakeodadaaDoor.Sg
open Go Go.RowKit Go.Shelf Go.Proofs.YtplhihakeodadaaDoorW.PrintWords Go.Proofs.YtplhihakeodadaaDoorW.PrintLast Go.Proofs.YtplhihakeodadaaDoorW.PrintMore
set_option linter.unusedVariables false
set_option linter.unusedSimpArgs false
/-- An iterator that yields the numbers xs and keeps its state in block b: whatever the rounds keep, if a store into b keeps it. -/
def SeqBox (P : Program) (n : Nat) (g : Nat) (lb : Array Value) (b : Nat) (G : World → Prop) (xs : List Nat) (w : World) : Prop :=
  ∀ (l : Nat) (J : List Nat → World → Prop) (W : World), W.heap[b]? = w.heap[b]? → (∀ pre W v, J pre W → J pre (W.setCell ⟨b, 0, none⟩ v)) → (∀ pre W, J pre W → G W) →
    (∀ (pre : List Nat) (i : Nat) (rest : List Nat) (W1 : World), pre ++ i :: rest = xs → J pre W1 → YieldAt Fence.wide (n - 1) P l #[.int .i64 (i : Int)] W1 fun e W' => e = .returned (.bool true) ∧ J (pre ++ [i]) W' ∧ W'.heap[b]? = W1.heap[b]?) →
    J [] W → CallsIn Fence.wide n P g (#[.func (.yield l) #[] #[]] ++ lb) W fun e W' => (∃ v, e = .returned v) ∧ J xs W'
/-- How a round's body is left: it goes on. -/
def boxPost {α : Type} (B b : Nat) (I : List α → World → Prop) (xs : List α) (W : World) : Exit → Act → World → Prop
  | .normal, _, W' => KeepsFrom B W W' ∧ W'.heap[b]? = W.heap[b]? ∧ I xs W'
  | _, _, _ => False
/-- 'for x := range seq { .. }' over such an iterator, its body going on each time. -/
theorem wp_rangeBox {P : Program} {g : Operand} {ps : Array Tmp} {assign body : Code} {Q : Exit → Act → World → Prop} {a : Act} {w : World} {n : Nat}
    (h1 : 1 ≤ n) {gf : Nat} {lb : Array Value} (hg : a.eval g = .func (.func gf) #[] lb) (eg : ∀ args w, (callFunc gf args).run P w = .ok (.enter gf args) w)
    {b : Nat} {G : World → Prop} {xs : List Nat} (hseq : SeqBox P (n - 1) gf lb b G xs w) (hbl : b < w.heap.size) (hps : ps.size = 1)
    (I : List Nat → World → Prop) (hI : OwnFrom w.heap.size I) (hIb : ∀ pre W v, I pre W → I pre (W.setCell ⟨b, 0, none⟩ v)) (hIG : ∀ pre W, I pre W → G W) (h0 : I [] w) (a₁ : Nat → Act)
    (hassign : ∀ (l : Nat) (x : Nat) (W : World) (K : Act → World → Prop), K (a₁ x) W →
      assign.wpIn (Fence.wide.inRound l) (n - 1 - 1) P (Exit.then K (fun _ _ _ => False)) { tmps := (ps.zip #[Value.int .i64 (x : Int)]).foldl (fun t (p, v) => t.setIfInBounds p v) a.tmps, defers := [] } W)
    (hbody : ∀ (l : Nat) (pre : List Nat) (x : Nat) (rest : List Nat) (W : World), pre ++ x :: rest = xs → I pre W → body.wpIn (Fence.wide.inRound l) (n - 1 - 1) P (boxPost w.heap.size b I (pre ++ [x]) W) (a₁ x) W)
    (hdone : ∀ (D : Nat) (W : World), w.heap.size ≤ D → I xs W → W.heap[D]? = some (.deferred (some [])) → Q .normal { a with defers := { target := .collected D, args := #[] } :: a.defers } W) :
    (Code.rangeFunc g ps assign body).wpIn Fence.wide n P Q a w := by
  refine wpIn_rangeFunc ?_
  intro fn hfn
  obtain ⟨rec, hrec⟩ : ∃ rec : LoopState → Option Code → Loop, rec = fun st pe => { state := st, pending := pe, fn, tmps := a.tmps, params := ps, assign, body, defers := w.heap.size } := ⟨_, rfl⟩
  obtain ⟨W1, hW1⟩ : ∃ W1, (w.alloc (.deferred (some []))).alloc (.loop (rec .ready none)) = W1 := ⟨_, rfl⟩
  have hL1 : W1.heap[w.heap.size + 1]? = some (.loop (rec .ready none)) := by
    rw [← hW1]; have := World.alloc_heap_new (w.alloc (.deferred (some []))) (.loop (rec .ready none)); rwa [World.size_alloc] at this
  have hK1 : W1.heap[w.heap.size]? = some (.deferred (some [])) := by
    rw [← hW1]; exact (Below.heap_alloc _ _ _ (by simp)).trans (World.alloc_heap_new w _)
  have hI1 : I [] W1 := by rw [← hW1]; exact hI.alloc _ (hI.alloc _ h0)
  have hb1 : W1.heap[b]? = w.heap[b]? := by
    rw [← hW1]; exact (Below.heap_alloc _ _ _ (by simp; omega)).trans (Below.heap_alloc _ _ _ hbl)
  refine ⟨w.heap.size + 1, [{ target := .collected w.heap.size, args := #[] }], W1, { target := .fn (.func gf) lb, args := #[.func (.yield (w.heap.size + 1)) #[] #[]] }, W1, gf,
    #[.func (.yield (w.heap.size + 1)) #[] #[]] ++ lb, W1, ?_, ?_, ?_, ?_, fun _ => h1, ?_⟩
  · rw [← hW1, hrec]; exact run_enterLoop_outer _ _ _ _ _
  · simp only [resolve, hg]
    simp [go_sem]
  · intro f' hf'; trivial
  · simp [invoke, go_sem, eg]
  · refine (hseq (w.heap.size + 1)
      (fun pre W => I pre W ∧ W.heap[w.heap.size + 1]? = some (.loop (rec .ready none)) ∧ W.heap[w.heap.size]? = some (.deferred (some [])))
      W1 hb1
      (fun pre W v h => ⟨hIb _ _ _ h.1, (Below.heap_setCell _ ⟨b, 0, none⟩ _ _ (show w.heap.size + 1 ≠ b by omega)).trans h.2.1, (Below.heap_setCell _ ⟨b, 0, none⟩ _ _ (show w.heap.size ≠ b by omega)).trans h.2.2⟩)
      (fun pre W h => hIG _ _ h.1)
      ?_ ⟨hI1, hL1, hK1⟩).mono ?_
    · -- one round
      rintro pre x rest W hx ⟨hi, hl, hk⟩
      have hlt : w.heap.size + 1 < W.heap.size := (Array.getElem?_eq_some_iff.1 hl).1
      have hy := run_yield (P := P) (args := #[Value.int .i64 (x : Int)]) hl (by rw [hrec]; simp [hps])
      rw [hrec] at hy
      refine ⟨fn, _, assign, body, hy, roundIn_of_wpIn hfn (hassign _ x W _ ⟨_, run_beginRound hl (by rw [hrec]), ?_⟩)⟩
      have hl2 : (W.putObj (w.heap.size + 1) (.loop { rec .ready none with state := .busy })).heap[w.heap.size + 1]? = some (.loop { rec .ready none with state := .busy }) := World.putObj_heap_same hlt
      have hk2 : (W.putObj (w.heap.size + 1) (.loop { rec .ready none with state := .busy })).heap[w.heap.size]? = some (.deferred (some [])) := (World.putObj_heap_other (by omega)).trans hk
      have hb2 : (W.putObj (w.heap.size + 1) (.loop { rec .ready none with state := .busy })).heap[b]? = W.heap[b]? := World.putObj_heap_other (by omega)
      refine wpIn_mono (hbody _ pre x rest _ hx (hI.putObj _ hi (by omega) hl rfl)) ?_
      rintro e a3 W3 hp
      cases e with
      | normal =>
        obtain ⟨hk3, hb3, hi3⟩ := hp
        have hl3 := hk3.same _ _ (by omega) hl2 rfl
        have hr := run_endRound (P := P) none hl3
        rw [hrec] at hr
        refine ⟨_, _, hr, rfl, ⟨hI.putObj _ hi3 (by omega) hl3 rfl, ?_, ?_⟩, ?_⟩
        · rw [hrec]; exact World.putObj_heap_same (Array.getElem?_eq_some_iff.1 hl3).1
        · exact (World.putObj_heap_other (by omega)).trans (hk3.same _ _ (Nat.le_refl _) hk2 rfl)
        · exact (World.putObj_heap_other (by omega)).trans (hb3.trans hb2)
      | ret => exact hp.elim
      | exit id => exact hp.elim
      | goto t => exact hp.elim
      | panic ch => exact hp.elim
      | outgrown => exact hp.elim
    · rintro e W2 ⟨⟨v, rfl⟩, hi, hl, hk⟩
      exact ⟨none, _, by have := run_endLoop (P := P) hl (by rw [hrec]; simp); rw [hrec] at this; exact this, hdone _ _ (Nat.le_refl _) (hI.putObj _ hi (by omega) hl rfl) ((World.putObj_heap_other (by omega)).trans hk)⟩
end Go.Proofs.YtplhihakeodadaaDoor.Sg
namespace Go.Proofs.YtplhihakeodadaaDoor.Sg
open Go Go.RowKit Go.Shelf Go.Proofs.YtplhihakeodadaaDoorW.PrintWords Go.Proofs.YtplhihakeodadaaDoorW.PrintLast Go.Proofs.YtplhihakeodadaaDoorW.PrintMore
set_option linter.unusedVariables false
set_option linter.unusedSimpArgs false
attribute [local go_sem] Oper.semAt_some
theorem predU (y : Nat) (h0 : y ≠ 0) (h : y < 2 ^ 64) : IntKind.u64.wrap ((y : Int) - 1) = ((y - 1 : Nat) : Int) := by
  simp only [IntKind.wrap, IntKind.bits, IntKind.signed]
  simp
  omega
theorem members_T (x : Int) (w : World) : Calls Tryd.prog 60 #[.int .u64 x] w fun e w' => e = .returned (.func (.func 80) #[] #[.pointer (some ⟨w.heap.size, 0, none⟩)]) ∧ w' = w.alloc (.cells #[.int .u64 x] 56) := by
  go_enter Tryd.func60, Tryd.ntmps60
  go_wp2
  go_ret
  exact ⟨rfl, rfl⟩
set_option maxRecDepth 100000 in
set_option maxHeartbeats 4000000 in
theorem members_seq (n : Nat) (hn : 2 ≤ n) (b x : Nat) (hx : x < 2 ^ 64) (w : World) (hb : w.heap[b]? = some (.cells #[.int .u64 (x : Int)] 56 (0, 0))) :
    SeqBox Tryd.prog n 80 #[.pointer (some ⟨b, 0, none⟩)] b TabW (nodes x) w := by
  intro l J W hW hJs hJT hY h0
  have HB := Aside0.mk (hW.trans hb)
  have HJS := Aside0.mk hJs
  have HJT := Aside0.mk hJT
  have HY := Aside0.mk hY
  have H0 := Aside0.mk h0
  have HX := Aside0.mk hx
  clear hJs hJT hY h0 hW hb hx
  refine callsIn_of_wp Tryd.func80 rfl trivial ?_ rfl
  simp only [Tryd.ntmps80, List.size_toArray, List.length_cons, List.length_nil, Nat.reduceAdd, Nat.reduceSub, Array.replicate_succ, Array.replicate_zero, List.push_toArray, List.append_toArray, List.nil_append, List.cons_append]
  gi_wp2
  gi_loopg [] (nodes x).length (fun kq w' => ∃ (pre : List Nat) (y : Nat), Aside0 ((nodes y).length = kq) ∧ Aside0 (pre ++ nodes y = nodes x) ∧ Aside0 (y < 2 ^ 64) ∧ Aside0 (w'.heap[b]? = some (.cells #[.int .u64 (y : Int)] 56 (0, 0))) ∧ Aside0 (J pre w'))
  case atStart => exact ⟨[], x, ⟨rfl⟩, ⟨rfl⟩, HX, HB, H0⟩
  case round =>
    clear HB H0
    obtain ⟨pre, y, HK, HP, HL, HB, HJ⟩ := hrel
    have hc0 := (blk_cell HB.out) 0
    by_cases c1 : y = 0
    · have e1 : ((y : Int) != 0) = false := by rw [c1]; rfl
      gi_wp2
      go_end0
      have hp := HP.out
      rw [c1, nodes_zero, List.append_nil] at hp
      exact ⟨⟨_, rfl⟩, hp ▸ HJ.out⟩
    · have e1 : ((y : Int) != 0) = true := by rw [bne_iff_ne]; omega
      have hst := nodes_step y c1 HL.out
      obtain ⟨_, h64, _⟩ := ctz_bit y c1 HL.out
      have K := Aside0.mk (callsIn_wide.2 (TZ_T y (by have := HL.out; simpa using this) c1 wr (HJT.out _ _ HJ.out)) : CallsIn Fence.wide (n - 1) Tryd.prog 77 #[.int .u64 (y : Int)] wr _)
      have hand := and_pred_bit y c1 HL.out
      have hlt : y &&& (y - 1) < 2 ^ 64 := Nat.and_lt_two_pow _ (by have := HL.out; omega)
      have h1 := predU y c1 HL.out
      have h2 := andU y (y - 1) HL.out (by have := HL.out; omega)
      have hlen : (nodes (y &&& (y - 1))).length < gk := by have := HK.out; rw [hst] at this; simp at this; omega
      obtain ⟨i, hi⟩ : ∃ i, Lib.ctz 64 y = i := ⟨_, rfl⟩
      rw [hi] at hst K
      have hp2 : (pre ++ [i]) ++ nodes (y &&& (y - 1)) = nodes x := by rw [← HP.out, hst]; simp
      obtain ⟨fn, tmps, assign, body, hy, hR⟩ := HY.out pre i (nodes (y &&& (y - 1))) wr (by rw [← HP.out, hst]) HJ.out
      obtain ⟨y', hy'⟩ : ∃ y', y &&& (y - 1) = y' := ⟨_, rfl⟩
      rw [hy'] at hlt h2 hlen hp2
      have HLN := Aside0.mk hlen
      have HP2 := Aside0.mk hp2
      have HLT := Aside0.mk hlt
      have HRR := Aside0.mk hR
      clear hst h64 hand hi hlen hp2 hlt hy' hR c1
      gi_wp2_with (fail)
      refine ⟨trivial, fun h => (by cases h), ?_⟩
      refine K.out.mono ?_
      rintro e w' ⟨rfl, rfl⟩
      gi_wp2_with (fail)
      refine ⟨fun h => (by cases h), ?_⟩
      refine HRR.out.mono ?_
      rintro e W3 ⟨rfl, hj3, hb3⟩
      have HB3 := Aside0.mk (hb3.trans HB.out)
      have HJ3 := Aside0.mk hj3
      have hc3 := (blk_cell HB3.out) 0
      have hf3 := free_of HB3.out 0
      clear hj3 hb3 hc0
      gi_wp2
      gi_roundg (nodes y').length
      case measure => exact HLN.out
      case rel => exact ⟨pre ++ [i], y', ⟨rfl⟩, HP2, HLT, ⟨box_set HB3.out _⟩, ⟨HJS.out _ _ _ HJ3.out⟩⟩
end Go.Proofs.YtplhihakeodadaaDoor.Sg
