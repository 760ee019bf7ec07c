/- saga: what SagaOwn needs, plainly: the states of a replay one by one; rows that may be written over. -/
import Derived.Test.YtplhihakeodadaaDoorSgOG
import Derived.Test.YtplhihakeodadaaDoorSgAnc
namespace Go.Proofs.YtplhihakeodadaaDoor.Sg
open Go Go.RowKit Go.Proofs.YtplhihakeodadaaDoorW.PrintWords Go.Proofs.YtplhihakeodadaaDoorW.PrintLast Go.Proofs.YtplhihakeodadaaDoorW.PrintMore
set_option linter.unusedVariables false
set_option linter.unusedSimpArgs false
def runS (s : SS) (l : List RR) : SS := l.foldl (fun s r => (take s r).1) s
theorem replay_run : ∀ (l : List RR) (s S : SS) (N : Nat) (E : Int), replay s l = (S, N, E) → N ≤ l.length ∧ (∀ i, i < N → (take (runS s (l.take i)) (l.getD i rr0)).2 = 0) ∧ runS s (l.take N) = S
  | [], s, S, N, E, h => by
    simp only [replay, Prod.mk.injEq] at h
    obtain ⟨h1, h2, _⟩ := h
    subst h1 h2
    exact ⟨Nat.le_refl _, fun i hi => by omega, rfl⟩
  | r :: l, s, S, N, E, h => by
    unfold replay at h
    by_cases c : (take s r).2 ≠ 0
    · rw [if_pos c] at h
      simp only [Prod.mk.injEq] at h
      obtain ⟨h1, h2, _⟩ := h
      subst h1 h2
      exact ⟨Nat.zero_le _, fun i hi => by omega, rfl⟩
    · rw [if_neg c] at h
      simp only [Prod.mk.injEq] at h
      obtain ⟨h1, h2, _⟩ := h
      obtain ⟨i1, i2, i3⟩ := replay_run l (take s r).1 (replay (take s r).1 l).1 (replay (take s r).1 l).2.1 (replay (take s r).1 l).2.2 rfl
      subst h1 h2
      refine ⟨by simpa using i1, fun i hi => ?_, ?_⟩
      · cases i with
        | zero => simpa [runS] using c
        | succ i => simpa [runS] using i2 i (by omega)
      · simpa [runS] using i3
def stAt (l : List RR) (i : Nat) : SS := runS ss0 (l.take i)
theorem stAt_zero (l : List RR) : stAt l 0 = ss0 := rfl
theorem stAt_succ {l : List RR} {i : Nat} (h : i < l.length) : stAt l (i + 1) = (take (stAt l i) (l.getD i rr0)).1 := by
  unfold stAt runS
  rw [take_snoc' h rr0, List.foldl_append]
  rfl
theorem stAt_bd {l : List RR} (hp : ∀ r ∈ l, okPlan r.pl = true) : ∀ i, i ≤ l.length → Bd i (stAt l i)
  | 0, _ => Bd.zero 0
  | i + 1, h => by
    rw [stAt_succ (by omega)]
    exact Bd.take (stAt_bd hp i (by omega)) (hp _ (getD_mem (by omega) _))
/-- A slice whose cells may be stored into: its block lies between lo and hi. -/
def WOk (w : World) (T : TypeId) (sz : Nat) (lo hi : Nat) (v : Value) (n : Nat) : Prop :=
  ∃ A c, v = .slice A n c ∧ (0 < n → ∃ g cs, A = some ⟨g, 0, none⟩ ∧ w.heap[g]? = some (.cells cs T (0, 0)) ∧ n * sz ≤ cs.size ∧ lo ≤ g ∧ g < hi)
theorem WOk.of_R {α : Type} {K : Kd α} {E base lo : Nat} {ok : Nat → Prop} {w : World} {v : Value} {l : List α} (h : Kd.R K E w base ok v l) (hl : lo ≤ base) : WOk w E K.sz lo w.heap.size v l.length := by
  obtain ⟨A, c, e⟩ := Kd.R_slice h
  refine ⟨A, c, e, fun hn => ?_⟩
  obtain ⟨inner, hown⟩ := Kd.R_own h
  rcases hown.2 with ⟨h1, h2⟩ | ⟨g, cap, cur, h1, h2, h3, h4, _, h5, _⟩
  · omega
  · rw [e] at h1
    cases h1
    exact ⟨g, cur, rfl, h3, by rw [h5]; exact Nat.mul_le_mul_right _ h4, Nat.le_trans hl h2, (Array.getElem?_eq_some_iff.1 h3).1⟩
theorem cells_set {w : World} {b : Nat} {p : Addr} {u : Value} {cs : Array Value} {t : TypeId} (h : w.heap[b]? = some (.cells cs t (0, 0))) : ∃ cs', (w.setCell p u).heap[b]? = some (.cells cs' t (0, 0)) ∧ cs'.size = cs.size := by
  by_cases hb : p.block = b
  · subst hb
    obtain ⟨q, o, m⟩ := p
    cases m with
    | none => exact ⟨_, box_set h u, by simp⟩
    | some m =>
      refine ⟨cs, ?_, rfl⟩
      unfold World.setCell
      simp [Array.getElem?_modify, h]
  · exact ⟨cs, (Below.heap_setCell w p u b (fun e => hb e.symm)).trans h, rfl⟩
theorem WOk.set {w : World} {T sz lo hi n : Nat} {v : Value} (h : WOk w T sz lo hi v n) (p : Addr) (u : Value) : WOk (w.setCell p u) T sz lo hi v n := by
  obtain ⟨A, c, e, hn⟩ := h
  refine ⟨A, c, e, fun h0 => ?_⟩
  obtain ⟨g, cs, h1, h2, h3, h4, h5⟩ := hn h0
  obtain ⟨cs', h6, h7⟩ := cells_set (p := p) (u := u) h2
  exact ⟨g, cs', h1, h6, by rw [h7]; exact h3, h4, h5⟩
theorem WOk.below {w w1 : World} {T sz lo hi n : Nat} {v : Value} (h : WOk w T sz lo hi v n) (hb : Below w.heap.size w w1) : WOk w1 T sz lo hi v n := by
  obtain ⟨A, c, e, hn⟩ := h
  refine ⟨A, c, e, fun h0 => ?_⟩
  obtain ⟨g, cs, h1, h2, h3, h4, h5⟩ := hn h0
  exact ⟨g, cs, h1, blk_below h2 hb, h3, h4, h5⟩
theorem WOk.wide {w : World} {T sz lo lo' hi hi' n : Nat} {v : Value} (h : WOk w T sz lo hi v n) (hl : lo' ≤ lo) (hh : hi ≤ hi') : WOk w T sz lo' hi' v n := by
  obtain ⟨A, c, e, hn⟩ := h
  refine ⟨A, c, e, fun h0 => ?_⟩
  obtain ⟨g, cs, h1, h2, h3, h4, h5⟩ := hn h0
  exact ⟨g, cs, h1, h2, h3, Nat.le_trans hl h4, Nat.lt_of_lt_of_le h5 hh⟩
/-- The cell to be written. -/
theorem WOk.cell {w : World} {T sz lo hi n : Nat} {v : Value} (h : WOk w T sz lo hi v n) (i j : Nat) (hi' : i < n) (hj : j < sz) : ∃ g c u, v = .slice (some ⟨g, 0, none⟩) n c ∧ w.cell? ⟨g, i * sz + j, none⟩ = some u ∧ w.frozen? ⟨g, i * sz + j, none⟩ = false ∧ lo ≤ g ∧ g < hi ∧ ∃ cs, w.heap[g]? = some (.cells cs T (0, 0)) := by
  obtain ⟨A, c, e, hn⟩ := h
  obtain ⟨g, cs, h1, h2, h3, h4, h5⟩ := hn (by omega)
  have hlt : i * sz + j < cs.size := by
    have h6 : (i + 1) * sz ≤ n * sz := Nat.mul_le_mul_right _ (by omega)
    rw [Nat.add_mul] at h6
    omega
  refine ⟨g, c, cs[i * sz + j], by rw [e, h1], ?_, free_of h2 _, h4, h5, cs, h2⟩
  rw [blk_cell h2]
  simp [hlt]
theorem typ_ne {w : World} {g q T T' : Nat} {cs cs' : Array Value} (h : w.heap[g]? = some (.cells cs T (0, 0))) (h' : w.heap[q]? = some (.cells cs' T' (0, 0))) (hT : T' ≠ T) : q ≠ g := fun e => by
  subst e
  rw [h] at h'
  cases h'
  exact hT rfl
theorem StR_keep {w w1 : World} {b : Nat} {V : SV} {s : SS} (h : StR w b V s) (hk : ∀ k, b ≤ k → k < w.heap.size → w1.heap[k]? = w.heap[k]?) : StR w1 b V s := by
  have key : ∀ {α : Type} {K : Kd α} {E : Nat} {v : Value} {l : List α}, Kd.R K E w b (fun _ => True) v l → Kd.R K E w1 b (fun _ => True) v l := fun h => Kd.R_mono (Kd.R_step (Kd.R_bound h) (fun k hk' hlt => hk k hk'.2.1 hlt)) (fun _ _ => trivial)
  exact ⟨⟨key h.1.1, key h.1.2.1, key h.1.2.2.1, key h.1.2.2.2⟩, key h.2.1, key h.2.2⟩
theorem R_setsO {α : Type} {K : Kd α} {E base z T : Nat} {ok : Nat → Prop} {v : Value} {xs : List α} (hT : ∀ q, q ∈ E :: K.E → q ≠ T) : ∀ (l : List (Nat × Value)) (W : World) (cs : Array Value), W.heap[z]? = some (.cells cs T (0, 0)) → Kd.R K E W base ok v xs → Kd.R K E (sets z W l) base ok v xs
  | [], W, cs, hz, h => h
  | p :: l, W, cs, hz, h => R_setsO hT l _ _ (box_set hz p.2) (Kd.R_set h hz hT p.1 p.2)
theorem PlR_sets {z base T : Nat} {V : PV} {p : Pln} (hT : T ≠ 3 ∧ T ≠ 50 ∧ T ≠ 74) (l : List (Nat × Value)) (W : World) (cs : Array Value) (hz : W.heap[z]? = some (.cells cs T (0, 0))) (h : PlR W base V p) : PlR (sets z W l) base V p := by
  have hi : ∀ q, q ∈ 3 :: kI.E → q ≠ T := fun q hq => by
    have : q = 3 := (List.mem_cons.1 hq).elim id (fun h => by cases h)
    rw [this]; exact fun e => hT.1 e.symm
  have hs : ∀ q, q ∈ 50 :: kP.E → q ≠ T := fun q hq => by
    have : q = 50 := (List.mem_cons.1 hq).elim id (fun h => by cases h)
    rw [this]; exact fun e => hT.2.1 e.symm
  have he : ∀ q, q ∈ 74 :: kP.E → q ≠ T := fun q hq => by
    have : q = 74 := (List.mem_cons.1 hq).elim id (fun h => by cases h)
    rw [this]; exact fun e => hT.2.2 e.symm
  exact ⟨R_setsO hi l W cs hz h.1, R_setsO hi l W cs hz h.2.1, R_setsO hs l W cs hz h.2.2.1, R_setsO he l W cs hz h.2.2.2⟩
end Go.Proofs.YtplhihakeodadaaDoor.Sg
