/- lattice: a frame's deferred calls that are marks of ranges over functions; what stays where one map's block turns. -/
import Derived.Test.YtplhihakeodadaaDoorLtCntM
namespace Go.Proofs.YtplhihakeodadaaDoor.Sg
open Go Go.RowKit Go.MapKept Go.ChangeMaps Go.Proofs.YtplhihakeodadaaDoor.IMap Go.Proofs.YtplhihakeodadaaDoorW.PrintWords Go.Proofs.YtplhihakeodadaaDoorW.PrintLast Go.Proofs.YtplhihakeodadaaDoorW.PrintMore
set_option linter.unusedVariables false
set_option linter.unusedSimpArgs false
/-- Marks: blocks from B on and below T, each of no calls. -/
def Mk (B T : Nat) (l : List Deferred) (w : World) : Prop := (∀ d ∈ l, ∃ r, d = { target := .collected r, args := #[] } ∧ B ≤ r ∧ r < T ∧ w.heap[r]? = some (.deferred (some []))) ∧ l.Nodup
theorem Mk.nil {B T : Nat} {w : World} : Mk B T [] w := ⟨fun d hd => (by cases hd), List.nodup_nil⟩
theorem Mk.bound {B T : Nat} {l : List Deferred} {w : World} (h : Mk B T l w) : Mk B w.heap.size l w := ⟨fun d hd => by
  obtain ⟨r, h1, h2, h3, h4⟩ := h.1 d hd
  exact ⟨r, h1, h2, (Array.getElem?_eq_some_iff.1 h4).1, h4⟩, h.2⟩
theorem Mk.mono {B T T' : Nat} {l : List Deferred} {w : World} (h : Mk B T l w) (hT : T ≤ T') : Mk B T' l w := ⟨fun d hd => by
  obtain ⟨r, h1, h2, h3, h4⟩ := h.1 d hd
  exact ⟨r, h1, h2, Nat.lt_of_lt_of_le h3 hT, h4⟩, h.2⟩
theorem Mk.move {B T : Nat} {l : List Deferred} {w w1 : World} (h : Mk B T l w) (hm : ∀ r, r < T → w.heap[r]? = some (.deferred (some [])) → w1.heap[r]? = some (.deferred (some []))) : Mk B T l w1 := ⟨fun d hd => by
  obtain ⟨r, h1, h2, h3, h4⟩ := h.1 d hd
  exact ⟨r, h1, h2, h3, hm r h3 h4⟩, h.2⟩
theorem Mk.below {B T : Nat} {l : List Deferred} {w w1 : World} (h : Mk B T l w) (hb : Below w.heap.size w w1) : Mk B T l w1 := h.move fun r _ hr => (hb.block r (Array.getElem?_eq_some_iff.1 hr).1).trans hr
theorem Mk.cons {B T D : Nat} {l : List Deferred} {w : World} (h : Mk B T l w) (hT : T ≤ D) (hB : B ≤ D) (hD : w.heap[D]? = some (.deferred (some []))) : Mk B (D + 1) ({ target := .collected D, args := #[] } :: l) w := by
  refine ⟨fun d hd => ?_, List.nodup_cons.2 ⟨fun hm => ?_, h.2⟩⟩
  · rcases List.mem_cons.1 hd with rfl | hd
    · exact ⟨D, rfl, hB, Nat.lt_succ_self _, hD⟩
    · exact (h.mono (Nat.le_trans hT (Nat.le_succ _))).1 d hd
  · obtain ⟨r, h1, h2, h3, h4⟩ := h.1 _ hm
    have : D = r := by injection h1 with e1; injection e1
    omega
/-- At the return the marks are passed one by one; each shuts its block. -/
theorem leaves_marks {F : Fence} {n : Nat} {P : Program} {fn : Func} {tmps : Array Value} {R : Ending → World → Prop} {v : Value} (B : Nat) (G : World → Prop)
    (hG : ∀ r W o, B ≤ r → W.heap[r]? = some (.deferred o) → G W → G (W.putObj r (.deferred none)))
    (hv : ∀ W, G W → (results fn tmps).run P W = .ok v W) (hR : ∀ W, G W → R (.returned v) W) : ∀ (l : List Deferred) (T : Nat) (w : World), Mk B T l w → G w → LeavesInM F n P fn tmps R l .returning w
  | [], T, w, _, g => ⟨v, hv w g, hR w g⟩
  | d :: l, T, w, hm, g => by
    obtain ⟨r, rfl, hBr, hTr, hr⟩ := hm.1 d List.mem_cons_self
    refine ⟨by simp, .inl ⟨r, _, rfl, run_takeDeferred hr, leaves_marks B G hG hv hR l T _ ⟨fun d' hd' => ?_, (List.nodup_cons.1 hm.2).2⟩ (hG r w _ hBr hr g)⟩⟩
    obtain ⟨r', rfl, h1, h2, h3⟩ := hm.1 d' (List.mem_cons_of_mem _ hd')
    have hne : r' ≠ r := by rintro rfl; exact (List.nodup_cons.1 hm.2).1 hd'
    exact ⟨r', rfl, h1, h2, (World.putObj_heap_other hne).trans h3⟩
/-- Below n nothing has turned but m's block. -/
def Kp (m n : Nat) (w w' : World) : Prop := w.heap.size ≤ w'.heap.size ∧ ∀ k, k < n → k ≠ m → w'.heap[k]? = w.heap[k]?
theorem Kp.refl {m n : Nat} {w : World} : Kp m n w w := ⟨Nat.le_refl _, fun _ _ _ => rfl⟩
theorem Kp.trans {m n : Nat} {w w1 w2 : World} (h : Kp m n w w1) (k : Kp m n w1 w2) : Kp m n w w2 := ⟨Nat.le_trans h.1 k.1, fun i hi hm => (k.2 i hi hm).trans (h.2 i hi hm)⟩
theorem Kp.below {m n : Nat} {w w1 w2 : World} (h : Kp m n w w1) (hb : Below w1.heap.size w1 w2) (hn : n ≤ w1.heap.size) : Kp m n w w2 := h.trans ⟨hb.size, fun i hi _ => hb.block i (Nat.lt_of_lt_of_le hi hn)⟩
theorem Kp.set {m n : Nat} {w w1 : World} (h : Kp m n w w1) (o : Obj) : Kp m n w (setBlock w1 m o) := h.trans ⟨by rw [IMap.size_set]; exact Nat.le_refl _, fun i _ hm => IMap.heap_set_other o hm _⟩
theorem Kp.setCell {m n : Nat} {w w1 : World} (h : Kp m n w w1) {p : Addr} (hp : n ≤ p.block) (u : Value) : Kp m n w (w1.setCell p u) := h.trans ⟨by simp [World.setCell], fun i hi _ => Below.heap_setCell _ _ _ _ (by omega)⟩
theorem Kp.grown {m n : Nat} {w w1 w2 : World} {row : Option Nat} (h : Kp m n w w1) (hg : w1.grownBy w2 row) (hn : n ≤ w1.heap.size) (hr : ∀ k, row = some k → n ≤ k) : Kp m n w w2 := h.trans ⟨hg.size, fun i hi _ => hg.block i (by omega) (fun e => by have := hr i e.symm; omega)⟩
theorem Kp.mono {m n n' : Nat} {w w1 : World} (h : Kp m n w w1) (hn : n' ≤ n) : Kp m n' w w1 := ⟨h.1, fun i hi hm => h.2 i (by omega) hm⟩
theorem Kp.cells {m n : Nat} {q : IntKind} {L : List (Int × Value)} {w w1 : World} (h : Kp m n w w1) (hm : IM q w m L) {g : Nat} {cs : Array Value} {t : TypeId} {f : Nat × Nat} (hg : w.heap[g]? = some (.cells cs t f)) (hn : g < n) : w1.heap[g]? = some (.cells cs t f) :=
  (h.2 g hn (fun e => hm.ne hg e.symm)).trans hg
theorem Kp.R {α : Type} {K : Kd α} {E base m n : Nat} {q : IntKind} {L : List (Int × Value)} {ok : Nat → Prop} {w w1 : World} {v : Value} {l : List α} (h : Kp m n w w1) (hm : IM q w m L) (hR : Kd.R K E w base ok v l) (hn : ∀ k, ok k → k < w.heap.size → k < n) : Kd.R K E w1 base ok v l := by
  refine Kd.R_mono (Kd.R_step (Kd.R_bound hR) (fun k hk hlt => ?_)) (fun k hk => hk.1)
  obtain ⟨h1, h2, h3, q', _, cs, hc⟩ := hk
  rw [h.cells hm hc (hn k h1 hlt), hc]
theorem R_setB {α : Type} {K : Kd α} {E base m : Nat} {q : IntKind} {L : List (Int × Value)} {ok : Nat → Prop} {w : World} {v : Value} {l : List α} (hm : IM q w m L) (hR : Kd.R K E w base ok v l) (o : Obj) : Kd.R K E (setBlock w m o) base ok v l := by
  refine Kd.R_mono (Kd.R_step (Kd.R_bound hR) (fun k hk hlt => ?_)) (fun k hk => hk.1)
  obtain ⟨h1, h2, h3, q', _, cs, hc⟩ := hk
  exact IMap.heap_set_other o (fun e => hm.ne hc e.symm) w
theorem R_noncells {α : Type} {K : Kd α} {E base : Nat} {ok : Nat → Prop} {w w1 : World} {v : Value} {l : List α} {row : Option Nat} (hR : Kd.R K E w base ok v l) (hg : w.grownBy w1 row) (hr : ∀ r, row = some r → ∃ o : Obj, w.heap[r]? = some o ∧ o.isCells = false) : Kd.R K E w1 base ok v l := by
  refine Kd.R_mono (Kd.R_step (Kd.R_bound hR) (fun k hk hlt => ?_)) (fun k hk => hk.1)
  obtain ⟨h1, h2, h3, q', _, cs, hc⟩ := hk
  refine hg.block k hlt (fun e => ?_)
  obtain ⟨o, ho, hn⟩ := hr k e.symm
  rw [hc] at ho
  cases ho
  cases hn
end Go.Proofs.YtplhihakeodadaaDoor.Sg
