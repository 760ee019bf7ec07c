/- saga: a region in whatever order, by an invariant over what has been done; rows of several chains, told apart by a label of each block. -/
import Derived.Test.YtplhihakeodadaaDoorSgLike
import Derived.Test.YtplhihakeodadaaDoorSgPart
namespace Go.Proofs.YtplhihakeodadaaDoor.Sg
open Go Go.RowKit Go.Proofs.YtplhihakeodadaaDoorW.PrintWords Go.Proofs.YtplhihakeodadaaDoorW.PrintLast Go.Proofs.YtplhihakeodadaaDoorW.PrintMore
set_option linter.unusedVariables false
set_option linter.unusedSimpArgs false
theorem ready_lt {md : Region.Mode} {ops : Array Oper} {listed : Array Bool} {i : Nat} (h : i ∈ Region.ready md ops listed) (hs : listed.size = ops.size) : ∃ hi : i < listed.size, listed[i] = false := by
  obtain ⟨h1, o, ho, _⟩ := mem_ready.1 h
  have hi : i < listed.size := by rw [hs]; exact (Array.getElem?_eq_some_iff.1 ho).1
  refine ⟨hi, ?_⟩
  simpa [hi] using h1
/-- The operations of a region one by one, in whatever order: what holds of each set of them that may have been done. -/
theorem wpAnyH_og {P : Program} {md : Region.Mode} {ops : Array Oper} {Q : Exit → Act → World → Prop} {S : World → Prop} (I : Array Bool → Act → World → Prop)
    (hS : ∀ listed a w, I listed a w → S w) (hsz : ∀ listed a w, I listed a w → listed.size = ops.size)
    (step : ∀ listed a w i, I listed a w → i ∈ Region.ready md ops listed → wpOp P ops Q i (fun a' w' => I (listed.setIfInBounds i true) a' w') a w)
    (done : ∀ listed a w, I listed a w → Region.ready md ops listed = [] → Q .normal a w) :
    ∀ (fuel : Nat) (listed : Array Bool) (a : Act) (w : World), listed.toList.count false ≤ fuel → I listed a w → wpAnyH P md ops Q S fuel listed a w := by
  intro fuel
  induction fuel with
  | zero =>
    intro listed a w hc hi
    have h0 : Region.ready md ops listed = [] := by
      apply List.eq_nil_iff_forall_not_mem.2
      intro i hr
      obtain ⟨hl, hf⟩ := ready_lt hr (hsz _ _ _ hi)
      have hm : false ∈ listed.toList := by rw [← hf]; simp
      have := List.count_pos_iff.2 hm
      omega
    exact ⟨h0, done _ _ _ hi h0⟩
  | succ fuel ih =>
    intro listed a w hc hi
    refine ⟨fun h0 => done _ _ _ hi h0, fun i hr => ?_⟩
    obtain ⟨hl, hf⟩ := ready_lt hr (hsz _ _ _ hi)
    refine wpOp_mono (fun a' w' h' => ⟨hS _ _ _ h', ih _ _ _ ?_ h'⟩) (step _ _ _ _ hi hr)
    rw [Array.toList_setIfInBounds, List.count_set (by simpa using hl)]
    have hm : false ∈ listed.toList := by rw [← hf]; simp
    have := List.count_pos_iff.2 hm
    have e1 : (listed.toList[i]'(by simpa using hl) == false) = true := by simp [hf]
    rw [if_pos e1]
    simp only [Bool.true_eq_false, beq_iff_eq, if_false]
    omega
theorem wpOp_of_step {P : Program} {ops : Array Oper} {Q : Exit → Act → World → Prop} {i : Nat} {K : Act → World → Prop} {a : Act} {w : World} {o : Oper} (ho : ops[i]? = some o)
    (h : if Region.wanted o (yielded ops a.tmps) = true then Oper.wp P o a w K Q else K (a.put o.dst undef) w) : wpOp P ops Q i K a w := by
  unfold wpOp
  rw [ho]
  dsimp only
  split
  · rename_i hw
    rw [if_pos hw] at h
    exact .inl h
  · rename_i hw
    rw [if_neg hw] at h
    exact h
/-- A row of one chain stands while another chain's rows turn. -/
theorem R_lab {α : Type} {K : Kd α} {E base c : Nat} {lab lab' : Nat → Nat} {w w1 : World} {v : Value} {l : List α} {row : Option Nat} (h : Kd.R K E w base (fun k => lab k = c) v l) (hg : w.grownBy w1 row) (hrow : ∀ r, row = some r → lab r ≠ c) (hlab : ∀ k, k < w.heap.size → lab' k = lab k) : Kd.R K E w1 base (fun k => lab' k = c) v l := by
  refine Kd.R_mono (Kd.R_step (Kd.R_bound h) (fun k hk hlt => hg.block k hlt (fun e => hrow k e.symm hk.1))) (fun k hk => ?_)
  rw [hlab k hk.2.2.1]
  exact hk.1
def labN (lab : Nat → Nat) (n c : Nat) : Nat → Nat := fun k => if k < n then lab k else c
theorem labN_lt {lab : Nat → Nat} {n c k : Nat} (h : k < n) : labN lab n c k = lab k := if_pos h
theorem labN_ge {lab : Nat → Nat} {n c k : Nat} (h : n ≤ k) : labN lab n c k = c := if_neg (by omega)
theorem R_labN {α : Type} {K : Kd α} {E base c : Nat} {lab : Nat → Nat} {w : World} {v : Value} {l : List α} (h : Kd.R K E w base (fun k => lab k = c) v l) (c' : Nat) : Kd.R K E w base (fun k => labN lab w.heap.size c' k = c) v l :=
  Kd.R_mono (Kd.R_bound h) (fun k hk => by show labN lab w.heap.size c' k = c; rw [labN_lt hk.2.2.1]; exact hk.1)
/-- One chain: the empty row (slot value vb) once b is done, the full one (vs) once s is. -/
structure Ch {α : Type} (K : Kd α) (E : TypeId) (base : Nat) (w : World) (lab : Nat → Nat) (c : Nat) (b s : Bool) (vb vs : Value) (l : List α) : Prop where
  e : b = true → s = false → Kd.R K E w base (fun k => lab k = c) vb []
  f : s = true → Kd.R K E w base (fun k => lab k = c) vs l
theorem Ch.move {α : Type} {K : Kd α} {E base c : Nat} {lab lab' : Nat → Nat} {w w1 : World} {b s : Bool} {vb vs : Value} {l : List α} {row : Option Nat} (h : Ch K E base w lab c b s vb vs l) (hg : w.grownBy w1 row) (hrow : ∀ r, row = some r → lab r ≠ c) (hlab : ∀ k, k < w.heap.size → lab' k = lab k) : Ch K E base w1 lab' c b s vb vs l :=
  ⟨fun h1 h2 => R_lab (h.e h1 h2) hg hrow hlab, fun h1 => R_lab (h.f h1) hg hrow hlab⟩
theorem getD_set_ne {α : Type} {a : Array α} {i j : Nat} {x d : α} (h : i ≠ j) : (a.setIfInBounds i x).getD j d = a.getD j d := by
  rw [getD_eq, getD_eq, Array.getElem?_setIfInBounds_ne h]
where getD_eq {α : Type} (a : Array α) (i : Nat) (d : α) : a.getD i d = (a[i]?).getD d := by simp
theorem getD_set_eq {α : Type} {a : Array α} {i : Nat} {x d : α} (h : i < a.size) : (a.setIfInBounds i x).getD i d = x := by
  simp [h]
theorem eval_put_ne {a : Act} {i j : Nat} {x : Value} (h : i ≠ j) : (a.put (some i) x).eval (.tmp j) = a.eval (.tmp j) := getD_set_ne h
theorem eval_put_eq {a : Act} {i : Nat} {x : Value} (h : i < a.tmps.size) : (a.put (some i) x).eval (.tmp i) = x := getD_set_eq h
theorem act_eq : ∀ (L : List Nat) (A0 a : Act), a.defers = A0.defers → a.tmps.size = A0.tmps.size → (∀ k, k ∉ L → a.tmps[k]? = A0.tmps[k]?) → a = L.foldl (fun x k => x.put (some k) (a.eval (.tmp k))) A0
  | [], A0, a, hd, hs, hk => by
    obtain ⟨t, d⟩ := a
    obtain ⟨t0, d0⟩ := A0
    dsimp only at hd hs hk
    subst hd
    have : t = t0 := Array.ext_getElem? (fun k => hk k (by simp))
    subst this
    rfl
  | k :: L, A0, a, hd, hs, hk => by
    rw [List.foldl_cons]
    refine act_eq L _ a hd (by simp [Act.put, hs]) (fun j hj => ?_)
    by_cases c : k = j
    · subst c
      show _ = (A0.tmps.setIfInBounds k (a.tmps.getD k undef))[k]?
      by_cases h : k < a.tmps.size
      · rw [Array.getElem?_setIfInBounds_self_of_lt (by omega), Array.getElem?_eq_getElem h]
        simp [h]
      · rw [Array.getElem?_eq_none (by omega), Array.getElem?_eq_none (by simp; omega)]
    · show _ = (A0.tmps.setIfInBounds k (a.tmps.getD k undef))[j]?
      rw [Array.getElem?_setIfInBounds_ne c]
      refine hk j (fun hm => ?_)
      rcases List.mem_cons.1 hm with e | e
      · exact c e.symm
      · exact hj e
theorem put_frame {A0 a : Act} {L : List Nat} {d : Nat} {v : Value} (hd : d ∈ L) (hk : ∀ k, k ∉ L → a.tmps[k]? = A0.tmps[k]?) : ∀ k, k ∉ L → (a.put (some d) v).tmps[k]? = A0.tmps[k]? := fun k hkn => by
  have c : d ≠ k := fun e => hkn (e ▸ hd)
  show (a.tmps.setIfInBounds d v)[k]? = _
  rw [Array.getElem?_setIfInBounds_ne c]
  exact hk k hkn
theorem put_size {a : Act} {d : Nat} {v : Value} : (a.put (some d) v).tmps.size = a.tmps.size := by simp [Act.put]
theorem eval_frame {A0 a : Act} {L : List Nat} (hk : ∀ k, k ∉ L → a.tmps[k]? = A0.tmps[k]?) (k : Nat) (h : k ∉ L) : a.eval (.tmp k) = A0.eval (.tmp k) := by
  have := hk k h
  simp only [Act.eval]
  rw [getD_set_ne.getD_eq, getD_set_ne.getD_eq, this]
theorem getD_tf {a : Array Bool} {i : Nat} (h : a.getD i true = false) : a.getD i false = false := by
  rw [getD_set_ne.getD_eq] at h ⊢
  cases hv : a[i]? with
  | none => rfl
  | some b => rw [hv] at h; exact h
theorem getD_all {a : Array Bool} {i : Nat} (h : a.getD i true = true) (hi : i < a.size) : a.getD i false = true := by
  rw [getD_set_ne.getD_eq] at h ⊢
  rw [Array.getElem?_eq_getElem hi] at h ⊢
  exact h
/-- Where none is ready any more, all are done. -/
theorem ready_all {md : Region.Mode} {l : List Oper} {n : Nat} {listed : Array Bool} (hm : md = .any) (hB : backB l n = true) (hn : listed.size = n) (h0 : Region.ready md l.toArray listed = []) : ∀ j, j < n → listed.getD j false = true := by
  subst hm
  intro j
  induction j using Nat.strongRecOn with
  | _ j ih =>
    intro hj
    obtain ⟨o, ho, _, hbk⟩ := back_at hB hj
    cases hh : listed.getD j true with
    | true => exact getD_all hh (by omega)
    | false =>
      have : j ∈ Region.ready .any l.toArray listed := mem_ready.2 ⟨hh, o, by simpa using ho, fun e he hb => ih e.on (hbk e he hb) (by have := hbk e he hb; omega)⟩
      rw [h0] at this
      cases this
theorem box_rec {w : World} {b t : Nat} {a0 a1 a2 a3 a4 a5 : Value} (h : w.heap[b]? = some (.cells #[a0, a1, a2, a3, a4, a5] t (0, 0))) (v2 v3 v4 v5 : Value) : (sets b w [(2, v2), (3, v3), (4, v4), (5, v5)]).heap[b]? = some (.cells #[a0, a1, v2, v3, v4, v5] t (0, 0)) := by
  have h1 := box_set (o := 2) h v2
  have h2 := box_set (o := 3) h1 v3
  have h3 := box_set (o := 4) h2 v4
  exact box_set (o := 5) h3 v5
end Go.Proofs.YtplhihakeodadaaDoor.Sg
