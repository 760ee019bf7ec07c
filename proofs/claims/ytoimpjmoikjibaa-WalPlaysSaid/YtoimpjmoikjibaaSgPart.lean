/- saga: a region that draws its order is its head in whatever order, and behind it its tail in a row. -/
import Derived.StillTail
import Derived.OrdersHeld
import Derived.Deep.RegionHeld3
namespace Go.Proofs.Ytoimpjmoikjibaa.Sg
open Go
set_option linter.unusedVariables false
set_option linter.unusedSimpArgs false
def backB (l : List Oper) (n : Nat) : Bool := (List.range n).all fun i => match l[i]? with
  | some o => o.guard.isNone && o.after.all (fun e => !Region.binds .any e || decide (e.on < i))
  | none => false
def partB (l : List Oper) (n : Nat) : Bool :=
  decide (n < l.length) && Region.sinkB .any l.toArray n && Region.chainB .any l.toArray n && backB l n && Region.seqB .any l.toArray (l.drop n).length n (List.replicate n true ++ List.replicate (l.length - n) false).toArray
def Part (P : Program) (l : List Oper) (n : Nat) (Q : Exit → Act → World → Prop) : Exit → Act → World → Prop
  | .normal, a, w => wpList P l.toArray Q (l.drop n) a w
  | e, a, w => Q e a w
theorem Part.norm {P : Program} {l : List Oper} {n : Nat} {Q : Exit → Act → World → Prop} {a : Act} {w : World} (h : wpList P l.toArray Q (l.drop n) a w) : Part P l n Q .normal a w := h
theorem wpAny_seq_more {P : Program} {ops : Array Oper} {md : Region.Mode} {Q : Exit → Act → World → Prop} (d : Nat) : ∀ (l : List Oper) (k : Nat) (listed : Array Bool) (a : Act) (w : World), (∀ j, l[j]? = ops[k + j]?) →
    Region.seqB md ops l.length k listed = true → wpList P ops Q l a w → wpAny P md ops Q (d + l.length) listed a w
  | [], _, _, _, _, _, hB, h => wpAny_done (by simpa [Region.seqB] using hB) h _
  | o :: l, k, listed, a, w, hl, hB, h => by
    have h0 : ops[k]? = some o := by simpa using (hl 0).symm
    simp only [List.length_cons, Region.seqB, Bool.and_eq_true, decide_eq_true_eq] at hB
    show wpAny P md ops Q ((d + l.length) + 1) listed a w
    refine ⟨fun h1 => (by rw [hB.1] at h1; cases h1), fun i hi => ?_⟩
    rw [hB.1] at hi
    have hik : i = k := by simpa using hi
    subst hik
    have hw : wpOp P ops Q i (wpList P ops Q l) a w := by unfold wpOp; simp only [h0]; exact h
    exact wpOp_mono (fun a' w' h' => wpAny_seq_more d l (i + 1) _ a' w' (fun j => by have := hl (j + 1); simpa [Nat.add_assoc, Nat.add_comm 1 j] using this) hB.2 h') hw
theorem back_at {l : List Oper} {n j : Nat} (h : backB l n = true) (hj : j < n) : ∃ o, l[j]? = some o ∧ o.guard = none ∧ ∀ e ∈ o.after, Region.binds .any e = true → e.on < j := by
  have h1 := List.all_eq_true.1 h j (List.mem_range.2 hj)
  cases ho : l[j]? with
  | none => simp [ho] at h1
  | some o =>
    simp only [ho, Bool.and_eq_true, Option.isNone_iff_eq_none, Array.all_eq_true_iff_forall_mem, Bool.or_eq_true, Bool.not_eq_true', decide_eq_true_eq] at h1
    exact ⟨o, rfl, h1.1, fun e he hb => (h1.2 e he).resolve_left (by simp [hb])⟩
theorem getD_eq' (a : Array Bool) (i : Nat) (d : Bool) : a.getD i d = (a[i]?).getD d := by simp
theorem part_op {P : Program} {l : List Oper} {n i : Nat} {Q : Exit → Act → World → Prop} {K : Act → World → Prop} {a : Act} {w : World} (hb : backB l n = true) (hi : i < n)
    (h : wpOp P (l.take n).toArray (Part P l n Q) i K a w) : wpOp P l.toArray Q i K a w := by
  obtain ⟨o, ho, hg, _⟩ := back_at hb hi
  have ht : (l.take n)[i]? = some o := by rw [List.getElem?_take_of_lt hi, ho]
  unfold wpOp at *
  simp only [List.getElem?_toArray, ht, ho, Region.wanted, hg, if_true] at h ⊢
  rcases h with h | ⟨h1, h2⟩
  · refine .inl ?_
    unfold Oper.wp at *
    generalize (execOp a.eval o).run P w = r at *
    cases r with
    | ok nx w' =>
      cases nx <;> simp only [Oper.upon] at h ⊢
      case value => exact h
      case skip => exact h
      case defer => exact h
      case enter f args => exact Calls.mono h fun e w'' he => by cases e <;> exact he
      case row => exact h
    | halt x w' => cases x <;> simp only [Oper.upon] at h ⊢ <;> exact h
  · exact .inr ⟨h1, h2⟩
theorem part_any {P : Program} {l : List Oper} {n : Nat} {Q : Exit → Act → World → Prop} (hB : partB l n = true) : ∀ (f : Nat) (listed listedT : Array Bool) (a : Act) (w : World), HeadInv .any l.toArray n listed → listedT.size = n → (∀ j, j < n → listed[j]? = listedT[j]?) →
    wpAny P .any (l.take n).toArray (Part P l n Q) f listedT a w → wpAny P .any l.toArray Q (f + (l.drop n).length) listed a w := by
  simp only [partB, Bool.and_eq_true, decide_eq_true_eq] at hB
  obtain ⟨⟨⟨⟨hn, hs⟩, hc⟩, hb⟩, hq⟩ := hB
  have hn' : n < l.toArray.size := by simpa using hn
  have htk : (l.take n).length = n := by rw [List.length_take]; omega
  -- ready in the head
  have hrd : ∀ (listed listedT : Array Bool), (∀ j, j < n → listed[j]? = listedT[j]?) → ∀ j, j < n → (j ∈ Region.ready .any l.toArray listed ↔ j ∈ Region.ready .any (l.take n).toArray listedT) := by
    intro listed listedT he j hj
    obtain ⟨o, ho, hg, hbk⟩ := back_at hb hj
    have ht : (l.take n)[j]? = some o := by rw [List.getElem?_take_of_lt hj, ho]
    rw [mem_ready, mem_ready]
    simp only [List.getElem?_toArray, ht, ho, getD_eq', he j hj]
    constructor
    · rintro ⟨h0, o', ho', h⟩
      obtain rfl := Option.some.inj ho'
      exact ⟨h0, o, rfl, fun e hem hbe => by rw [← he e.on (Nat.lt_trans (hbk e hem hbe) hj)]; exact h e hem hbe⟩
    · rintro ⟨h0, o', ho', h⟩
      obtain rfl := Option.some.inj ho'
      exact ⟨h0, o, rfl, fun e hem hbe => by rw [he e.on (Nat.lt_trans (hbk e hem hbe) hj)]; exact h e hem hbe⟩
  have hltT : ∀ (listedT : Array Bool) j, j ∈ Region.ready .any (l.take n).toArray listedT → j < n := by
    intro listedT j h
    obtain ⟨_, o, ho, _⟩ := mem_ready.1 h
    have := (Array.getElem?_eq_some_iff.1 ho).1
    simpa [htk] using this
  -- the end of the head
  have hend : ∀ (d : Nat) (listed listedT : Array Bool) (a : Act) (w : World), HeadInv .any l.toArray n listed → listedT.size = n → (∀ j, j < n → listed[j]? = listedT[j]?) → Region.ready .any (l.take n).toArray listedT = [] → wpList P l.toArray Q (l.drop n) a w → wpAny P .any l.toArray Q (d + (l.drop n).length) listed a w := by
    intro d listed listedT a w inv hT he h0 h
    have hall : ∀ j, j < n → listedT[j]? = some true := by
      intro j
      induction j using Nat.strongRecOn with
      | _ j ih =>
        intro hj
        have hj' : j < listedT.size := by omega
        cases hv : listedT[j] with
        | true => rw [Array.getElem?_eq_getElem hj', hv]
        | false =>
          obtain ⟨o, ho, hg, hbk⟩ := back_at hb hj
          have ht : (l.take n)[j]? = some o := by rw [List.getElem?_take_of_lt hj, ho]
          have : j ∈ Region.ready .any (l.take n).toArray listedT := mem_ready.2 ⟨by rw [getD_eq', Array.getElem?_eq_getElem hj', hv]; rfl, o, by rw [List.getElem?_toArray]; exact ht, fun e hem hbe => by
            have hlt := hbk e hem hbe
            rw [getD_eq', ih e.on hlt (Nat.lt_trans hlt hj)]; rfl⟩
          rw [h0] at this
          cases this
    have hsz : listed.size = l.length := by simpa using inv.size
    have hls : listed = (List.replicate n true ++ List.replicate (l.length - n) false).toArray := by
      refine Array.ext_getElem? fun j => ?_
      have hR : (List.replicate n true ++ List.replicate (l.length - n) false).toArray[j]? = (List.replicate n true ++ List.replicate (l.length - n) false)[j]? := by simp
      rw [hR]
      by_cases hj : j < n
      · rw [he j hj, hall j hj, List.getElem?_append_left (by simpa using hj), List.getElem?_replicate_of_lt hj]
      · by_cases hj2 : j < l.length
        · have h1 := inv.tail j (by omega) (by simpa using hj2)
          rw [getD_eq', Array.getElem?_eq_getElem (by omega)] at h1
          rw [Array.getElem?_eq_getElem (by omega), List.getElem?_append_right (by simp; omega), List.getElem?_replicate_of_lt (by simp; omega)]
          simpa using h1
        · rw [Array.getElem?_eq_none (by omega), List.getElem?_eq_none (by simp; omega)]
    rw [← hls] at hq
    exact wpAny_seq_more d (l.drop n) n listed a w (fun j => by simp [List.getElem?_drop]) hq h
  intro f
  induction f with
  | zero => intro listed listedT a w inv hT he h; exact hend 0 listed listedT a w inv hT he h.1 h.2
  | succ f ih =>
    intro listed listedT a w inv hT he h
    by_cases h0 : Region.ready .any (l.take n).toArray listedT = []
    · exact hend (f + 1) listed listedT a w inv hT he h0 (h.1 h0)
    · obtain ⟨i, hi⟩ := List.exists_mem_of_ne_nil _ h0
      have hin := hltT listedT i hi
      have hif := (hrd listed listedT he i hin).2 hi
      have hun := (mem_ready.1 hif).1
      rw [show f + 1 + (l.drop n).length = (f + (l.drop n).length) + 1 by omega]
      refine ⟨fun h1 => (by rw [h1] at hif; cases hif), fun j hj => ?_⟩
      have hjn : j < n := by
        rcases Nat.lt_or_ge j n with h | h
        · exact h
        · exact absurd hj (tail_waits hs hc hn' inv _ i rfl hin hun j h)
      refine part_op hb hjn (wpOp_mono (fun a' w' h' => ih _ _ a' w' (inv.set hj hjn) (by simpa using hT) (fun k hk => ?_) h') (h.2 j ((hrd listed listedT he j hjn).1 hj)))
      have hsz : listed.size = l.length := by simpa using inv.size
      by_cases hjk : j = k
      · subst hjk
        rw [Array.getElem?_setIfInBounds_self_of_lt (by omega), Array.getElem?_setIfInBounds_self_of_lt (by omega)]
      · rw [Array.getElem?_setIfInBounds_ne hjk, Array.getElem?_setIfInBounds_ne hjk, he k hk]
/-- The head of a region in whatever order under S, and behind it the tail in a row. -/
theorem wp_region_part {P : Program} {id : Nat} {l : List Oper} {Q : Exit → Act → World → Prop} {a : Act} {w : World} (S : World → Prop) (n : Nat) (hm : P.follows .mixedOrders = true) (hB : partB l n = true) (hS : S w.drew)
    (h : S w.drew → wpAnyH P .any (l.take n).toArray (Part P l n Q) S n (Array.replicate n false) a w.drew) : (Code.region id l.toArray true).wp P Q a w := by
  have hB' := hB
  simp only [partB, Bool.and_eq_true, decide_eq_true_eq] at hB'
  have hn : n < l.length := hB'.1.1.1.1
  refine wp_region_any hm ?_
  have inv0 : HeadInv .any l.toArray n (Array.replicate l.toArray.size false) :=
    ⟨by simp, fun j oj _ hl => (by rw [getD_replicate_false] at hl; cases hl), fun t _ ht => getD_in (by simpa using ht) (getD_replicate_false _ _)⟩
  have := part_any (P := P) (Q := Q) hB n (Array.replicate l.toArray.size false) (Array.replicate n false) a _ inv0 (by simp) (fun j hj => by
    have hj2 : j < l.length := by omega
    simp [hj, hj2]) (wpAny_of_held _ _ _ _ (h hS))
  rw [show n + (l.drop n).length = l.toArray.size by simp; omega] at this
  exact this
end Go.Proofs.Ytoimpjmoikjibaa.Sg
