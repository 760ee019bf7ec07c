import Derived.Test.YthefbeekcjchcaaWShare
import Derived.Test.YthefbeekcjchcaaWFoot
import Derived.ChangeArms
import Derived.Deep.Slices
import Derived.DataReads
namespace Go.Proofs.Ythefbeekcjchcaa.Read
open Go.RowKit Go.Deep Go.Proofs.YthefbeekcjchcaaW.PrintWords

/-- What is read of a type is a value of a kind, with 'good' known of it. -/
structure Rd (P : Program) (t : TypeId) {α : Type} (d : Kd α) (good : α → Prop) : Prop where
  read : ∀ {H : Type} {enc : TypeId × Value → H} {w : World} {base : Nat} {held : Bool} {fuel : Nat} {cs : List Value} {x : DataW H × List MemPlace},
    DataW.trod enc P w base (fun _ => true) held fuel t cs = some x → ∃ v, d.K w v cs ∧ good v
  size : P.cellsOf t = d.sz
def goodList {α : Type} (good : α → Prop) (l : List α) : Prop := l.length ≤ maxLen ∧ ∀ x ∈ l, good x
theorem Rd.int {P : Program} {t : TypeId} {k : IntKind} (ht : P.underlying t = some (.int k)) (hc : P.cellsOf t = 1) : Rd P t (Kd.int k) (fun x => (Lit.int k x).wf = true) :=
  ⟨fun h => by
    obtain ⟨n, rfl, _, hw⟩ := DataW.trod_int ht h
    exact ⟨n, rfl, hw⟩, hc⟩
theorem Rd.bool {P : Program} {t : TypeId} (ht : P.underlying t = some .bool) (hc : P.cellsOf t = 1) : Rd P t Kd.bool (fun _ => True) :=
  ⟨fun h => by
    obtain ⟨n, rfl, _⟩ := DataW.trod_bool ht h
    exact ⟨n, rfl, trivial⟩, hc⟩
theorem Rd.string {P : Program} {t : TypeId} (ht : P.underlying t = some .string) (hc : P.cellsOf t = 1) : Rd P t Kd.string (fun s => s.size ≤ maxLen) :=
  ⟨fun h => by
    obtain ⟨s, rfl, _, hs⟩ := DataW.trod_string ht h
    exact ⟨s, rfl, hs⟩, hc⟩
theorem choose_list {α : Type} (p : Nat → α → Prop) : ∀ n, (∀ i, i < n → ∃ v, p i v) → ∃ l : List α, l.length = n ∧ ∀ i v, l[i]? = some v → p i v := by
  intro n
  induction n with
  | zero => intro _; exact ⟨[], rfl, fun i v h => by simp at h⟩
  | succ n ih =>
    intro h
    obtain ⟨l, hl, hp⟩ := ih fun i hi => h i (by omega)
    obtain ⟨v, hv⟩ := h n (by omega)
    refine ⟨l ++ [v], by simp [hl], fun i u hu => ?_⟩
    rcases Nat.lt_trichotomy i n with hi | hi | hi
    · rw [List.getElem?_append_left (by omega)] at hu
      exact hp i u hu
    · subst hi
      rw [List.getElem?_append_right (by omega), hl] at hu
      simp at hu
      subst hu
      exact hv
    · rw [List.getElem?_eq_none (by simp; omega)] at hu
      cases hu
theorem Rd.slice {P : Program} {t e : TypeId} {α : Type} {d : Kd α} {good : α → Prop} (r : Rd P e d good) (ht : P.underlying t = some (.slice e)) (hc : P.cellsOf t = 1) : Rd P t (Kd.slice e d) (goodList good) :=
  ⟨fun {H enc w base held fuel cs x} h => by
    rcases open_slice ht h with ⟨rfl, _⟩ | ⟨a, len, cap, m, n, D, Pl, rfl, _, hl, hm, hmm, _, hx⟩
    · exact ⟨[], ⟨none, 0, rfl, Nat.le_refl _, Kd.C_nil d w⟩, Nat.zero_le _, fun x hx => by simp at hx⟩
    · simp only [if_true] at hmm
      subst hmm
      rw [r.size] at hx
      obtain ⟨l, hl2, hp⟩ := choose_list (fun i v => good v ∧ ∃ c, c.length = d.sz ∧ d.K w v c ∧ ∀ j u, c[j]? = some u → w.cell? (a.add (i * d.sz + j)) = some u) len (fun i hi => by
        obtain ⟨cs', h1, h2⟩ := hx i (by omega)
        obtain ⟨_, hlen, hcell⟩ := World.cells?_some h1
        obtain ⟨v, hK, hg⟩ := r.read h2
        refine ⟨v, hg, cs', hlen, hK, fun j u hu => ?_⟩
        have hj : j < d.sz := by rw [← hlen]; exact (List.getElem?_eq_some_iff.1 hu).1
        have := hcell j hj
        rw [hu] at this
        rw [← this]
        congr 1
        rw [Addr.add_add])
      refine ⟨l, ⟨some a, m, by rw [hl2], by omega, hl2 ▸ rfl, ?_, fun _ => ⟨a, rfl, fun j p hj => ?_⟩⟩, by unfold maxLen at hm ⊢; omega, fun x hx => ?_⟩
      · unfold maxLen at hm; omega
      · exact (hp j p hj).2
      · obtain ⟨i, hi⟩ := List.getElem?_of_mem hx
        exact (hp i x hi).1, hc⟩
end Go.Proofs.Ythefbeekcjchcaa.Read
