import Derived.Test.YtoimpjmoikjibaaWShare
import Derived.Test.YtoimpjmoikjibaaWFoot
import Derived.ChangeArms
import Derived.Deep.Slices
import Derived.DataReads
import Derived.OpenShut
import Derived.Test.YtoimpjmoikjibaaWArr
namespace Go.Proofs.Ytoimpjmoikjibaa.Read
open Go.RowKit Go.Deep Go.Proofs.YtoimpjmoikjibaaW.PrintWords

/-- What is read of a type is a value of a kind, with 'good' known of it. -/
structure Rd (P : Program) (t : TypeId) {α : Type} (d : Kd α) (good : α → Prop) : Prop where
  read : ∀ {H : Type} {enc : TypeId × Value → H} {w : World} {base : Nat} {held : Bool} {fuel : Nat} {cs : List Value} {x : DataW H × List MemPlace},
    DataW.trod enc P w base (fun _ => true) held fuel t cs = some x → ∃ v, d.K w v cs ∧ good v
  size : P.cellsOf t = d.sz
def goodList {α : Type} (good : α → Prop) (l : List α) : Prop := l.length ≤ maxLen ∧ ∀ x ∈ l, good x
theorem Rd.int {P : Program} {t : TypeId} {k : IntKind} (ht : P.underlying t = some (.int k)) (hc : P.cellsOf t = 1) : Rd P t (Kd.int k) (fun x => (Lit.int k x).wf = true) :=
  ⟨fun h => by
    obtain ⟨n, rfl, _, hw⟩ := DataW.trod_int ht h
    exact ⟨n, rfl, hw⟩, hc⟩
theorem Rd.bool {P : Program} {t : TypeId} (ht : P.underlying t = some .bool) (hc : P.cellsOf t = 1) : Rd P t Kd.bool (fun _ => True) :=
  ⟨fun h => by
    obtain ⟨n, rfl, _⟩ := DataW.trod_bool ht h
    exact ⟨n, rfl, trivial⟩, hc⟩
theorem Rd.string {P : Program} {t : TypeId} (ht : P.underlying t = some .string) (hc : P.cellsOf t = 1) : Rd P t Kd.string (fun s => s.size ≤ maxLen) :=
  ⟨fun h => by
    obtain ⟨s, rfl, _, hs⟩ := DataW.trod_string ht h
    exact ⟨s, rfl, hs⟩, hc⟩
theorem choose_list {α : Type} (p : Nat → α → Prop) : ∀ n, (∀ i, i < n → ∃ v, p i v) → ∃ l : List α, l.length = n ∧ ∀ i v, l[i]? = some v → p i v := by
  intro n
  induction n with
  | zero => intro _; exact ⟨[], rfl, fun i v h => by simp at h⟩
  | succ n ih =>
    intro h
    obtain ⟨l, hl, hp⟩ := ih fun i hi => h i (by omega)
    obtain ⟨v, hv⟩ := h n (by omega)
    refine ⟨l ++ [v], by simp [hl], fun i u hu => ?_⟩
    rcases Nat.lt_trichotomy i n with hi | hi | hi
    · rw [List.getElem?_append_left (by omega)] at hu
      exact hp i u hu
    · subst hi
      rw [List.getElem?_append_right (by omega), hl] at hu
      simp at hu
      subst hu
      exact hv
    · rw [List.getElem?_eq_none (by simp; omega)] at hu
      cases hu
theorem Rd.slice {P : Program} {t e : TypeId} {α : Type} {d : Kd α} {good : α → Prop} (r : Rd P e d good) (ht : P.underlying t = some (.slice e)) (hc : P.cellsOf t = 1) : Rd P t (Kd.slice e d) (goodList good) :=
  ⟨fun {H enc w base held fuel cs x} h => by
    rcases open_slice ht h with ⟨rfl, _⟩ | ⟨a, len, cap, m, n, D, Pl, rfl, _, hl, hm, hmm, _, hx⟩
    · exact ⟨[], ⟨none, 0, rfl, Nat.le_refl _, Kd.C_nil d w⟩, Nat.zero_le _, fun x hx => by simp at hx⟩
    · simp only [if_true] at hmm
      subst hmm
      rw [r.size] at hx
      obtain ⟨l, hl2, hp⟩ := choose_list (fun i v => good v ∧ ∃ c, c.length = d.sz ∧ d.K w v c ∧ ∀ j u, c[j]? = some u → w.cell? (a.add (i * d.sz + j)) = some u) len (fun i hi => by
        obtain ⟨cs', h1, h2⟩ := hx i (by omega)
        obtain ⟨_, hlen, hcell⟩ := World.cells?_some h1
        obtain ⟨v, hK, hg⟩ := r.read h2
        refine ⟨v, hg, cs', hlen, hK, fun j u hu => ?_⟩
        have hj : j < d.sz := by rw [← hlen]; exact (List.getElem?_eq_some_iff.1 hu).1
        have := hcell j hj
        rw [hu] at this
        rw [← this]
        congr 1
        rw [Addr.add_add])
      refine ⟨l, ⟨some a, m, by rw [hl2], by omega, hl2 ▸ rfl, ?_, fun _ => ⟨a, rfl, fun j p hj => ?_⟩⟩, by unfold maxLen at hm ⊢; omega, fun x hx => ?_⟩
      · unfold maxLen at hm; omega
      · exact (hp j p hj).2
      · obtain ⟨i, hi⟩ := List.getElem?_of_mem hx
        exact (hp i x hi).1, hc⟩
theorem split2 {cs : List Value} {a b : Nat} (h : cs.length = a + b) : cs = (cs.drop 0).take a ++ (cs.drop a).take b := by
  rw [List.drop_zero, List.take_of_length_le (l := cs.drop a) (by rw [List.length_drop]; omega), List.take_append_drop]
/-- A struct of two fields. -/
theorem Rd.two {P : Program} {t : TypeId} {f0 f1 : Field} {α β : Type} {d0 : Kd α} {d1 : Kd β} {g0 : α → Prop} {g1 : β → Prop} (r0 : Rd P f0.type d0 g0) (r1 : Rd P f1.type d1 g1) (ht : P.underlying t = some (.struct #[f0, f1])) (h0 : f0.offset = 0) (h1 : f1.offset = d0.sz) (hc : P.cellsOf t = d0.sz + d1.sz) :
    Rd P t (Kd.pair d0 d1) (fun x => g0 x.1 ∧ g1 x.2) :=
  ⟨fun {H enc w base held fuel cs x} h => by
    obtain ⟨xs, n, _, _, hl, hlen, hf⟩ := DataW.trod_struct ht h
    have hlen2 : xs.length = 2 := hlen
    match xs, hlen2 with
    | [y0, y1], _ =>
      have e0 := hf 0 f0 rfl
      have e1 := hf 1 f1 rfl
      rw [h0, r0.size] at e0
      rw [h1, r1.size] at e1
      obtain ⟨a, ka, ga⟩ := r0.read e0
      obtain ⟨b, kb, gb⟩ := r1.read e1
      exact ⟨(a, b), ⟨_, _, split2 (by rw [hl, hc]), ka, kb⟩, ga, gb⟩, hc⟩
theorem split_at_ {cs : List Value} {o a : Nat} : cs.drop o = (cs.drop o).take a ++ cs.drop (o + a) := by
  rw [← List.drop_drop, List.take_append_drop]
theorem take_all {cs : List Value} {o a : Nat} (h : cs.length = o + a) : (cs.drop o).take a = cs.drop o := List.take_of_length_le (by rw [List.length_drop]; omega)
/-- A struct of four fields. -/
theorem Rd.four {P : Program} {t : TypeId} {f0 f1 f2 f3 : Field} {α β γ δ : Type} {d0 : Kd α} {d1 : Kd β} {d2 : Kd γ} {d3 : Kd δ} {g0 : α → Prop} {g1 : β → Prop} {g2 : γ → Prop} {g3 : δ → Prop} (r0 : Rd P f0.type d0 g0) (r1 : Rd P f1.type d1 g1) (r2 : Rd P f2.type d2 g2) (r3 : Rd P f3.type d3 g3)
    (ht : P.underlying t = some (.struct #[f0, f1, f2, f3])) (h0 : f0.offset = 0) (h1 : f1.offset = d0.sz) (h2 : f2.offset = d0.sz + d1.sz) (h3 : f3.offset = d0.sz + d1.sz + d2.sz) (hc : P.cellsOf t = d0.sz + (d1.sz + (d2.sz + d3.sz))) :
    Rd P t (Kd.pair d0 (Kd.pair d1 (Kd.pair d2 d3))) (fun x => g0 x.1 ∧ g1 x.2.1 ∧ g2 x.2.2.1 ∧ g3 x.2.2.2) :=
  ⟨fun {H enc w base held fuel cs x} h => by
    obtain ⟨xs, n, _, _, hl, hlen, hf⟩ := DataW.trod_struct ht h
    have hlen2 : xs.length = 4 := hlen
    match xs, hlen2 with
    | [y0, y1, y2, y3], _ =>
      have e0 := hf 0 f0 rfl
      have e1 := hf 1 f1 rfl
      have e2 := hf 2 f2 rfl
      have e3 := hf 3 f3 rfl
      rw [h0, r0.size] at e0
      rw [h1, r1.size] at e1
      rw [h2, r2.size] at e2
      rw [h3, r3.size] at e3
      obtain ⟨a, ka, ga⟩ := r0.read e0
      obtain ⟨b, kb, gb⟩ := r1.read e1
      obtain ⟨c, kc, gc⟩ := r2.read e2
      obtain ⟨d, kd, gd⟩ := r3.read e3
      rw [hc] at hl
      refine ⟨(a, b, c, d), ⟨_, cs.drop d0.sz, ?_, ka, _, cs.drop (d0.sz + d1.sz), split_at_, kb, _, _, ?_, kc, kd⟩, ga, gb, gc, gd⟩
      · rw [List.drop_zero, List.take_append_drop]
      · rw [take_all (o := d0.sz + d1.sz + d2.sz) (a := d3.sz) (by omega)]
        exact split_at_, hc⟩
/-- A struct of one field. -/
theorem Rd.one {P : Program} {t : TypeId} {f0 : Field} {α : Type} {d0 : Kd α} {g0 : α → Prop} (r0 : Rd P f0.type d0 g0) (ht : P.underlying t = some (.struct #[f0])) (h0 : f0.offset = 0) (hc : P.cellsOf t = d0.sz) : Rd P t d0 g0 :=
  ⟨fun {H enc w base held fuel cs x} h => by
    obtain ⟨xs, n, _, _, hl, hlen, hf⟩ := DataW.trod_struct ht h
    have hlen2 : xs.length = 1 := hlen
    match xs, hlen2 with
    | [y0], _ =>
      have e0 := hf 0 f0 rfl
      rw [h0, r0.size] at e0
      obtain ⟨a, ka, ga⟩ := r0.read e0
      rw [List.drop_zero, List.take_of_length_le (by omega)] at ka
      exact ⟨a, ka, ga⟩, hc⟩
/-- A struct of three fields. -/
theorem Rd.three {P : Program} {t : TypeId} {f0 f1 f2 : Field} {α β γ : Type} {d0 : Kd α} {d1 : Kd β} {d2 : Kd γ} {g0 : α → Prop} {g1 : β → Prop} {g2 : γ → Prop} (r0 : Rd P f0.type d0 g0) (r1 : Rd P f1.type d1 g1) (r2 : Rd P f2.type d2 g2)
    (ht : P.underlying t = some (.struct #[f0, f1, f2])) (h0 : f0.offset = 0) (h1 : f1.offset = d0.sz) (h2 : f2.offset = d0.sz + d1.sz) (hc : P.cellsOf t = d0.sz + (d1.sz + d2.sz)) :
    Rd P t (Kd.pair d0 (Kd.pair d1 d2)) (fun x => g0 x.1 ∧ g1 x.2.1 ∧ g2 x.2.2) :=
  ⟨fun {H enc w base held fuel cs x} h => by
    obtain ⟨xs, n, _, _, hl, hlen, hf⟩ := DataW.trod_struct ht h
    have hlen2 : xs.length = 3 := hlen
    match xs, hlen2 with
    | [y0, y1, y2], _ =>
      have e0 := hf 0 f0 rfl
      have e1 := hf 1 f1 rfl
      have e2 := hf 2 f2 rfl
      rw [h0, r0.size] at e0
      rw [h1, r1.size] at e1
      rw [h2, r2.size] at e2
      obtain ⟨a, ka, ga⟩ := r0.read e0
      obtain ⟨b, kb, gb⟩ := r1.read e1
      obtain ⟨c, kc, gc⟩ := r2.read e2
      rw [hc] at hl
      refine ⟨(a, b, c), ⟨_, cs.drop d0.sz, ?_, ka, _, _, ?_, kb, kc⟩, ga, gb, gc⟩
      · rw [List.drop_zero, List.take_append_drop]
      · rw [take_all (o := d0.sz + d1.sz) (a := d2.sz) (by omega)]
        exact split_at_, hc⟩
/-- An array. -/
theorem Rd.arr {P : Program} {t e : TypeId} {n : Nat} {α : Type} {d : Kd α} {good : α → Prop} (hs : 0 < d.sz) (r : Rd P e d good) (ht : P.underlying t = some (.array n e)) (hc : P.cellsOf t = n * d.sz) : Rd P t (Kd.arr n d hs) (fun xs => xs.length = n ∧ ∀ x ∈ xs, good x) :=
  ⟨fun {H enc w base held fuel cs x} h => by
    obtain ⟨xs, m, _, _, hl, hlen, hf⟩ := DataW.trod_array ht h
    obtain ⟨l, hl2, hp⟩ := choose_list (fun i v => good v ∧ d.K w v ((cs.drop (i * d.sz)).take d.sz)) n (fun i hi => by
      have h1 := hf i hi
      rw [List.getElem?_eq_getElem (by omega), r.size] at h1
      obtain ⟨v, hK, hg⟩ := r.read h1
      exact ⟨v, hg, hK⟩)
    refine ⟨l, ⟨hl2, by rw [hl, hc, hl2], fun j p hj => (hp j p hj).2⟩, hl2, fun x hx => ?_⟩
    obtain ⟨i, hi⟩ := List.getElem?_of_mem hx
    exact (hp i x hi).1, hc⟩
/-- An array of two, as a pair. -/
theorem Rd.arr2 {P : Program} {t e : TypeId} {α : Type} {d : Kd α} {good : α → Prop} (hs : 0 < d.sz) (r : Rd P e d good) (ht : P.underlying t = some (.array 2 e)) (hc : P.cellsOf t = 2 * d.sz) : Rd P t (Kd.pair d d) (fun x => good x.1 ∧ good x.2) :=
  ⟨fun {H enc w base held fuel cs x} h => by
    obtain ⟨l, ⟨h2, hr⟩, _, hg⟩ := (Rd.arr hs r ht hc).read h
    match l, h2 with
    | [a, b], _ =>
      have e0 := hr.2 0 a rfl
      have e1 := hr.2 1 b rfl
      have hl : cs.length = 2 * d.sz := hr.1
      rw [Nat.zero_mul, List.drop_zero] at e0
      rw [Nat.one_mul, List.take_of_length_le (by rw [List.length_drop]; omega)] at e1
      exact ⟨(a, b), ⟨_, _, (List.take_append_drop d.sz cs).symm, e0, e1⟩, hg a (by simp), hg b (by simp)⟩, by rw [hc]; show 2 * d.sz = d.sz + d.sz; omega⟩
end Go.Proofs.Ytoimpjmoikjibaa.Read
