/- saga: single steps of a play, plainly (for SagaMirrors and SagaThrough). -/
import Derived.Test.YtplhihakeodadaaDoorSgCl
namespace Go.Proofs.YtplhihakeodadaaDoor.Sg
open Go Go.RowKit Go.Proofs.YtplhihakeodadaaDoorW.PrintWords Go.Proofs.YtplhihakeodadaaDoorW.PrintLast Go.Proofs.YtplhihakeodadaaDoorW.PrintMore
set_option linter.unusedVariables false
set_option linter.unusedSimpArgs false
theorem take_begin {s : SS} {p : Pln} {s1 : SS} {E : Int} (hs : s = ss0) (h : take s ⟨1, 0, p⟩ = (s1, E)) (hE : E = 0) : s1 = ⟨1, 1, p, [], []⟩ ∧ begins p = true := by
  subst hs
  subst hE
  unfold take at h
  rw [if_neg (by simp [formed, stepped]), if_neg (by simp [when, ss0])] at h
  have ha : ask ss0 ⟨1, 0, p⟩ = if begins p = true then 0 else 45 := by simp [ask]
  rw [ha] at h
  cases hb : begins p with
  | true =>
    rw [hb] at h
    simp [turn, ss0] at h
    exact ⟨h.symm, rfl⟩
  | false =>
    rw [hb] at h
    simp at h
theorem take_bad {s : SS} {r : RR} (h : (take s r).2 ≠ 0) : (take s r).1 = ss0 := by
  unfold take at h ⊢
  split
  · rfl
  split
  · rfl
  split
  · rfl
  · rename_i h1 h2 h3
    rw [if_neg h1, if_neg h2, if_neg h3] at h
    exact absurd rfl h
theorem take_intent {s : SS} {x : Int} (hp : s.ph = 1 ∨ s.ph = 3) (h : may s x = true) : take s ⟨2, x, pl0⟩ = ({ s with op := s.op ++ [x] }, 0) := by
  have hw : when 2 s.ph = true := by rcases hp with hp | hp <;> simp [when, hp]
  simp [take, formed, bare, stepped, pl0, hw, ask, h, turn]
theorem take_done {s : SS} {x : Int} (hp : s.ph = 1 ∨ s.ph = 3) (h : x ∈ s.op) : take s ⟨3, x, pl0⟩ = ({ s with op := without x s.op, dn := s.dn ++ [x] }, 0) := by
  have hw : when 3 s.ph = true := by rcases hp with hp | hp <;> simp [when, hp]
  have hc : s.op.contains x = true := by simpa using h
  simp [take, formed, bare, stepped, pl0, hw, ask, h, turn]
theorem take_abort {s : SS} (hp : s.ph = 1) : take s ⟨5, 0, pl0⟩ = ({ s with ph := 2 }, 0) := by
  simp [take, formed, bare, stepped, pl0, when, hp, ask, turn]
theorem take_mark {s : SS} (h : marks s = true) : take s ⟨7, 0, pl0⟩ = ({ s with ph := 3 }, 0) := by
  have hp : s.ph = 1 := by unfold marks at h; simp at h; exact h.2
  simp [take, formed, bare, stepped, pl0, when, hp, ask, h, turn]
theorem take_undone {s : SS} {x : Int} (hp : s.ph = 2) (h : top s = (x, true)) : take s ⟨6, x, pl0⟩ = ({ s with op := without x s.op, dn := without x s.dn }, 0) := by
  simp [take, formed, bare, stepped, pl0, when, hp, ask, h, turn]
theorem take_end {s : SS} (hp : s.ph = 3 ∨ s.ph = 2) (h : ends s = true) : take s ⟨8, 0, pl0⟩ = ({ s with ph := if s.ph = 3 then 4 else if s.ph = 2 then 5 else 0 }, 0) := by
  have hw : when 8 s.ph = true := by rcases hp with hp | hp <;> simp [when, hp]
  simp [take, formed, bare, stepped, pl0, hw, ask, h, turn]
theorem top_dn {s : SS} {d : List Int} {x : Int} (hp : s.ph = 2) (ho : s.op = []) (hd : s.dn = d ++ [x]) : top s = (x, true) := by
  unfold top
  rw [if_pos hp, if_neg (by simp [ho]), if_pos (by simp [hd]), hd]
  simp
theorem without_snoc {d : List Int} {x : Int} (h : x ∉ d) : without x (d ++ [x]) = d := by
  have h1 := without_not h
  unfold without at h1 ⊢
  rw [List.filter_append, h1]
  simp
theorem Cl.len {s : SS} (h : Cl s) : s.dn.length + s.op.length ≤ s.pl.2.2.1.length := by
  have h1 := nodup_len s.pl.2.2.1.length ((s.dn ++ s.op).map Int.toNat) ?_ ?_
  · simpa using h1
  · unfold List.Nodup
    rw [List.pairwise_map]
    refine (List.Pairwise.and_mem.1 h.nd).imp ?_
    rintro a b ⟨ha, hb, hab⟩ e
    have := h.r a ha
    have := h.r b hb
    omega
  · intro x hx
    obtain ⟨k, hk, rfl⟩ := List.mem_map.1 hx
    have := h.r k hk
    omega
/-- The states on the way there: what was reached ahead of each step. -/
def SM (dn : List Int) : List Int := (List.range dn.length).map fun i => ((maskOf (dn.take i) : Nat) : Int)
theorem SM_len (dn : List Int) : (SM dn).length = dn.length := by simp [SM]
theorem SM_snoc (dn : List Int) (x : Int) : SM (dn ++ [x]) = SM dn ++ [((maskOf dn : Nat) : Int)] := by
  unfold SM
  rw [List.length_append, List.length_singleton, List.range_succ, List.map_append]
  congr 1
  · refine List.map_congr_left fun i hi => ?_
    rw [List.mem_range] at hi
    rw [List.take_append_of_le_length (by omega)]
  · simp
theorem SM_get (dn : List Int) (i : Nat) (h : i < dn.length) : (SM dn).getD i 0 = ((maskOf (dn.take i) : Nat) : Int) := by
  unfold SM
  simp [List.getD_eq_getElem?_getD, h]
/-- A state on the way there: nothing is open. -/
structure Mi (p : Pln) (s : SS) : Prop where
  pl : s.pl = p
  ph : s.ph = 1
  op : s.op = []
  num : s.num = 1
  cl : Cl s
  n : p.2.2.1.length ≤ 36
  ok : okPlan p = true
theorem Mi.len {p : Pln} {s : SS} (h : Mi p s) : s.dn.length ≤ 36 := by
  have h1 := h.cl.len
  have h2 := h.n
  have h3 := h.pl
  rw [h3] at h1
  omega
theorem Mi.bd {p : Pln} {s : SS} (h : Mi p s) : Bd 100 s := ⟨by rw [h.num]; decide, by rw [h.num]; decide, by rw [h.op]; simp, by have := h.len; omega, by rw [h.pl]; exact h.ok⟩
theorem Mi.start {p : Pln} (hb : begins p = true) (ok : okPlan p = true) : Mi p ⟨1, 1, p, [], []⟩ := by
  obtain ⟨h1, h2⟩ := begins_right hb
  have hc : Cl (turn ss0 ⟨1, 0, p⟩) := Cl.zero.turn (by constructor <;> (show _ ≤ _; dsimp only; omega)) (by simp [ask, hb])
  exact ⟨rfl, rfl, rfl, rfl, hc, h2, ok⟩
theorem ask_may {s : SS} {x : Int} (h : may s x = true) : ask s ⟨2, x, pl0⟩ = 0 := by simp [ask, h]
theorem Mi.step {p : Pln} {s : SS} {x : Int} (h : Mi p s) (hm : may s x = true) : take s ⟨2, x, pl0⟩ = (⟨1, 1, p, [x], s.dn⟩, 0) ∧ take ⟨1, 1, p, [x], s.dn⟩ ⟨3, x, pl0⟩ = (⟨1, 1, p, [], s.dn ++ [x]⟩, 0) ∧ Mi p ⟨1, 1, p, [], s.dn ++ [x]⟩ ∧ Bd 100 ⟨1, 1, p, [x], s.dn⟩ := by
  have e1 := take_intent (.inl h.ph) hm
  have e0 : ({ s with op := s.op ++ [x] } : SS) = ⟨1, 1, p, [x], s.dn⟩ := by
    rw [h.op, h.ph, h.num, h.pl]
    rfl
  rw [e0] at e1
  have e2 : take ⟨1, 1, p, [x], s.dn⟩ ⟨3, x, pl0⟩ = (⟨1, 1, p, [], s.dn ++ [x]⟩, 0) := by
    rw [take_done (.inl rfl) (by simp)]
    simp [without]
  have c1 : Cl ⟨1, 1, p, [x], s.dn⟩ := by
    have := h.cl.take (r := ⟨2, x, pl0⟩) (by rw [e1])
    rwa [e1] at this
  have c2 : Cl ⟨1, 1, p, [], s.dn ++ [x]⟩ := by
    have := c1.take (r := ⟨3, x, pl0⟩) (by rw [e2])
    rwa [e2] at this
  refine ⟨e1, e2, ⟨rfl, rfl, rfl, rfl, c2, h.n, h.ok⟩, ⟨by dsimp only; omega, by dsimp only; omega, by simp, ?_, h.ok⟩⟩
  have := h.len
  dsimp only
  omega
theorem Mi.reach {p : Pln} {s : SS} (h : Mi p s) : reached s = maskOf s.dn := by
  unfold reached
  rw [h.op]
  rfl
theorem Mi.in64 {p : Pln} {s : SS} (h : Mi p s) : ∀ k ∈ s.dn, 0 ≤ k ∧ k < 64 := fun k hk => by
  have h1 := h.cl.r k (List.mem_append_left _ hk)
  have h2 := h.n
  rw [h.pl] at h1
  omega
/-- On the way back: the first j of what was done are there still. -/
def bk (p : Pln) (dn : List Int) : SS := ⟨1, 2, p, [], dn⟩
theorem Mi.back {p : Pln} {s : SS} (h : Mi p s) : take s ⟨5, 0, pl0⟩ = (bk p s.dn, 0) := by
  rw [take_abort h.ph]
  unfold bk
  rw [h.op, h.num, h.pl]
theorem bk_bd {p : Pln} {s : SS} (h : Mi p s) (j : Nat) : Bd 100 (bk p (s.dn.take j)) := by
  refine ⟨by unfold bk; dsimp only; omega, by unfold bk; dsimp only; omega, by simp [bk], ?_, h.ok⟩
  have := h.len
  show (s.dn.take j).length ≤ 100
  rw [List.length_take]
  omega
theorem bk_step {p : Pln} {s : SS} (h : Mi p s) {j : Nat} (hj : j < s.dn.length) : top (bk p (s.dn.take (j + 1))) = (s.dn.getD j 0, true) ∧ take (bk p (s.dn.take (j + 1))) ⟨6, s.dn.getD j 0, pl0⟩ = (bk p (s.dn.take j), 0) := by
  have e : s.dn.take (j + 1) = s.dn.take j ++ [s.dn.getD j 0] := take_snoc' hj 0
  have ht : top (bk p (s.dn.take (j + 1))) = (s.dn.getD j 0, true) := top_dn rfl rfl e
  refine ⟨ht, ?_⟩
  rw [take_undone rfl ht]
  have hn : s.dn.getD j 0 ∉ s.dn.take j := by
    have hnd : (s.dn.take (j + 1)).Nodup := ((List.nodup_append.1 h.cl.nd).1).sublist (List.take_sublist _ _)
    rw [e] at hnd
    exact fun hm => (List.nodup_append.1 hnd).2.2 _ hm _ List.mem_cons_self rfl
  have hw : without (s.dn.getD j 0) (s.dn.take (j + 1)) = s.dn.take j := by rw [e]; exact without_snoc hn
  show (({ bk p (s.dn.take (j + 1)) with op := without (s.dn.getD j 0) [], dn := without (s.dn.getD j 0) (s.dn.take (j + 1)) } : SS), (0 : Int)) = _
  rw [hw]
  rfl
theorem bk_reach (p : Pln) (dn : List Int) : reached (bk p dn) = maskOf dn := rfl
theorem bk_ends (p : Pln) : ends (bk p []) = true := by simp [ends, bk]
end Go.Proofs.YtplhihakeodadaaDoor.Sg
