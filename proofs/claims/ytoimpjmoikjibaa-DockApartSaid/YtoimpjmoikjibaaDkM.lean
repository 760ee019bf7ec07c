/- The dock, in plain lists: files in the order of their names. -/
import Derived.Test.YtoimpjmoikjibaaIMap
namespace Go.Proofs.Ytoimpjmoikjibaa.Dk
open Go Go.Proofs.Ytoimpjmoikjibaa.IMap
set_option linter.unusedVariables false
set_option linter.unusedSimpArgs false
abbrev Fls : Type := List (Int × (List Int × Nat))
def Asc (M : Fls) : Prop := M.Pairwise fun a b => a.1 < b.1
def ins (M : Fls) (k : Int) (x : List Int × Nat) : Fls := match M with
  | [] => [(k, x)]
  | p :: r => if k < p.1 then (k, x) :: p :: r else if p.1 = k then (k, x) :: r else p :: ins r k x
def rem (M : Fls) (k : Int) : Fls := M.filter fun p => decide (p.1 ≠ k)
def size (M : Fls) : Nat := (M.map fun p => p.2.1.length).sum
structure DS where
  M : Fls
  cap : Int
  left : Int
  down : Bool
/-- What a dock may be. -/
structure OK (s : DS) : Prop where
  asc : Asc s.M
  safe : ∀ p ∈ s.M, p.2.2 ≤ p.2.1.length
  names : ∀ p ∈ s.M, 0 ≤ p.1 ∧ p.1 ≤ 999999
  size : size s.M ≤ 16777216
  cap0 : 0 ≤ s.cap
  cap1 : s.cap ≤ 16777216
  left0 : -1 ≤ s.left
  left1 : s.left < 9223372036854775808
def new (c : Int) : DS := ⟨[], c, -1, false⟩
def stepS (s : DS) : DS := if 0 < s.left then { s with left := s.left - 1 } else if s.left = 0 then { s with down := true } else s
def app (s : DS) (k : Int) (b : List Int) : Int × DS :=
  if s.down = true then (51, s) else if k < 0 ∨ 999999 < k then (52, s) else if s.cap < (size s.M : Int) + b.length then (50, s) else
    let s' := stepS { s with M := ins s.M k ((((get s.M k).getD ([], 0)).1 ++ b), ((get s.M k).getD ([], 0)).2) }
    (if s'.down = true then 51 else 0, s')
def findE (s : DS) (k : Int) : Int := if s.down = true then 51 else if (get s.M k).isSome = true then 0 else 52
def syn (s : DS) (k : Int) : Int × DS :=
  if findE s k ≠ 0 then (findE s k, s) else if (stepS s).down = true then (51, stepS s) else (0, { stepS s with M := ins s.M k (((get s.M k).getD ([], 0)).1, ((get s.M k).getD ([], 0)).1.length) })
def rmv (s : DS) (k : Int) : Int × DS :=
  if findE s k ≠ 0 then (findE s k, s) else if (stepS s).down = true then (51, stepS s) else (0, { stepS s with M := rem s.M k })
def cut (s : DS) (k n : Int) : Int × DS :=
  if findE s k ≠ 0 then (findE s k, s) else if n < 0 ∨ (((get s.M k).getD ([], 0)).1.length : Int) < n then (11, s) else if (stepS s).down = true then (51, stepS s) else
    (0, { stepS s with M := ins s.M k (((get s.M k).getD ([], 0)).1.take n.toNat, min ((get s.M k).getD ([], 0)).2 n.toNat) })
def kept (b : List Int) (s : Nat) (n : Int) : List Int := b.take (s + min n.toNat (b.length - s))
def crashF : Fls → List Int → Fls
  | [], _ => []
  | p :: r, keep => if p.2.2 < p.2.1.length then (p.1, (kept p.2.1 p.2.2 (keep.headD 0), (kept p.2.1 p.2.2 (keep.headD 0)).length)) :: crashF r keep.tail else (p.1, (p.2.1, p.2.1.length)) :: crashF r keep
def crash (s : DS) (keep : List Int) : DS := ⟨crashF s.M keep, s.cap, -1, false⟩
def grow (s : DS) (n : Int) : DS := { s with cap := min (max n 0) 16777216 }
def arm (s : DS) (n : Int) : DS := { s with left := max n (-1) }

/-! What holds of them. -/
theorem asc_nodup {M : Fls} (h : Asc M) : (keys M).Nodup := by
  unfold Asc at h
  unfold keys
  rw [List.Nodup, List.pairwise_map]
  exact h.imp fun hl he => by omega
theorem get_ins {M : Fls} (h : Asc M) (k j : Int) (x : List Int × Nat) : get (ins M k x) j = if j = k then some x else get M j := by
  induction M with
  | nil =>
    rw [ins, get_cons, get_nil]
    by_cases c : k = j
    · rw [if_pos c, if_pos c.symm]
    · rw [if_neg c, if_neg (fun e => c e.symm)]
  | cons p r ih =>
    obtain ⟨h1, h2⟩ := List.pairwise_cons.1 h
    rw [ins]
    by_cases c : k < p.1
    · rw [if_pos c, get_cons]
      by_cases d : k = j
      · rw [if_pos d, if_pos d.symm]
      · rw [if_neg d, if_neg (fun e => d e.symm)]
    · rw [if_neg c]
      by_cases c2 : p.1 = k
      · rw [if_pos c2, get_cons, get_cons]
        by_cases d : k = j
        · rw [if_pos d, if_pos d.symm]
        · rw [if_neg d, if_neg (fun e => d e.symm), if_neg (fun e => d (c2.symm.trans e))]
      · rw [if_neg c2, get_cons, get_cons, ih h2]
        by_cases d : p.1 = j
        · rw [if_pos d, if_pos d, if_neg (fun e => c2 (d.trans e))]
        · rw [if_neg d, if_neg d]
theorem mem_ins {M : Fls} {k : Int} {x : List Int × Nat} {p : Int × (List Int × Nat)} (h : p ∈ ins M k x) : p = (k, x) ∨ p ∈ M := by
  induction M with
  | nil => exact .inl (List.mem_singleton.1 h)
  | cons q r ih =>
    rw [ins] at h
    split at h
    · rcases List.mem_cons.1 h with h | h
      · exact .inl h
      · exact .inr h
    · split at h
      · rcases List.mem_cons.1 h with h | h
        · exact .inl h
        · exact .inr (List.mem_cons_of_mem _ h)
      · rcases List.mem_cons.1 h with h | h
        · exact .inr (h ▸ List.mem_cons_self ..)
        · rcases ih h with h | h
          · exact .inl h
          · exact .inr (List.mem_cons_of_mem _ h)
theorem asc_ins {M : Fls} (h : Asc M) (k : Int) (x : List Int × Nat) : Asc (ins M k x) := by
  induction M with
  | nil => exact List.pairwise_singleton ..
  | cons p r ih =>
    obtain ⟨h1, h2⟩ := List.pairwise_cons.1 h
    rw [ins]
    by_cases c : k < p.1
    · rw [if_pos c]
      refine List.pairwise_cons.2 ⟨fun q hq => ?_, h⟩
      rcases List.mem_cons.1 hq with e | hq
      · rw [e]; exact c
      · have := h1 q hq
        show k < q.1
        omega
    · rw [if_neg c]
      by_cases c2 : p.1 = k
      · rw [if_pos c2]
        exact List.pairwise_cons.2 ⟨fun q hq => by have := h1 q hq; show k < q.1; omega, h2⟩
      · rw [if_neg c2]
        refine List.pairwise_cons.2 ⟨fun q hq => ?_, ih h2⟩
        rcases mem_ins hq with e | hq
        · rw [e]; show p.1 < k; omega
        · exact h1 q hq
theorem asc_rem {M : Fls} (h : Asc M) (k : Int) : Asc (rem M k) := List.Pairwise.filter _ h
theorem get_rem (M : Fls) (k j : Int) : get (rem M k) j = if j = k then none else get M j := by
  induction M with
  | nil => show none = _; split <;> rfl
  | cons p r ih =>
    unfold rem at ih ⊢
    rw [List.filter_cons]
    by_cases c : p.1 = k
    · rw [if_neg (by simpa using c), ih, get_cons]
      by_cases d : j = k
      · rw [if_pos d, if_pos d]
      · rw [if_neg d, if_neg d, if_neg (fun e => d (e.symm.trans c))]
    · rw [if_pos (by simpa using c), get_cons, get_cons, ih]
      by_cases d : p.1 = j
      · rw [if_pos d, if_pos d, if_neg (fun e => c (d.trans e))]
      · rw [if_neg d, if_neg d]
theorem get_none_lt {M : Fls} {k : Int} (h : ∀ p ∈ M, k < p.1) : get M k = none := by
  apply get_none.2
  intro hm
  obtain ⟨p, hp, e⟩ := List.mem_map.1 hm
  have := h p hp
  omega
/-- Two lists of ascending names that have the same at each name are one. -/
theorem asc_ext : ∀ {M N : Fls}, Asc M → Asc N → (∀ k, get M k = get N k) → M = N
  | [], [], _, _, _ => rfl
  | [], q :: N, _, _, h => by
    have := h q.1
    rw [get_cons, if_pos rfl] at this
    cases this
  | p :: M, [], _, _, h => by
    have := h p.1
    rw [get_cons, if_pos rfl] at this
    cases this
  | p :: M, q :: N, hM, hN, h => by
    obtain ⟨m1, m2⟩ := List.pairwise_cons.1 hM
    obtain ⟨n1, n2⟩ := List.pairwise_cons.1 hN
    have e1 : p.1 = q.1 := by
      have h1 := h p.1
      have h2 := h q.1
      rw [get_cons, get_cons, if_pos rfl] at h1
      rw [get_cons, get_cons, if_pos rfl] at h2
      by_cases c : q.1 = p.1
      · exact c.symm
      · rw [if_neg c] at h1
        rw [if_neg (fun e => c e.symm)] at h2
        have a1 := get_mem h1.symm
        have a2 := get_mem h2
        have b1 : q.1 < p.1 := n1 _ a1
        have b2 : p.1 < q.1 := m1 _ a2
        omega
    have e2 : p.2 = q.2 := by
      have h1 := h p.1
      rw [get_cons, get_cons, if_pos rfl, if_pos e1.symm] at h1
      exact Option.some.inj h1
    have e3 : M = N := asc_ext m2 n2 fun k => by
      by_cases c : p.1 = k
      · rw [← c, get_none_lt m1, get_none_lt (by intro r hr; have := n1 r hr; omega)]
      · have h1 := h k
        rwa [get_cons, get_cons, if_neg c, if_neg (fun e => c (e1.trans e))] at h1
    rw [e3, Prod.ext e1 e2]
theorem perm_of_get {α : Type} {a b : List (Int × α)} (ha : (keys a).Nodup) (hb : (keys b).Nodup) (h : ∀ k, get a k = get b k) : a.Perm b := by
  have nd : ∀ {l : List (Int × α)}, (keys l).Nodup → l.Nodup := fun {l} hl => by
    unfold keys at hl
    rw [List.Nodup, List.pairwise_map] at hl
    exact hl.imp fun hne e => hne (by rw [e])
  rw [List.perm_ext_iff_of_nodup (nd ha) (nd hb)]
  intro p
  constructor
  · intro hp
    exact get_mem ((h p.1).symm.trans (mem_get ha hp))
  · intro hp
    exact get_mem ((h p.1).trans (mem_get hb hp))
theorem size_perm {M N : Fls} (h : M.Perm N) : size M = size N := (h.map _).sum_nat
theorem size_cons (p : Int × (List Int × Nat)) (M : Fls) : size (p :: M) = p.2.1.length + size M := by simp [size]
theorem size_get {M : Fls} {k : Int} {x : List Int × Nat} (h : get M k = some x) : x.1.length ≤ size M := by
  induction M with
  | nil => cases h
  | cons p r ih =>
    rw [get_cons] at h
    rw [size_cons]
    split at h
    · cases h; omega
    · have := ih h; omega
theorem size_ins {M : Fls} (h : Asc M) (k : Int) (x : List Int × Nat) : size (ins M k x) + ((get M k).getD ([], 0)).1.length = size M + x.1.length := by
  induction M with
  | nil => simp [ins, size, get_nil]
  | cons p r ih =>
    obtain ⟨h1, h2⟩ := List.pairwise_cons.1 h
    rw [ins]
    by_cases c : k < p.1
    · rw [if_pos c, get_none_lt (by intro q hq; rcases List.mem_cons.1 hq with e | hq; (rw [e]; exact c); (have := h1 q hq; omega))]
      rw [size_cons]
      simp
      omega
    · rw [if_neg c]
      by_cases c2 : p.1 = k
      · rw [if_pos c2, get_cons, if_pos c2, size_cons, size_cons]
        simp
        omega
      · rw [if_neg c2, get_cons, if_neg c2, size_cons, size_cons]
        have := ih h2
        omega
theorem size_rem_le (M : Fls) (k : Int) : size (rem M k) ≤ size M := by
  induction M with
  | nil => exact Nat.le_refl _
  | cons p r ih =>
    unfold rem at ih ⊢
    rw [List.filter_cons]
    split
    · rw [size_cons, size_cons]; omega
    · rw [size_cons]; omega
end Go.Proofs.Ytoimpjmoikjibaa.Dk
