/- The dock, in plain lists: files in the order of their names. -/
import Derived.Test.YtoimpjmoikjibaaIMap
import Derived.Test.YtoimpjmoikjibaaBRow
namespace Go.Proofs.Ytoimpjmoikjibaa.Dk
open Go Go.Proofs.Ytoimpjmoikjibaa.IMap
set_option linter.unusedVariables false
set_option linter.unusedSimpArgs false
abbrev Fls : Type := List (Int × (List Int × Nat))
def Asc (M : Fls) : Prop := M.Pairwise fun a b => a.1 < b.1
def ins (M : Fls) (k : Int) (x : List Int × Nat) : Fls := match M with
  | [] => [(k, x)]
  | p :: r => if k < p.1 then (k, x) :: p :: r else if p.1 = k then (k, x) :: r else p :: ins r k x
def rem (M : Fls) (k : Int) : Fls := M.filter fun p => decide (p.1 ≠ k)
def size (M : Fls) : Nat := (M.map fun p => p.2.1.length).sum
structure DS where
  M : Fls
  cap : Int
  left : Int
  down : Bool
/-- What a dock may be. -/
structure OK (s : DS) : Prop where
  asc : Asc s.M
  safe : ∀ p ∈ s.M, p.2.2 ≤ p.2.1.length
  names : ∀ p ∈ s.M, 0 ≤ p.1 ∧ p.1 ≤ 999999
  size : size s.M ≤ 16777216
  cap0 : 0 ≤ s.cap
  cap1 : s.cap ≤ 16777216
  left0 : -1 ≤ s.left
  left1 : s.left < 9223372036854775808
def new (c : Int) : DS := ⟨[], c, -1, false⟩
def stepS (s : DS) : DS := if 0 < s.left then { s with left := s.left - 1 } else if s.left = 0 then { s with down := true } else s
def app (s : DS) (k : Int) (b : List Int) : Int × DS :=
  if s.down = true then (51, s) else if k < 0 ∨ 999999 < k then (52, s) else if s.cap < (size s.M : Int) + b.length then (50, s) else
    let s' := stepS { s with M := ins s.M k ((((get s.M k).getD ([], 0)).1 ++ b), ((get s.M k).getD ([], 0)).2) }
    (if s'.down = true then 51 else 0, s')
def findE (s : DS) (k : Int) : Int := if s.down = true then 51 else if (get s.M k).isSome = true then 0 else 52
def syn (s : DS) (k : Int) : Int × DS :=
  if findE s k ≠ 0 then (findE s k, s) else if (stepS s).down = true then (51, stepS s) else (0, { stepS s with M := ins s.M k (((get s.M k).getD ([], 0)).1, ((get s.M k).getD ([], 0)).1.length) })
def rmv (s : DS) (k : Int) : Int × DS :=
  if findE s k ≠ 0 then (findE s k, s) else if (stepS s).down = true then (51, stepS s) else (0, { stepS s with M := rem s.M k })
def cut (s : DS) (k n : Int) : Int × DS :=
  if findE s k ≠ 0 then (findE s k, s) else if n < 0 ∨ (((get s.M k).getD ([], 0)).1.length : Int) < n then (11, s) else if (stepS s).down = true then (51, stepS s) else
    (0, { stepS s with M := ins s.M k (((get s.M k).getD ([], 0)).1.take n.toNat, min ((get s.M k).getD ([], 0)).2 n.toNat) })
def kept (b : List Int) (s : Nat) (n : Int) : List Int := b.take (s + min n.toNat (b.length - s))
def crashF : Fls → List Int → Fls
  | [], _ => []
  | p :: r, keep => if p.2.2 < p.2.1.length then (p.1, (kept p.2.1 p.2.2 (keep.headD 0), (kept p.2.1 p.2.2 (keep.headD 0)).length)) :: crashF r keep.tail else (p.1, (p.2.1, p.2.1.length)) :: crashF r keep
def crash (s : DS) (keep : List Int) : DS := ⟨crashF s.M keep, s.cap, -1, false⟩
def grow (s : DS) (n : Int) : DS := { s with cap := min (max n 0) 16777216 }
def arm (s : DS) (n : Int) : DS := { s with left := max n (-1) }

/-! What holds of them. -/
theorem asc_nodup {M : Fls} (h : Asc M) : (keys M).Nodup := by
  unfold Asc at h
  unfold keys
  rw [List.Nodup, List.pairwise_map]
  exact h.imp fun hl he => by omega
theorem get_ins {M : Fls} (h : Asc M) (k j : Int) (x : List Int × Nat) : get (ins M k x) j = if j = k then some x else get M j := by
  induction M with
  | nil =>
    rw [ins, get_cons, get_nil]
    by_cases c : k = j
    · rw [if_pos c, if_pos c.symm]
    · rw [if_neg c, if_neg (fun e => c e.symm)]
  | cons p r ih =>
    obtain ⟨h1, h2⟩ := List.pairwise_cons.1 h
    rw [ins]
    by_cases c : k < p.1
    · rw [if_pos c, get_cons]
      by_cases d : k = j
      · rw [if_pos d, if_pos d.symm]
      · rw [if_neg d, if_neg (fun e => d e.symm)]
    · rw [if_neg c]
      by_cases c2 : p.1 = k
      · rw [if_pos c2, get_cons, get_cons]
        by_cases d : k = j
        · rw [if_pos d, if_pos d.symm]
        · rw [if_neg d, if_neg (fun e => d e.symm), if_neg (fun e => d (c2.symm.trans e))]
      · rw [if_neg c2, get_cons, get_cons, ih h2]
        by_cases d : p.1 = j
        · rw [if_pos d, if_pos d, if_neg (fun e => c2 (d.trans e))]
        · rw [if_neg d, if_neg d]
theorem mem_ins {M : Fls} {k : Int} {x : List Int × Nat} {p : Int × (List Int × Nat)} (h : p ∈ ins M k x) : p = (k, x) ∨ p ∈ M := by
  induction M with
  | nil => exact .inl (List.mem_singleton.1 h)
  | cons q r ih =>
    rw [ins] at h
    split at h
    · rcases List.mem_cons.1 h with h | h
      · exact .inl h
      · exact .inr h
    · split at h
      · rcases List.mem_cons.1 h with h | h
        · exact .inl h
        · exact .inr (List.mem_cons_of_mem _ h)
      · rcases List.mem_cons.1 h with h | h
        · exact .inr (h ▸ List.mem_cons_self ..)
        · rcases ih h with h | h
          · exact .inl h
          · exact .inr (List.mem_cons_of_mem _ h)
theorem asc_ins {M : Fls} (h : Asc M) (k : Int) (x : List Int × Nat) : Asc (ins M k x) := by
  induction M with
  | nil => exact List.pairwise_singleton ..
  | cons p r ih =>
    obtain ⟨h1, h2⟩ := List.pairwise_cons.1 h
    rw [ins]
    by_cases c : k < p.1
    · rw [if_pos c]
      refine List.pairwise_cons.2 ⟨fun q hq => ?_, h⟩
      rcases List.mem_cons.1 hq with e | hq
      · rw [e]; exact c
      · have := h1 q hq
        show k < q.1
        omega
    · rw [if_neg c]
      by_cases c2 : p.1 = k
      · rw [if_pos c2]
        exact List.pairwise_cons.2 ⟨fun q hq => by have := h1 q hq; show k < q.1; omega, h2⟩
      · rw [if_neg c2]
        refine List.pairwise_cons.2 ⟨fun q hq => ?_, ih h2⟩
        rcases mem_ins hq with e | hq
        · rw [e]; show p.1 < k; omega
        · exact h1 q hq
theorem asc_rem {M : Fls} (h : Asc M) (k : Int) : Asc (rem M k) := List.Pairwise.filter _ h
theorem get_rem (M : Fls) (k j : Int) : get (rem M k) j = if j = k then none else get M j := by
  induction M with
  | nil => show none = _; split <;> rfl
  | cons p r ih =>
    unfold rem at ih ⊢
    rw [List.filter_cons]
    by_cases c : p.1 = k
    · rw [if_neg (by simpa using c), ih, get_cons]
      by_cases d : j = k
      · rw [if_pos d, if_pos d]
      · rw [if_neg d, if_neg d, if_neg (fun e => d (e.symm.trans c))]
    · rw [if_pos (by simpa using c), get_cons, get_cons, ih]
      by_cases d : p.1 = j
      · rw [if_pos d, if_pos d, if_neg (fun e => c (d.trans e))]
      · rw [if_neg d, if_neg d]
theorem get_none_lt {M : Fls} {k : Int} (h : ∀ p ∈ M, k < p.1) : get M k = none := by
  apply get_none.2
  intro hm
  obtain ⟨p, hp, e⟩ := List.mem_map.1 hm
  have := h p hp
  omega
/-- Two lists of ascending names that have the same at each name are one. -/
theorem asc_ext : ∀ {M N : Fls}, Asc M → Asc N → (∀ k, get M k = get N k) → M = N
  | [], [], _, _, _ => rfl
  | [], q :: N, _, _, h => by
    have := h q.1
    rw [get_cons, if_pos rfl] at this
    cases this
  | p :: M, [], _, _, h => by
    have := h p.1
    rw [get_cons, if_pos rfl] at this
    cases this
  | p :: M, q :: N, hM, hN, h => by
    obtain ⟨m1, m2⟩ := List.pairwise_cons.1 hM
    obtain ⟨n1, n2⟩ := List.pairwise_cons.1 hN
    have e1 : p.1 = q.1 := by
      have h1 := h p.1
      have h2 := h q.1
      rw [get_cons, get_cons, if_pos rfl] at h1
      rw [get_cons, get_cons, if_pos rfl] at h2
      by_cases c : q.1 = p.1
      · exact c.symm
      · rw [if_neg c] at h1
        rw [if_neg (fun e => c e.symm)] at h2
        have a1 := get_mem h1.symm
        have a2 := get_mem h2
        have b1 : q.1 < p.1 := n1 _ a1
        have b2 : p.1 < q.1 := m1 _ a2
        omega
    have e2 : p.2 = q.2 := by
      have h1 := h p.1
      rw [get_cons, get_cons, if_pos rfl, if_pos e1.symm] at h1
      exact Option.some.inj h1
    have e3 : M = N := asc_ext m2 n2 fun k => by
      by_cases c : p.1 = k
      · rw [← c, get_none_lt m1, get_none_lt (by intro r hr; have := n1 r hr; omega)]
      · have h1 := h k
        rwa [get_cons, get_cons, if_neg c, if_neg (fun e => c (e1.trans e))] at h1
    rw [e3, Prod.ext e1 e2]
theorem perm_of_get {α : Type} {a b : List (Int × α)} (ha : (keys a).Nodup) (hb : (keys b).Nodup) (h : ∀ k, get a k = get b k) : a.Perm b := by
  have nd : ∀ {l : List (Int × α)}, (keys l).Nodup → l.Nodup := fun {l} hl => by
    unfold keys at hl
    rw [List.Nodup, List.pairwise_map] at hl
    exact hl.imp fun hne e => hne (by rw [e])
  rw [List.perm_ext_iff_of_nodup (nd ha) (nd hb)]
  intro p
  constructor
  · intro hp
    exact get_mem ((h p.1).symm.trans (mem_get ha hp))
  · intro hp
    exact get_mem ((h p.1).trans (mem_get hb hp))
theorem size_perm {M N : Fls} (h : M.Perm N) : size M = size N := (h.map _).sum_nat
theorem size_cons (p : Int × (List Int × Nat)) (M : Fls) : size (p :: M) = p.2.1.length + size M := by simp [size]
theorem size_get {M : Fls} {k : Int} {x : List Int × Nat} (h : get M k = some x) : x.1.length ≤ size M := by
  induction M with
  | nil => cases h
  | cons p r ih =>
    rw [get_cons] at h
    rw [size_cons]
    split at h
    · cases h; omega
    · have := ih h; omega
theorem size_ins {M : Fls} (h : Asc M) (k : Int) (x : List Int × Nat) : size (ins M k x) + ((get M k).getD ([], 0)).1.length = size M + x.1.length := by
  induction M with
  | nil => simp [ins, size, get_nil]
  | cons p r ih =>
    obtain ⟨h1, h2⟩ := List.pairwise_cons.1 h
    rw [ins]
    by_cases c : k < p.1
    · rw [if_pos c, get_none_lt (by intro q hq; rcases List.mem_cons.1 hq with e | hq; (rw [e]; exact c); (have := h1 q hq; omega))]
      rw [size_cons]
      simp
      omega
    · rw [if_neg c]
      by_cases c2 : p.1 = k
      · rw [if_pos c2, get_cons, if_pos c2, size_cons, size_cons]
        simp
        omega
      · rw [if_neg c2, get_cons, if_neg c2, size_cons, size_cons]
        have := ih h2
        omega
theorem size_rem_le (M : Fls) (k : Int) : size (rem M k) ≤ size M := by
  induction M with
  | nil => exact Nat.le_refl _
  | cons p r ih =>
    unfold rem at ih ⊢
    rw [List.filter_cons]
    split
    · rw [size_cons, size_cons]; omega
    · rw [size_cons]; omega
end Go.Proofs.Ytoimpjmoikjibaa.Dk
namespace Go.Proofs.Ytoimpjmoikjibaa.Dk
open Go Go.RowKit Go.Proofs.Ytoimpjmoikjibaa.IMap Go.Proofs.YtoimpjmoikjibaaW.PrintWords Go.Proofs.YtoimpjmoikjibaaW.PrintLast Go.Proofs.YtoimpjmoikjibaaW.PrintMore
set_option linter.unusedVariables false
set_option linter.unusedSimpArgs false
structure Ent where
  f : Nat
  v : Value
  b : List Int
  s : Nat
def Ent.ptr (e : Ent) : Value := .pointer (some ⟨e.f, 0, none⟩)
def apart (p q : Int × Ent) : Prop := p.2.f ≠ q.2.f ∧ ∀ k, p.2.v.ownBlock = some k → q.2.v.ownBlock ≠ some k
theorem apart.symm {p q : Int × Ent} (h : apart p q) : apart q p := ⟨fun e => h.1 e.symm, fun k hk e => h.2 k e hk⟩
structure DkI (w : World) (g : Nat) (S : Nat → Prop) (s : DS) (bm : Nat) (es : List (Int × Ent)) : Prop where
  gc : w.heap[g]? = some (.cells #[.map (some bm), .int .i64 s.cap, .int .i64 s.left, .bool s.down] 84 (0, 0))
  im : IM .i64 w bm (vals Ent.ptr es)
  sg : S g
  sm : S bm
  fc : ∀ p ∈ es, w.heap[p.2.f]? = some (.cells #[p.2.v, .int .i64 (p.2.s : Int)] 87 (0, 0))
  fb : ∀ p ∈ es, BW w p.2.v p.2.b
  fs : ∀ p ∈ es, S p.2.f ∧ ∀ k, p.2.v.ownBlock = some k → S k
  pw : es.Pairwise apart
  mir : ∀ k, get s.M k = (get es k).map fun e => (e.b, e.s)
  ok : OK s
/-- A dock, what it may reach (S), and what it is. -/
def Dk (w : World) (g : Nat) (S : Nat → Prop) (s : DS) : Prop := ∃ bm es, DkI w g S s bm es
def Chg (S : Nat → Prop) (w w' : World) : Prop := Below 0 w w' ∧ ∀ k, k < w.heap.size → ¬ S k → w'.heap[k]? = w.heap[k]?
/-- What it may reach, with what has been laid since. -/
def Fr (S : Nat → Prop) (w w' : World) (k : Nat) : Prop := S k ∨ (w.heap.size ≤ k ∧ k < w'.heap.size)
/-- One block alone has turned. -/
def At1 (g : Nat) (w w' : World) : Prop := Below 0 w w' ∧ w'.heap.size = w.heap.size ∧ ∀ k, k ≠ g → w'.heap[k]? = w.heap[k]?
theorem Chg.refl (S : Nat → Prop) (w : World) : Chg S w w := ⟨Below.refl _ _, fun _ _ _ => rfl⟩
theorem Chg.trans {S : Nat → Prop} {w w1 w2 : World} (h : Chg S w w1) (h2 : Chg S w1 w2) : Chg S w w2 := ⟨h.1.trans h2.1, fun k hk hs => (h2.2 k (Nat.lt_of_lt_of_le hk h.1.size) hs).trans (h.2 k hk hs)⟩
theorem Chg.mono {S S' : Nat → Prop} {w w1 : World} (h : Chg S w w1) (hS : ∀ k, S k → S' k) : Chg S' w w1 := ⟨h.1, fun k hk hn => h.2 k hk (fun hs => hn (hS k hs))⟩
theorem Chg.fr {S : Nat → Prop} {w w1 w2 : World} (h : Chg S w w1) (h2 : Chg (Fr S w w1) w1 w2) : Chg S w w2 :=
  ⟨h.1.trans h2.1, fun k hk hs => (h2.2 k (Nat.lt_of_lt_of_le hk h.1.size) (fun hf => by rcases hf with hf | hf; exact hs hf; omega)).trans (h.2 k hk hs)⟩
theorem Chg.below {S : Nat → Prop} {w0 w w1 : World} {B : Nat} (h : Chg S w w1) (hb : Below B w0 w) (hB : B ≤ w.heap.size) (hS : ∀ k, S k → B ≤ k) : Below B w0 w1 :=
  ⟨h.1.os.trans hb.os, h.1.tape.trans hb.tape, h.1.output.trans hb.output, Nat.le_trans hb.size h.1.size, fun k hk => (h.2 k (by omega) (fun hs => by have := hS k hs; omega)).trans (hb.block k hk)⟩
theorem Chg.ofBelow {S : Nat → Prop} {w w1 : World} (h : Below w.heap.size w w1) : Chg S w w1 := ⟨h.mono (Nat.zero_le _), fun k hk _ => h.block k hk⟩
theorem At1.chg {g : Nat} {S : Nat → Prop} {w w1 : World} (h : At1 g w w1) (hS : S g) : Chg S w w1 := ⟨h.1, fun k _ hn => h.2.2 k (fun e => hn (e ▸ hS))⟩
theorem At1.set (w : World) (g o : Nat) (v : Value) : At1 g w (w.setCell ⟨g, o, none⟩ v) := ⟨(Below.refl 0 w).setCell (p := ⟨g, o, none⟩) (Nat.zero_le _) v, World.size_setCell .., fun k hk => Below.heap_setCell w ⟨g, o, none⟩ v k hk⟩
theorem At1.trans {g : Nat} {w w1 w2 : World} (h : At1 g w w1) (h2 : At1 g w1 w2) : At1 g w w2 := ⟨h.1.trans h2.1, h2.2.1.trans h.2.1, fun k hk => (h2.2.2 k hk).trans (h.2.2 k hk)⟩
theorem At1.refl (g : Nat) (w : World) : At1 g w w := ⟨Below.refl _ _, rfl, fun _ _ => rfl⟩
theorem Fr.same {S : Nat → Prop} {w w' : World} (h : w'.heap.size = w.heap.size) {k : Nat} (hk : Fr S w w' k) : S k := by
  rcases hk with hk | hk
  · exact hk
  · omega
theorem pairwise_at {α : Type} {R : α → α → Prop} (hs : ∀ {a b}, R a b → R b a) {l : List α} (h : l.Pairwise R) {a b : α} (ha : a ∈ l) (hb : b ∈ l) (hne : a ≠ b) : R a b := by
  induction l with
  | nil => cases ha
  | cons x l ih =>
    obtain ⟨h1, h2⟩ := List.pairwise_cons.1 h
    rcases List.mem_cons.1 ha with ea | ha
    · rcases List.mem_cons.1 hb with eb | hb
      · exact absurd (ea.trans eb.symm) hne
      · rw [ea]; exact h1 b hb
    · rcases List.mem_cons.1 hb with eb | hb
      · rw [eb]; exact hs (h1 a ha)
      · exact ih h2 ha hb
theorem mem_put {α : Type} {l : List (Int × α)} (hn : (keys l).Nodup) {k : Int} {v : α} {p : Int × α} (h : p ∈ put l k v) : p = (k, v) ∨ (p ∈ l ∧ p.1 ≠ k) := by
  induction l with
  | nil => exact .inl (List.mem_singleton.1 h)
  | cons q l ih =>
    simp only [keys, List.map_cons, List.nodup_cons] at hn
    rw [put_cons] at h
    by_cases c : q.1 = k
    · rw [if_pos c] at h
      rcases List.mem_cons.1 h with h | h
      · exact .inl h
      · refine .inr ⟨List.mem_cons_of_mem _ h, fun e => hn.1 ?_⟩
        rw [c, ← e]
        exact List.mem_map.2 ⟨p, h, rfl⟩
    · rw [if_neg c] at h
      rcases List.mem_cons.1 h with h | h
      · rw [h]; exact .inr ⟨List.mem_cons_self .., c⟩
      · rcases ih hn.2 h with h | h
        · exact .inl h
        · exact .inr ⟨List.mem_cons_of_mem _ h.1, h.2⟩
theorem pw_put {α : Type} {R : (Int × α) → (Int × α) → Prop} (hs : ∀ {a b}, R a b → R b a) {l : List (Int × α)} (h : l.Pairwise R) (hn : (keys l).Nodup) {k : Int} {v : α} (hv : ∀ q ∈ l, q.1 ≠ k → R (k, v) q) : (put l k v).Pairwise R := by
  induction l with
  | nil => exact List.pairwise_singleton ..
  | cons q l ih =>
    obtain ⟨h1, h2⟩ := List.pairwise_cons.1 h
    have hn0 := hn
    simp only [keys, List.map_cons, List.nodup_cons] at hn
    rw [put_cons]
    by_cases c : q.1 = k
    · rw [if_pos c]
      refine List.pairwise_cons.2 ⟨fun p hp => hv p (List.mem_cons_of_mem _ hp) (fun e => hn.1 ?_), h2⟩
      rw [c, ← e]
      exact List.mem_map.2 ⟨p, hp, rfl⟩
    · rw [if_neg c]
      refine List.pairwise_cons.2 ⟨fun p hp => ?_, ih h2 hn.2 (fun p hp => hv p (List.mem_cons_of_mem _ hp))⟩
      rcases mem_put hn.2 hp with e | hp
      · rw [e]; exact hs (hv q (List.mem_cons_self ..) c)
      · exact h1 p hp.1
theorem mem_del {α : Type} {l : List (Int × α)} (hn : (keys l).Nodup) {k : Int} {p : Int × α} (h : p ∈ del l k) : p ∈ l ∧ p.1 ≠ k := by
  have h1 : get (del l k) p.1 = some p.2 := mem_get (nodup_del hn k) h
  rw [get_del hn] at h1
  split at h1
  · cases h1
  · rename_i c
    exact ⟨get_mem h1, c⟩
theorem pw_del {α : Type} {R : (Int × α) → (Int × α) → Prop} {l : List (Int × α)} (h : l.Pairwise R) (k : Int) : (del l k).Pairwise R := by
  unfold del
  split
  · exact h.sublist (List.eraseIdx_sublist ..)
  · exact h
/-- A value laid at a key that has the same pointer leaves the map's own entries. -/
theorem vals_put_same {l : List (Int × Ent)} {k : Int} {e e' : Ent} (hg : get l k = some e) (hp : e'.ptr = e.ptr) : vals Ent.ptr (put l k e') = vals Ent.ptr l := by
  induction l with
  | nil => cases hg
  | cons q l ih =>
    rw [get_cons] at hg
    rw [put_cons]
    by_cases c : q.1 = k
    · rw [if_pos c] at hg ⊢
      have e1 : q.2 = e := Option.some.inj hg
      simp [vals, hp, ← e1, c]
    · rw [if_neg c] at hg ⊢
      have := ih hg
      simp only [vals, List.map_cons] at this ⊢
      rw [this]
section
variable {w w1 : World} {g bm : Nat} {S S' : Nat → Prop} {s s' : DS} {es : List (Int × Ent)}
theorem DkI.nodup (h : DkI w g S s bm es) : (keys es).Nodup := by
  have := h.im.nodup
  rwa [keys_vals] at this
theorem DkI.move (h : DkI w g S s bm es) (hm : ∀ k, S k → k < w.heap.size → w1.heap[k]? = w.heap[k]?) : DkI w1 g S s bm es where
  gc := (hm g h.sg (blk_lt h.gc)).trans h.gc
  im := h.im.move (hm bm h.sm h.im.lt)
  sg := h.sg
  sm := h.sm
  fc := fun p hp => (hm _ (h.fs p hp).1 (blk_lt (h.fc p hp))).trans (h.fc p hp)
  fb := fun p hp => (h.fb p hp).move fun k hk => hm k ((h.fs p hp).2 k hk) ((h.fb p hp).lt k hk)
  fs := h.fs
  pw := h.pw
  mir := h.mir
  ok := h.ok
theorem DkI.mono (h : DkI w g S s bm es) (hS : ∀ k, S k → S' k) : DkI w g S' s bm es := { h with sg := hS _ h.sg, sm := hS _ h.sm, fs := fun p hp => ⟨hS _ (h.fs p hp).1, fun k hk => hS _ ((h.fs p hp).2 k hk)⟩ }
theorem Dk.move (h : Dk w g S s) (hm : ∀ k, S k → k < w.heap.size → w1.heap[k]? = w.heap[k]?) : Dk w1 g S s := by
  obtain ⟨bm, es, h⟩ := h
  exact ⟨bm, es, h.move hm⟩
theorem Dk.below (h : Dk w g S s) (hb : Below w.heap.size w w1) : Dk w1 g S s := h.move fun k _ hk => hb.block k hk
theorem Dk.mono (h : Dk w g S s) (hS : ∀ k, S k → S' k) : Dk w g S' s := by
  obtain ⟨bm, es, h⟩ := h
  exact ⟨bm, es, h.mono hS⟩
theorem Dk.ok (h : Dk w g S s) : OK s := by
  obtain ⟨bm, es, h⟩ := h
  exact h.ok
theorem Dk.lt (h : Dk w g S s) : g < w.heap.size := by
  obtain ⟨bm, es, h⟩ := h
  exact blk_lt h.gc
theorem Dk.sg (h : Dk w g S s) : S g := by
  obtain ⟨bm, es, h⟩ := h
  exact h.sg
/-- The dock's own cells turn. -/
theorem DkI.setG (h : DkI w g S s bm es) (hg : w1.heap[g]? = some (.cells #[.map (some bm), .int .i64 s'.cap, .int .i64 s'.left, .bool s'.down] 84 (0, 0))) (hf : ∀ k, k ≠ g → w1.heap[k]? = w.heap[k]?) (hM : s'.M = s.M) (hk : OK s') : DkI w1 g S s' bm es where
  gc := hg
  im := h.im.move (hf bm (h.im.ne h.gc))
  sg := h.sg
  sm := h.sm
  fc := fun p hp => (hf _ (fun e => by have h1 := h.fc p hp; have h2 := h.gc; rw [e, h2] at h1; simp only [Option.some.injEq, Obj.cells.injEq] at h1; exact absurd h1.2.1 (by decide))).trans (h.fc p hp)
  fb := fun p hp => (h.fb p hp).move fun k hk => hf k ((h.fb p hp).ne h.gc (by decide) k hk)
  fs := h.fs
  pw := h.pw
  mir := fun k => by rw [hM]; exact h.mir k
  ok := hk
theorem DkI.mem (h : DkI w g S s bm es) {k : Int} {e : Ent} (hg : get es k = some e) : (k, e) ∈ es := get_mem hg
theorem DkI.ne_f (h : DkI w g S s bm es) {p : Int × Ent} (hp : p ∈ es) : p.2.f ≠ g ∧ p.2.f ≠ bm := by
  refine ⟨fun e => ?_, fun e => ?_⟩
  · have h1 := h.fc p hp
    have h2 := h.gc
    rw [e, h2] at h1
    simp only [Option.some.injEq, Obj.cells.injEq] at h1
    exact absurd h1.2.1 (by decide)
  · exact h.im.ne (h.fc p hp) e.symm
theorem DkI.ne_row (h : DkI w g S s bm es) {p q : Int × Ent} (hp : p ∈ es) (hq : q ∈ es) {k : Nat} (hk : p.2.v.ownBlock = some k) : k ≠ g ∧ k ≠ bm ∧ k ≠ q.2.f := by
  obtain ⟨es', c, hb, _⟩ := h.im
  exact ⟨(h.fb p hp).ne h.gc (by decide) k hk, (h.fb p hp).ne_map hb k hk, (h.fb p hp).ne (h.fc q hq) (by decide) k hk⟩
theorem DkI.apart (h : DkI w g S s bm es) {p q : Int × Ent} (hp : p ∈ es) (hq : q ∈ es) (hne : p.1 ≠ q.1) : Dk.apart p q := pairwise_at (fun h => h.symm) h.pw hp hq (fun e => hne (by rw [e]))
/-- A file is laid, or turns. -/
theorem DkI.put (h : DkI w g S s bm es) (k : Int) (e : Ent) (hS : ∀ x, S x → S' x)
    (gc : w1.heap[g]? = some (.cells #[.map (some bm), .int .i64 s'.cap, .int .i64 s'.left, .bool s'.down] 84 (0, 0))) (im : IM .i64 w1 bm (vals Ent.ptr (put es k e)))
    (fc : w1.heap[e.f]? = some (.cells #[e.v, .int .i64 (e.s : Int)] 87 (0, 0))) (fb : BW w1 e.v e.b) (fs : S' e.f ∧ ∀ b, e.v.ownBlock = some b → S' b)
    (hoth : ∀ q ∈ es, q.1 ≠ k → w1.heap[q.2.f]? = w.heap[q.2.f]? ∧ ∀ b, q.2.v.ownBlock = some b → w1.heap[b]? = w.heap[b]?)
    (hap : ∀ q ∈ es, q.1 ≠ k → Dk.apart (k, e) q) (hM : s'.M = ins s.M k (e.b, e.s)) (ok : OK s') : DkI w1 g S' s' bm (put es k e) where
  gc := gc
  im := im
  sg := hS _ h.sg
  sm := hS _ h.sm
  fc := fun p hp => by
    rcases mem_put h.nodup hp with rfl | ⟨hp, hk⟩
    · exact fc
    · exact (hoth p hp hk).1.trans (h.fc p hp)
  fb := fun p hp => by
    rcases mem_put h.nodup hp with rfl | ⟨hp, hk⟩
    · exact fb
    · exact (h.fb p hp).move (hoth p hp hk).2
  fs := fun p hp => by
    rcases mem_put h.nodup hp with rfl | ⟨hp, hk⟩
    · exact fs
    · exact ⟨hS _ (h.fs p hp).1, fun b hb => hS _ ((h.fs p hp).2 b hb)⟩
  pw := pw_put (fun h => h.symm) h.pw h.nodup hap
  mir := fun j => by
    rw [hM, get_ins h.ok.asc, get_put, h.mir]
    split <;> rfl
  ok := ok
theorem DkI.del (h : DkI w g S s bm es) (k : Int)
    (gc : w1.heap[g]? = some (.cells #[.map (some bm), .int .i64 s'.cap, .int .i64 s'.left, .bool s'.down] 84 (0, 0))) (im : IM .i64 w1 bm (vals Ent.ptr (del es k)))
    (hoth : ∀ b, b ≠ g → b ≠ bm → w1.heap[b]? = w.heap[b]?) (hM : s'.M = rem s.M k) (ok : OK s') : DkI w1 g S s' bm (IMap.del es k) where
  gc := gc
  im := im
  sg := h.sg
  sm := h.sm
  fc := fun p hp => by
    obtain ⟨hp, _⟩ := mem_del h.nodup hp
    exact (hoth _ (h.ne_f hp).1 (h.ne_f hp).2).trans (h.fc p hp)
  fb := fun p hp => by
    obtain ⟨hp, _⟩ := mem_del h.nodup hp
    exact (h.fb p hp).move fun b hb => hoth b (h.ne_row hp hp hb).1 (h.ne_row hp hp hb).2.1
  fs := fun p hp => h.fs p (mem_del h.nodup hp).1
  pw := pw_del h.pw k
  mir := fun j => by
    rw [hM, get_rem, get_del h.nodup, h.mir]
    split <;> rfl
  ok := ok
end
theorem At1.drew {g : Nat} {w w1 : World} (h : At1 g w w1) : At1 g w w1.drew := ⟨below_drew h.1, h.2.1, h.2.2⟩
theorem At1.drewN {g : Nat} {w w1 : World} (h : At1 g w w1) (n : Nat) : At1 g w (w1.drewN n) := ⟨pw_below_drewN h.1 n, h.2.1, h.2.2⟩
theorem apart_of {k k' : Int} {e e' : Ent} {q : Int × Ent} (hf : e'.f = e.f) (hv : e'.v.ownBlock = e.v.ownBlock) (h : Dk.apart (k, e) q) : Dk.apart (k', e') q := ⟨fun x => h.1 (hf.symm.trans x), fun j hj => h.2 j (hv.symm.trans hj)⟩
/-- One file's own cells turn. -/
theorem DkI.turnF {w W : World} {g bm : Nat} {S : Nat → Prop} {s : DS} {es : List (Int × Ent)} (h : DkI w g S s bm es) {k : Int} {e : Ent} (hge : get es k = some e) (e' : Ent) (hf : e'.f = e.f) (hv : e'.v.ownBlock = e.v.ownBlock) (hA : At1 e.f w W)
    (hc : W.heap[e.f]? = some (.cells #[e'.v, .int .i64 (e'.s : Int)] 87 (0, 0))) (hb : BW w e'.v e'.b) (hok : OK { s with M := ins s.M k (e'.b, e'.s) }) : DkI W g S { s with M := ins s.M k (e'.b, e'.s) } bm (IMap.put es k e') := by
  have hmem := get_mem hge
  refine h.put (s' := { s with M := ins s.M k (e'.b, e'.s) }) k e' (fun _ h => h) ((hA.2.2 g (fun e => (h.ne_f hmem).1 e.symm)).trans h.gc) ?_ (by rw [hf]; exact hc) ?_ ⟨by rw [hf]; exact (h.fs _ hmem).1, fun b hb => (h.fs _ hmem).2 b (by rw [← hv]; exact hb)⟩ (fun q hq hne => ?_) (fun q hq hne => apart_of (e := e) hf hv (h.apart hmem hq (fun e => hne e.symm))) rfl hok
  · rw [vals_put_same (e' := e') hge (by unfold Ent.ptr; rw [hf])]
    exact h.im.move (hA.2.2 bm (fun e => (h.ne_f hmem).2 e.symm))
  · exact hb.move fun j hj => hA.2.2 j (h.ne_row hmem hmem (by show e.v.ownBlock = some j; rw [← hv]; exact hj)).2.2
  · exact ⟨hA.2.2 _ (fun e => (h.apart hmem hq (fun e => hne e.symm)).1 e.symm), fun j hj => hA.2.2 j (h.ne_row hq hmem hj).2.2⟩
theorem own_len {A : Option Addr} {n c n' c' : Nat} : (Value.slice A n c).ownBlock = (Value.slice A n' c').ownBlock := by cases A <;> rfl
/-! What a dock's turns keep. -/
theorem stepS_M (s : DS) : (stepS s).M = s.M ∧ (stepS s).cap = s.cap := by
  unfold stepS
  split
  · exact ⟨rfl, rfl⟩
  · split <;> exact ⟨rfl, rfl⟩
theorem ok_step {s : DS} (h : OK s) : OK (stepS s) := by
  have h1 := h.left0
  have h2 := h.left1
  unfold stepS
  split
  · exact { h with left0 := by show -1 ≤ s.left - 1; omega, left1 := by show s.left - 1 < _; omega }
  · split
    · exact { h with }
    · exact h
theorem ok_ins {s : DS} (h : OK s) (k : Int) (b : List Int) (n : Nat) (hkk : 0 ≤ k ∧ k ≤ 999999) (hn : n ≤ b.length) (hz : size (ins s.M k (b, n)) ≤ 16777216) : OK { s with M := ins s.M k (b, n) } :=
  { h with asc := asc_ins h.asc k _, safe := (fun p hp => by
      rcases mem_ins hp with rfl | hp
      · exact hn
      · exact h.safe p hp), names := (fun p hp => by
      rcases mem_ins hp with rfl | hp
      · exact hkk
      · exact h.names p hp), size := hz }
theorem ok_name {s : DS} (h : OK s) {k : Int} {x : List Int × Nat} (hg : get s.M k = some x) : 0 ≤ k ∧ k ≤ 999999 := h.names _ (get_mem hg)
theorem ok_rem {s : DS} (h : OK s) (k : Int) : OK { s with M := rem s.M k } :=
  { h with asc := asc_rem h.asc k, safe := fun p hp => h.safe p (List.mem_filter.1 hp).1, names := fun p hp => h.names p (List.mem_filter.1 hp).1, size := Nat.le_trans (size_rem_le _ _) h.size }
end Go.Proofs.Ytoimpjmoikjibaa.Dk
