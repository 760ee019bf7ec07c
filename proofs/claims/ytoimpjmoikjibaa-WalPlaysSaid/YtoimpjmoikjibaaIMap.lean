import Derived.Maps.OwnSet
import Derived.Maps.OwnOps
import Derived.Maps.RangeWalk
import Derived.MapKept
import Derived.Test.YtoimpjmoikjibaaWWords
import Derived.Test.YtoimpjmoikjibaaWKept
namespace Go.Proofs.Ytoimpjmoikjibaa.IMap
open Go Go.RowKit Go.MapKept Go.ChangeMaps Go.Proofs.YtoimpjmoikjibaaW.PrintWords
set_option linter.unusedVariables false
set_option linter.unusedSimpArgs false

/-- What stands at a key. -/
def get {α : Type} (l : List (Int × α)) (k : Int) : Option α := (l.find? fun p => p.1 == k).map Prod.snd
def put {α : Type} (l : List (Int × α)) (k : Int) (v : α) : List (Int × α) :=
  match l.findIdx? fun p => p.1 == k with
  | some j => l.set j (k, v)
  | none => l ++ [(k, v)]
def del {α : Type} (l : List (Int × α)) (k : Int) : List (Int × α) :=
  match l.findIdx? fun p => p.1 == k with
  | some j => l.eraseIdx j
  | none => l
def keys {α : Type} (l : List (Int × α)) : List Int := l.map Prod.fst
/-- The entries, their values told otherwise. -/
def vals {α β : Type} (f : α → β) (l : List (Int × α)) : List (Int × β) := l.map fun p => (p.1, f p.2)
theorem idx_vals {α β : Type} (f : α → β) (l : List (Int × α)) (k : Int) : ((vals f l).findIdx? fun p => p.1 == k) = l.findIdx? fun p => p.1 == k := by
  unfold vals
  rw [List.findIdx?_map]
  rfl
theorem get_vals {α β : Type} (f : α → β) (l : List (Int × α)) (k : Int) : get (vals f l) k = (get l k).map f := by
  unfold get vals
  rw [List.find?_map]
  simp [Function.comp_def]
theorem put_vals {α β : Type} (f : α → β) (l : List (Int × α)) (k : Int) (v : α) : put (vals f l) k (f v) = vals f (put l k v) := by
  unfold put
  rw [idx_vals]
  cases l.findIdx? fun p => p.1 == k with
  | none => simp [vals]
  | some j => simp [vals, List.map_set]
theorem del_vals {α β : Type} (f : α → β) (l : List (Int × α)) (k : Int) : del (vals f l) k = vals f (del l k) := by
  unfold del
  rw [idx_vals]
  cases l.findIdx? fun p => p.1 == k with
  | none => rfl
  | some j => simp [vals, ChangeMaps.map_eraseIdx]
theorem keys_vals {α β : Type} (f : α → β) (l : List (Int × α)) : keys (vals f l) = keys l := by simp [keys, vals, Function.comp_def]
theorem get_isSome {α : Type} {l : List (Int × α)} {k : Int} : (get l k).isSome = true ↔ k ∈ keys l := by
  unfold get keys
  rw [Option.isSome_map, List.find?_isSome]
  simp
theorem get_none {α : Type} {l : List (Int × α)} {k : Int} : get l k = none ↔ k ∉ keys l := by
  rw [← get_isSome (l := l)]
  cases get l k <;> simp
theorem get_nil {α : Type} (k : Int) : get ([] : List (Int × α)) k = none := rfl
theorem get_cons {α : Type} (p : Int × α) (l : List (Int × α)) (k : Int) : get (p :: l) k = if p.1 = k then some p.2 else get l k := by
  unfold get
  rw [List.find?_cons]
  by_cases c : p.1 = k
  · simp [c]
  · have e : (p.1 == k) = false := by simp [c]
    rw [e, if_neg c]
theorem get_mem {α : Type} {l : List (Int × α)} {k : Int} {v : α} (h : get l k = some v) : (k, v) ∈ l := by
  unfold get at h
  rw [Option.map_eq_some_iff] at h
  obtain ⟨p, hp, rfl⟩ := h
  have h1 := List.mem_of_find?_eq_some hp
  have h2 := List.find?_some hp
  have e : p.1 = k := by simpa using h2
  rw [← e]; exact h1
theorem mem_get {α : Type} {l : List (Int × α)} (hn : (keys l).Nodup) {k : Int} {v : α} (h : (k, v) ∈ l) : get l k = some v := by
  induction l with
  | nil => simp at h
  | cons p l ih =>
    rw [get_cons]
    simp only [keys, List.map_cons, List.nodup_cons] at hn
    rcases List.mem_cons.1 h with e | h'
    · subst e; simp
    · have hk : k ∈ l.map Prod.fst := List.mem_map.2 ⟨_, h', rfl⟩
      rw [if_neg (fun e : p.1 = k => hn.1 (by rw [e]; exact hk)), ih hn.2 h']
theorem put_cons {α : Type} (p : Int × α) (l : List (Int × α)) (k : Int) (v : α) : put (p :: l) k v = if p.1 = k then (k, v) :: l else p :: put l k v := by
  unfold put
  rw [List.findIdx?_cons]
  by_cases c : p.1 = k
  · simp [c]
  · have e : (p.1 == k) = false := by simp [c]
    rw [e, if_neg c]
    cases l.findIdx? fun p => p.1 == k with
    | none => rfl
    | some j => rfl
theorem del_cons {α : Type} (p : Int × α) (l : List (Int × α)) (k : Int) : del (p :: l) k = if p.1 = k then l else p :: del l k := by
  unfold del
  rw [List.findIdx?_cons]
  by_cases c : p.1 = k
  · simp [c]
  · have e : (p.1 == k) = false := by simp [c]
    rw [e, if_neg c]
    cases l.findIdx? fun p => p.1 == k with
    | none => rfl
    | some j => rfl
theorem get_put {α : Type} (l : List (Int × α)) (k x : Int) (v : α) : get (put l k v) x = if x = k then some v else get l x := by
  induction l with
  | nil =>
    show get [(k, v)] x = _
    rw [get_cons]
    by_cases c : x = k
    · rw [if_pos c.symm, if_pos c]
    · rw [if_neg (fun e => c e.symm), if_neg c]
  | cons p l ih =>
    rw [put_cons]
    by_cases c : p.1 = k
    · rw [if_pos c, get_cons, get_cons]
      by_cases d : x = k
      · rw [if_pos d.symm, if_pos d]
      · rw [if_neg (fun e => d e.symm), if_neg d, if_neg (fun e => d (e.symm.trans c))]
    · rw [if_neg c, get_cons, ih, get_cons]
      by_cases d : p.1 = x
      · rw [if_pos d, if_neg (fun e => c (d.trans e)), if_pos d]
      · rw [if_neg d, if_neg d]
theorem get_del {α : Type} {l : List (Int × α)} (hn : (keys l).Nodup) (k x : Int) : get (del l k) x = if x = k then none else get l x := by
  induction l with
  | nil => show none = _; split <;> rfl
  | cons p l ih =>
    simp only [keys, List.map_cons, List.nodup_cons] at hn
    rw [del_cons]
    by_cases c : p.1 = k
    · rw [if_pos c, get_cons]
      by_cases d : x = k
      · rw [if_pos d]; rw [d]; exact get_none.2 (c ▸ hn.1)
      · rw [if_neg d, if_neg (fun e => d (e.symm.trans c))]
    · rw [if_neg c, get_cons, ih hn.2, get_cons]
      by_cases d : p.1 = x
      · rw [if_pos d, if_neg (fun e => c (d.trans e)), if_pos d]
      · rw [if_neg d, if_neg d]
theorem keys_cons {α : Type} (p : Int × α) (l : List (Int × α)) : keys (p :: l) = p.1 :: keys l := rfl
theorem keys_put {α : Type} (l : List (Int × α)) (k : Int) (v : α) : keys (put l k v) = if k ∈ keys l then keys l else keys l ++ [k] := by
  induction l with
  | nil => rfl
  | cons p l ih =>
    rw [put_cons]
    by_cases c : p.1 = k
    · rw [if_pos c, keys_cons, keys_cons, if_pos (by simp [c]), c]
    · rw [if_neg c, keys_cons, keys_cons, ih]
      by_cases d : k ∈ keys l
      · rw [if_pos d, if_pos (List.mem_cons_of_mem _ d)]
      · rw [if_neg d, if_neg (by intro e; rcases List.mem_cons.1 e with e | e; exact c e.symm; exact d e)]; rfl
theorem keys_del {α : Type} (l : List (Int × α)) (k : Int) : keys (del l k) = (keys l).erase k := by
  induction l with
  | nil => rfl
  | cons p l ih =>
    rw [del_cons]
    simp only [keys, List.map_cons] at ih ⊢
    rw [List.erase_cons]
    by_cases c : p.1 = k
    · rw [if_pos c, if_pos (by simp [c])]
    · rw [if_neg c, if_neg (by simp [c])]; simp [ih]
theorem nodup_put {α : Type} {l : List (Int × α)} (hn : (keys l).Nodup) (k : Int) (v : α) : (keys (put l k v)).Nodup := by
  rw [keys_put]
  split
  · exact hn
  · rename_i h
    rw [List.nodup_append]
    exact ⟨hn, by simp, fun a ha b hb => by rw [List.mem_singleton.1 hb]; exact fun e => h (e ▸ ha)⟩
theorem nodup_del {α : Type} {l : List (Int × α)} (hn : (keys l).Nodup) (k : Int) : (keys (del l k)).Nodup := by
  rw [keys_del]; exact hn.erase k

/-- Block b is a map, keyed by whole numbers of kind q, of these entries (in the order in which they were laid). -/
def IM (q : IntKind) (w : World) (b : Nat) (l : List (Int × Value)) : Prop :=
  ∃ es clock, w.heap[b]? = some (.map es clock) ∧ Stamped es clock ∧ es.toList.map (fun e => (e.key, e.val)) = l.map (fun p => (Value.int q p.1, p.2))

variable {q : IntKind} {w w1 : World} {b : Nat} {l : List (Int × Value)} {P : Program}

theorem IM.lt (h : IM q w b l) : b < w.heap.size := by
  obtain ⟨es, clock, hb, _⟩ := h
  exact (Array.getElem?_eq_some_iff.1 hb).1
theorem IM.move (h : IM q w b l) (hm : w1.heap[b]? = w.heap[b]?) : IM q w1 b l := by
  obtain ⟨es, clock, hb, r⟩ := h
  exact ⟨es, clock, hm.trans hb, r⟩
theorem IM.below (h : IM q w b l) (hb : Below w.heap.size w w1) : IM q w1 b l := h.move (hb.block b h.lt)
theorem IM.alloc (h : IM q w b l) (o : Obj) : IM q (w.alloc o) b l := h.below (below_alloc (Below.refl _ _) o)
theorem IM.drewN (h : IM q w b l) (n : Nat) : IM q (w.drewN n) b l := h
theorem IM.drew (h : IM q w b l) : IM q w.drew b l := h
theorem IM.setCell (h : IM q w b l) {p : Addr} (hp : b ≠ p.block) (u : Value) : IM q (w.setCell p u) b l := h.move (Below.heap_setCell w p u b hp)
theorem IM.made (w : World) : IM q (w.alloc (.map #[] 0)) w.heap.size [] :=
  ⟨#[], 0, (MapKept.heap_alloc w _).1, stamped_empty 0, rfl⟩
/-- A block of cells is no map. -/
theorem IM.ne (h : IM q w b l) {g : Nat} {cs : Array Value} {t : TypeId} {m : Nat × Nat} (hg : w.heap[g]? = some (.cells cs t m)) : b ≠ g := by
  rintro rfl
  obtain ⟨es, clock, hb, _⟩ := h
  rw [hg] at hb
  cases hb
theorem IM.nodup (h : IM q w b l) : (keys l).Nodup := by
  obtain ⟨es, clock, _, ⟨_, _, h3⟩, he⟩ := h
  have e : es.toList.map (·.key) = (keys l).map (fun k => Value.int q k) := by
    have := congrArg (List.map Prod.fst) he
    simpa [keys, List.map_map, Function.comp_def] using this
  rw [e] at h3
  exact (List.pairwise_map.1 h3).imp fun hne e => hne (by rw [e])
theorem find_spec (q : IntKind) (k : Int) : ∀ (es : List MapEntry) (l : List (Int × Value)) (i : Nat), es.map (fun e => (e.key, e.val)) = l.map (fun p => (Value.int q p.1, p.2)) →
    Instr.findNow (.int q) (.int q k) es i = some (match l.findIdx? fun p => p.1 == k with | some j => some (i + j, (l.getD j (0, undef)).2) | none => none)
  | [], [], _, _ => rfl
  | [], _ :: _, _, h => by simp at h
  | _ :: _, [], _, h => by simp at h
  | e :: es, p :: l, i, h => by
    simp only [List.map_cons, List.cons.injEq, Prod.mk.injEq] at h
    obtain ⟨⟨h1, h2⟩, h3⟩ := h
    have ih := find_spec q k es l (i + 1) h3
    simp only [Instr.findNow, h1, Instr.sameNow, if_true]
    by_cases c : p.1 = k
    · have e1 : (k == p.1) = true := by simp [c]
      have e2 : (p.1 == k) = true := by simp [c]
      simp [e1, List.findIdx?_cons, e2, h2]
    · have e1 : (k == p.1) = false := by simp; exact fun x => c x.symm
      have e2 : (p.1 == k) = false := by simp [c]
      rw [e1]
      simp only [ih, List.findIdx?_cons, e2]
      cases l.findIdx? fun p => p.1 == k with
      | none => rfl
      | some j => simp; omega
theorem get_idx (l : List (Int × Value)) (k : Int) : get l k = (l.findIdx? fun p => p.1 == k).map fun j => (l.getD j (0, undef)).2 := by
  unfold get
  induction l with
  | nil => rfl
  | cons p l ih =>
    rw [List.find?_cons, List.findIdx?_cons]
    by_cases c : (p.1 == k) = true
    · simp [c]
    · have c' : (p.1 == k) = false := by simpa using c
      rw [c', ih]
      cases l.findIdx? fun p => p.1 == k with
      | none => rfl
      | some j => rfl
theorem isKey (q : IntKind) (k : Int) : IsKey (.int q) (.int q k) := by simp [IsKey]

/-- 'm[k]', 'v, ok := m[k]'. -/
theorem IM.lookup (h : IM q w b l) {t kt et : TypeId} (ht : P.underlying t = some (.map kt et)) (hk : P.underlying kt = some (.int q)) {z : Value} (hz : (zeroValue et).run P w = .ok z w) (k : Int) (c : Bool) :
    (Instr.lookup t (.map (some b)) (.int q k) c).run P w = .ok (if c then .tuple #[(get l k).getD z, .bool (get l k).isSome] else (get l k).getD z) w := by
  obtain ⟨es, clock, hb, _, he⟩ := h
  have hf := find_spec q k es.toList l 0 he
  rw [get_idx]
  cases hi : l.findIdx? fun p => p.1 == k with
  | none =>
    rw [hi] at hf
    simp [Instr.lookup, run_underlying ht, MapKept.run_getObj_map hb, MapKept.run_checkKey hk (isKey q k), MapKept.run_findKey hk hf, hz, Result.andThen]
  | some j =>
    rw [hi] at hf
    simp [Instr.lookup, run_underlying ht, MapKept.run_getObj_map hb, MapKept.run_checkKey hk (isKey q k), MapKept.run_findKey hk hf, Result.andThen]
theorem idx_lt {l : List (Int × Value)} {k : Int} {j : Nat} (h : (l.findIdx? fun p => p.1 == k) = some j) : ∃ hj : j < l.length, (l[j]).1 = k := by
  obtain ⟨hj, h1, _⟩ := List.findIdx?_eq_some_iff_getElem.1 h
  exact ⟨hj, by simpa using h1⟩
theorem ents_len {es : List MapEntry} {l : List (Int × Value)} (he : es.map (fun e => (e.key, e.val)) = l.map (fun p => (Value.int q p.1, p.2))) : es.length = l.length := by
  have := congrArg List.length he
  simpa using this
theorem idx_none {l : List (Int × Value)} {k : Int} (h : (l.findIdx? fun p => p.1 == k) = none) : ∀ p ∈ l, p.1 ≠ k := by
  intro p hp
  have := List.findIdx?_eq_none_iff.1 h p hp
  simpa using this
/-- 'm[k] = v'. -/
theorem IM.update (h : IM q w b l) {t kt et : TypeId} (ht : P.underlying t = some (.map kt et)) (hk : P.underlying kt = some (.int q)) (k : Int) (v : Value) :
    ∃ o, (Instr.mapUpdate t (.map (some b)) (.int q k) v).run P w = .ok () (setBlock w b o) ∧ IM q (setBlock w b o) b (put l k v) := by
  obtain ⟨es, clock, hb, hst, he⟩ := h
  have hf := find_spec q k es.toList l 0 he
  unfold put
  cases hi : l.findIdx? fun p => p.1 == k with
  | none =>
    rw [hi] at hf
    refine ⟨.map (es.push ⟨.int q k, v, clock⟩) (clock + 1), ?_, ⟨_, _, heap_setBlock_same hb _, stamped_push hst ?_, ?_⟩⟩
    · simp [Instr.mapUpdate, run_underlying ht, MapKept.run_getObj_map hb, MapKept.run_checkKey hk (isKey q k), MapKept.run_findKey hk hf, MapKept.run_setObj_map _ hb, Result.andThen, setBlock]
    · intro x hx hxk
      have hm : (x.key, x.val) ∈ l.map (fun p => (Value.int q p.1, p.2)) := he ▸ List.mem_map.2 ⟨x, hx, rfl⟩
      obtain ⟨p, hp, e⟩ := List.mem_map.1 hm
      simp only [Prod.mk.injEq] at e
      rw [hxk] at e
      exact idx_none hi p hp (by simpa using e.1)
    · simp [he]
  | some j =>
    rw [hi] at hf
    obtain ⟨hj, hjk⟩ := idx_lt hi
    have hjs : j < es.toList.length := by rw [ents_len he]; exact hj
    have hjs' : j < es.size := by simpa using hjs
    have hkey : (es[j]).key = .int q k := by
      have h1 := congrArg (fun x => x[j]?) he
      simp only [List.getElem?_map, List.getElem?_eq_getElem hjs, List.getElem?_eq_getElem hj, Option.map_some, Option.some.injEq, Prod.mk.injEq] at h1
      rw [hjk] at h1
      simpa using h1.1
    refine ⟨.map (es.modify j fun e => { e with key := .int q k, val := v }) clock, ?_, ⟨_, _, heap_setBlock_same hb _, ?_, ?_⟩⟩
    · have hs : Instr.sameBits 10000 (.int q k) (.int q k) = true := by simp [Instr.sameBits]
      simp [Instr.mapUpdate, run_underlying ht, MapKept.run_getObj_map hb, MapKept.run_checkKey hk (isKey q k), MapKept.run_findKey hk hf, MapKept.run_setObj_map _ hb, Result.andThen, setBlock, Instr.keyThatStays, hkey, hjs', hs]
    · refine stamped_modify hst j _ (fun e _ => rfl) (fun e _ he' => ?_)
      rw [Array.getElem?_eq_getElem hjs'] at he'
      obtain rfl := Option.some.inj he'
      exact hkey.symm
    · apply List.ext_getElem?
      intro i
      have h1 := congrArg (fun x => x[i]?) he
      simp only [List.getElem?_map, Array.getElem?_toList, Array.getElem?_modify] at h1 ⊢
      by_cases hij : j = i
      · subst hij
        rw [if_pos rfl, Array.getElem?_eq_getElem hjs', List.getElem?_set_self hj]
        rfl
      · rw [if_neg hij, List.getElem?_set_ne hij]
        exact h1
/-- 'delete(m, k)'. -/
theorem IM.delete (h : IM q w b l) {t kt et ty : TypeId} (ht : P.underlying t = some (.map kt et)) (hk : P.underlying kt = some (.int q)) (k : Int) :
    ∃ o, (Builtin.delete_ #[t, kt] ty #[.map (some b), .int q k]).run P w = .ok (.tuple #[]) (setBlock w b o) ∧ IM q (setBlock w b o) b (del l k) := by
  obtain ⟨es, clock, hb, hst, he⟩ := h
  have hf := find_spec q k es.toList l 0 he
  unfold del
  cases hi : l.findIdx? fun p => p.1 == k with
  | none =>
    rw [hi] at hf
    refine ⟨.map es clock, ?_, ⟨_, _, heap_setBlock_same hb _, hst, he⟩⟩
    simp [Builtin.delete_, run_underlying ht, MapKept.run_getObj_map hb, MapKept.run_checkKey hk (isKey q k), MapKept.run_findKey hk hf, MapKept.run_setObj_map _ hb, Result.andThen, setBlock]
  | some j =>
    rw [hi] at hf
    obtain ⟨hj, hjk⟩ := idx_lt hi
    have hjs : j < es.toList.length := by rw [ents_len he]; exact hj
    have hjs' : j < es.size := by simpa using hjs
    have hsub : (es.eraseIdxIfInBounds j).toList = es.toList.eraseIdx j := by
      unfold Array.eraseIdxIfInBounds
      rw [dif_pos hjs']
      simp
    refine ⟨.map (es.eraseIdxIfInBounds j) clock, ?_, ⟨_, _, heap_setBlock_same hb _, stamped_erase hst j, ?_⟩⟩
    · simp [Builtin.delete_, run_underlying ht, MapKept.run_getObj_map hb, MapKept.run_checkKey hk (isKey q k), MapKept.run_findKey hk hf, MapKept.run_setObj_map _ hb, Result.andThen, setBlock]
    · rw [hsub, map_eraseIdx, he, map_eraseIdx]
theorem heap_set_other {b g : Nat} (o : Obj) (h : g ≠ b) (w : World) : (setBlock w b o).heap[g]? = w.heap[g]? := by
  unfold setBlock
  simp [Ne.symm h]
theorem size_set (w : World) (b : Nat) (o : Obj) : (setBlock w b o).heap.size = w.heap.size := by simp [setBlock]
theorem below_set {B : Nat} {w0 w : World} (h : Below B w0 w) {b : Nat} (hb : B ≤ b) (o : Obj) : Below B w0 (setBlock w b o) := by
  refine ⟨h.os, h.tape, h.output, by rw [size_set]; exact h.size, fun i hi => ?_⟩
  rw [heap_set_other o (by omega) w]
  exact h.block i hi

section ops
variable {ops : Array Oper} {rest : List Oper} {o : Oper} {a : Act} {Q : Exit → Act → World → Prop}
theorem at_look (hg : o.guard = none) (m x : Operand) (t : TypeId) (c : Bool) (hop : o.op = Op.lookup t m x c) {kt et : TypeId} (ht : P.underlying t = some (.map kt et)) (hk : P.underlying kt = some (.int q)) {z : Value} (hz : (zeroValue et).run P w = .ok z w)
    (hm : a.eval m = .map (some b)) (h : IM q w b l) (k : Int) (hx : a.eval x = .int q k)
    (hK : wpList P ops Q rest (a.put o.dst (if c then .tuple #[(get l k).getD z, .bool (get l k).isSome] else (get l k).getD z)) w) : wpList P ops Q (o :: rest) a w := by
  refine wpList_plain hg fun K' hK' => ?_
  unfold Oper.wp
  simp only [execOp, hop, hm, hx, h.lookup ht hk hz k c, Result.andThen, Sem.run_bind, Sem.run_pure]
  exact hK' _ _ hK
theorem at_put (hg : o.guard = none) (m x v : Operand) (t : TypeId) (hop : o.op = Op.mapUpdate t m x v) {kt et : TypeId} (ht : P.underlying t = some (.map kt et)) (hk : P.underlying kt = some (.int q))
    (hm : a.eval m = .map (some b)) (h : IM q w b l) (k : Int) (val : Value) (hx : a.eval x = .int q k) (hv : a.eval v = val)
    (hK : ∀ ob, IM q (setBlock w b ob) b (put l k val) → wpList P ops Q rest (a.put o.dst undef) (setBlock w b ob)) : wpList P ops Q (o :: rest) a w := by
  refine wpList_plain hg fun K' hK' => ?_
  obtain ⟨ob, hrun, h1⟩ := h.update ht hk k val
  unfold Oper.wp
  simp [execOp, hop, hm, hx, hv, hrun, Result.andThen]
  exact hK' _ _ (hK ob h1)
theorem at_del (hg : o.guard = none) (m x : Operand) (t kt : TypeId) (hop : o.op = Op.call { callee := Callee.builtin Builtin.delete, args := #[m, x], argTypes := #[t, kt] }) {et : TypeId} (ht : P.underlying t = some (.map kt et)) (hk : P.underlying kt = some (.int q))
    (hm : a.eval m = .map (some b)) (h : IM q w b l) (k : Int) (hx : a.eval x = .int q k)
    (hK : ∀ ob, IM q (setBlock w b ob) b (del l k) → wpList P ops Q rest (a.put o.dst (.tuple #[])) (setBlock w b ob)) : wpList P ops Q (o :: rest) a w := by
  refine wpList_plain hg fun K' hK' => ?_
  obtain ⟨ob, hrun, h1⟩ := h.delete (ty := o.type) ht hk k
  unfold Oper.wp
  simp [execOp, hop, resolve, invoke, builtin, hm, hx, hrun, Result.andThen]
  exact hK' _ _ (hK ob h1)
end ops
end Go.Proofs.Ytoimpjmoikjibaa.IMap
