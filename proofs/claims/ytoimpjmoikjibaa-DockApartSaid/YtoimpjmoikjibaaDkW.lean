/- A dock in memory: its cells, its map, its files, their rows. -/
import Derived.Test.YtoimpjmoikjibaaDkM
import Derived.Test.YtoimpjmoikjibaaBRow
namespace Go.Proofs.Ytoimpjmoikjibaa.Dk
open Go Go.RowKit Go.Proofs.Ytoimpjmoikjibaa.IMap Go.Proofs.YtoimpjmoikjibaaW.PrintWords Go.Proofs.YtoimpjmoikjibaaW.PrintLast Go.Proofs.YtoimpjmoikjibaaW.PrintMore
set_option linter.unusedVariables false
set_option linter.unusedSimpArgs false
structure Ent where
  f : Nat
  v : Value
  b : List Int
  s : Nat
def Ent.ptr (e : Ent) : Value := .pointer (some ⟨e.f, 0, none⟩)
def apart (p q : Int × Ent) : Prop := p.2.f ≠ q.2.f ∧ ∀ k, p.2.v.ownBlock = some k → q.2.v.ownBlock ≠ some k
theorem apart.symm {p q : Int × Ent} (h : apart p q) : apart q p := ⟨fun e => h.1 e.symm, fun k hk e => h.2 k e hk⟩
structure DkI (w : World) (g : Nat) (S : Nat → Prop) (s : DS) (bm : Nat) (es : List (Int × Ent)) : Prop where
  gc : w.heap[g]? = some (.cells #[.map (some bm), .int .i64 s.cap, .int .i64 s.left, .bool s.down] 84 (0, 0))
  im : IM .i64 w bm (vals Ent.ptr es)
  sg : S g
  sm : S bm
  fc : ∀ p ∈ es, w.heap[p.2.f]? = some (.cells #[p.2.v, .int .i64 (p.2.s : Int)] 87 (0, 0))
  fb : ∀ p ∈ es, BW w p.2.v p.2.b
  fs : ∀ p ∈ es, S p.2.f ∧ ∀ k, p.2.v.ownBlock = some k → S k
  pw : es.Pairwise apart
  mir : ∀ k, get s.M k = (get es k).map fun e => (e.b, e.s)
  ok : OK s
/-- A dock, what it may reach (S), and what it is. -/
def Dk (w : World) (g : Nat) (S : Nat → Prop) (s : DS) : Prop := ∃ bm es, DkI w g S s bm es
def Chg (S : Nat → Prop) (w w' : World) : Prop := Below 0 w w' ∧ ∀ k, k < w.heap.size → ¬ S k → w'.heap[k]? = w.heap[k]?
/-- What it may reach, with what has been laid since. -/
def Fr (S : Nat → Prop) (w w' : World) (k : Nat) : Prop := S k ∨ (w.heap.size ≤ k ∧ k < w'.heap.size)
/-- One block alone has turned. -/
def At1 (g : Nat) (w w' : World) : Prop := Below 0 w w' ∧ w'.heap.size = w.heap.size ∧ ∀ k, k ≠ g → w'.heap[k]? = w.heap[k]?
theorem Chg.refl (S : Nat → Prop) (w : World) : Chg S w w := ⟨Below.refl _ _, fun _ _ _ => rfl⟩
theorem Chg.trans {S : Nat → Prop} {w w1 w2 : World} (h : Chg S w w1) (h2 : Chg S w1 w2) : Chg S w w2 := ⟨h.1.trans h2.1, fun k hk hs => (h2.2 k (Nat.lt_of_lt_of_le hk h.1.size) hs).trans (h.2 k hk hs)⟩
theorem Chg.mono {S S' : Nat → Prop} {w w1 : World} (h : Chg S w w1) (hS : ∀ k, S k → S' k) : Chg S' w w1 := ⟨h.1, fun k hk hn => h.2 k hk (fun hs => hn (hS k hs))⟩
theorem Chg.fr {S : Nat → Prop} {w w1 w2 : World} (h : Chg S w w1) (h2 : Chg (Fr S w w1) w1 w2) : Chg S w w2 :=
  ⟨h.1.trans h2.1, fun k hk hs => (h2.2 k (Nat.lt_of_lt_of_le hk h.1.size) (fun hf => by rcases hf with hf | hf; exact hs hf; omega)).trans (h.2 k hk hs)⟩
theorem Chg.below {S : Nat → Prop} {w0 w w1 : World} {B : Nat} (h : Chg S w w1) (hb : Below B w0 w) (hB : B ≤ w.heap.size) (hS : ∀ k, S k → B ≤ k) : Below B w0 w1 :=
  ⟨h.1.os.trans hb.os, h.1.tape.trans hb.tape, h.1.output.trans hb.output, Nat.le_trans hb.size h.1.size, fun k hk => (h.2 k (by omega) (fun hs => by have := hS k hs; omega)).trans (hb.block k hk)⟩
theorem Chg.ofBelow {S : Nat → Prop} {w w1 : World} (h : Below w.heap.size w w1) : Chg S w w1 := ⟨h.mono (Nat.zero_le _), fun k hk _ => h.block k hk⟩
theorem At1.chg {g : Nat} {S : Nat → Prop} {w w1 : World} (h : At1 g w w1) (hS : S g) : Chg S w w1 := ⟨h.1, fun k _ hn => h.2.2 k (fun e => hn (e ▸ hS))⟩
theorem At1.set (w : World) (g o : Nat) (v : Value) : At1 g w (w.setCell ⟨g, o, none⟩ v) := ⟨(Below.refl 0 w).setCell (p := ⟨g, o, none⟩) (Nat.zero_le _) v, World.size_setCell .., fun k hk => Below.heap_setCell w ⟨g, o, none⟩ v k hk⟩
theorem At1.trans {g : Nat} {w w1 w2 : World} (h : At1 g w w1) (h2 : At1 g w1 w2) : At1 g w w2 := ⟨h.1.trans h2.1, h2.2.1.trans h.2.1, fun k hk => (h2.2.2 k hk).trans (h.2.2 k hk)⟩
theorem At1.refl (g : Nat) (w : World) : At1 g w w := ⟨Below.refl _ _, rfl, fun _ _ => rfl⟩
theorem Fr.same {S : Nat → Prop} {w w' : World} (h : w'.heap.size = w.heap.size) {k : Nat} (hk : Fr S w w' k) : S k := by
  rcases hk with hk | hk
  · exact hk
  · omega
theorem pairwise_at {α : Type} {R : α → α → Prop} (hs : ∀ {a b}, R a b → R b a) {l : List α} (h : l.Pairwise R) {a b : α} (ha : a ∈ l) (hb : b ∈ l) (hne : a ≠ b) : R a b := by
  induction l with
  | nil => cases ha
  | cons x l ih =>
    obtain ⟨h1, h2⟩ := List.pairwise_cons.1 h
    rcases List.mem_cons.1 ha with ea | ha
    · rcases List.mem_cons.1 hb with eb | hb
      · exact absurd (ea.trans eb.symm) hne
      · rw [ea]; exact h1 b hb
    · rcases List.mem_cons.1 hb with eb | hb
      · rw [eb]; exact hs (h1 a ha)
      · exact ih h2 ha hb
theorem mem_put {α : Type} {l : List (Int × α)} (hn : (keys l).Nodup) {k : Int} {v : α} {p : Int × α} (h : p ∈ put l k v) : p = (k, v) ∨ (p ∈ l ∧ p.1 ≠ k) := by
  induction l with
  | nil => exact .inl (List.mem_singleton.1 h)
  | cons q l ih =>
    simp only [keys, List.map_cons, List.nodup_cons] at hn
    rw [put_cons] at h
    by_cases c : q.1 = k
    · rw [if_pos c] at h
      rcases List.mem_cons.1 h with h | h
      · exact .inl h
      · refine .inr ⟨List.mem_cons_of_mem _ h, fun e => hn.1 ?_⟩
        rw [c, ← e]
        exact List.mem_map.2 ⟨p, h, rfl⟩
    · rw [if_neg c] at h
      rcases List.mem_cons.1 h with h | h
      · rw [h]; exact .inr ⟨List.mem_cons_self .., c⟩
      · rcases ih hn.2 h with h | h
        · exact .inl h
        · exact .inr ⟨List.mem_cons_of_mem _ h.1, h.2⟩
theorem pw_put {α : Type} {R : (Int × α) → (Int × α) → Prop} (hs : ∀ {a b}, R a b → R b a) {l : List (Int × α)} (h : l.Pairwise R) (hn : (keys l).Nodup) {k : Int} {v : α} (hv : ∀ q ∈ l, q.1 ≠ k → R (k, v) q) : (put l k v).Pairwise R := by
  induction l with
  | nil => exact List.pairwise_singleton ..
  | cons q l ih =>
    obtain ⟨h1, h2⟩ := List.pairwise_cons.1 h
    have hn0 := hn
    simp only [keys, List.map_cons, List.nodup_cons] at hn
    rw [put_cons]
    by_cases c : q.1 = k
    · rw [if_pos c]
      refine List.pairwise_cons.2 ⟨fun p hp => hv p (List.mem_cons_of_mem _ hp) (fun e => hn.1 ?_), h2⟩
      rw [c, ← e]
      exact List.mem_map.2 ⟨p, hp, rfl⟩
    · rw [if_neg c]
      refine List.pairwise_cons.2 ⟨fun p hp => ?_, ih h2 hn.2 (fun p hp => hv p (List.mem_cons_of_mem _ hp))⟩
      rcases mem_put hn.2 hp with e | hp
      · rw [e]; exact hs (hv q (List.mem_cons_self ..) c)
      · exact h1 p hp.1
theorem mem_del {α : Type} {l : List (Int × α)} (hn : (keys l).Nodup) {k : Int} {p : Int × α} (h : p ∈ del l k) : p ∈ l ∧ p.1 ≠ k := by
  have h1 : get (del l k) p.1 = some p.2 := mem_get (nodup_del hn k) h
  rw [get_del hn] at h1
  split at h1
  · cases h1
  · rename_i c
    exact ⟨get_mem h1, c⟩
theorem pw_del {α : Type} {R : (Int × α) → (Int × α) → Prop} {l : List (Int × α)} (h : l.Pairwise R) (k : Int) : (del l k).Pairwise R := by
  unfold del
  split
  · exact h.sublist (List.eraseIdx_sublist ..)
  · exact h
/-- A value laid at a key that has the same pointer leaves the map's own entries. -/
theorem vals_put_same {l : List (Int × Ent)} {k : Int} {e e' : Ent} (hg : get l k = some e) (hp : e'.ptr = e.ptr) : vals Ent.ptr (put l k e') = vals Ent.ptr l := by
  induction l with
  | nil => cases hg
  | cons q l ih =>
    rw [get_cons] at hg
    rw [put_cons]
    by_cases c : q.1 = k
    · rw [if_pos c] at hg ⊢
      have e1 : q.2 = e := Option.some.inj hg
      simp [vals, hp, ← e1, c]
    · rw [if_neg c] at hg ⊢
      have := ih hg
      simp only [vals, List.map_cons] at this ⊢
      rw [this]
section
variable {w w1 : World} {g bm : Nat} {S S' : Nat → Prop} {s s' : DS} {es : List (Int × Ent)}
theorem DkI.nodup (h : DkI w g S s bm es) : (keys es).Nodup := by
  have := h.im.nodup
  rwa [keys_vals] at this
theorem DkI.move (h : DkI w g S s bm es) (hm : ∀ k, S k → k < w.heap.size → w1.heap[k]? = w.heap[k]?) : DkI w1 g S s bm es where
  gc := (hm g h.sg (blk_lt h.gc)).trans h.gc
  im := h.im.move (hm bm h.sm h.im.lt)
  sg := h.sg
  sm := h.sm
  fc := fun p hp => (hm _ (h.fs p hp).1 (blk_lt (h.fc p hp))).trans (h.fc p hp)
  fb := fun p hp => (h.fb p hp).move fun k hk => hm k ((h.fs p hp).2 k hk) ((h.fb p hp).lt k hk)
  fs := h.fs
  pw := h.pw
  mir := h.mir
  ok := h.ok
theorem DkI.mono (h : DkI w g S s bm es) (hS : ∀ k, S k → S' k) : DkI w g S' s bm es := { h with sg := hS _ h.sg, sm := hS _ h.sm, fs := fun p hp => ⟨hS _ (h.fs p hp).1, fun k hk => hS _ ((h.fs p hp).2 k hk)⟩ }
theorem Dk.move (h : Dk w g S s) (hm : ∀ k, S k → k < w.heap.size → w1.heap[k]? = w.heap[k]?) : Dk w1 g S s := by
  obtain ⟨bm, es, h⟩ := h
  exact ⟨bm, es, h.move hm⟩
theorem Dk.below (h : Dk w g S s) (hb : Below w.heap.size w w1) : Dk w1 g S s := h.move fun k _ hk => hb.block k hk
theorem Dk.mono (h : Dk w g S s) (hS : ∀ k, S k → S' k) : Dk w g S' s := by
  obtain ⟨bm, es, h⟩ := h
  exact ⟨bm, es, h.mono hS⟩
theorem Dk.ok (h : Dk w g S s) : OK s := by
  obtain ⟨bm, es, h⟩ := h
  exact h.ok
theorem Dk.lt (h : Dk w g S s) : g < w.heap.size := by
  obtain ⟨bm, es, h⟩ := h
  exact blk_lt h.gc
theorem Dk.sg (h : Dk w g S s) : S g := by
  obtain ⟨bm, es, h⟩ := h
  exact h.sg
/-- The dock's own cells turn. -/
theorem DkI.setG (h : DkI w g S s bm es) (hg : w1.heap[g]? = some (.cells #[.map (some bm), .int .i64 s'.cap, .int .i64 s'.left, .bool s'.down] 84 (0, 0))) (hf : ∀ k, k ≠ g → w1.heap[k]? = w.heap[k]?) (hM : s'.M = s.M) (hk : OK s') : DkI w1 g S s' bm es where
  gc := hg
  im := h.im.move (hf bm (h.im.ne h.gc))
  sg := h.sg
  sm := h.sm
  fc := fun p hp => (hf _ (fun e => by have h1 := h.fc p hp; have h2 := h.gc; rw [e, h2] at h1; simp only [Option.some.injEq, Obj.cells.injEq] at h1; exact absurd h1.2.1 (by decide))).trans (h.fc p hp)
  fb := fun p hp => (h.fb p hp).move fun k hk => hf k ((h.fb p hp).ne h.gc (by decide) k hk)
  fs := h.fs
  pw := h.pw
  mir := fun k => by rw [hM]; exact h.mir k
  ok := hk
theorem DkI.mem (h : DkI w g S s bm es) {k : Int} {e : Ent} (hg : get es k = some e) : (k, e) ∈ es := get_mem hg
theorem DkI.ne_f (h : DkI w g S s bm es) {p : Int × Ent} (hp : p ∈ es) : p.2.f ≠ g ∧ p.2.f ≠ bm := by
  refine ⟨fun e => ?_, fun e => ?_⟩
  · have h1 := h.fc p hp
    have h2 := h.gc
    rw [e, h2] at h1
    simp only [Option.some.injEq, Obj.cells.injEq] at h1
    exact absurd h1.2.1 (by decide)
  · exact h.im.ne (h.fc p hp) e.symm
theorem DkI.ne_row (h : DkI w g S s bm es) {p q : Int × Ent} (hp : p ∈ es) (hq : q ∈ es) {k : Nat} (hk : p.2.v.ownBlock = some k) : k ≠ g ∧ k ≠ bm ∧ k ≠ q.2.f := by
  obtain ⟨es', c, hb, _⟩ := h.im
  exact ⟨(h.fb p hp).ne h.gc (by decide) k hk, (h.fb p hp).ne_map hb k hk, (h.fb p hp).ne (h.fc q hq) (by decide) k hk⟩
theorem DkI.apart (h : DkI w g S s bm es) {p q : Int × Ent} (hp : p ∈ es) (hq : q ∈ es) (hne : p.1 ≠ q.1) : Dk.apart p q := pairwise_at (fun h => h.symm) h.pw hp hq (fun e => hne (by rw [e]))
/-- A file is laid, or turns. -/
theorem DkI.put (h : DkI w g S s bm es) (k : Int) (e : Ent) (hS : ∀ x, S x → S' x)
    (gc : w1.heap[g]? = some (.cells #[.map (some bm), .int .i64 s'.cap, .int .i64 s'.left, .bool s'.down] 84 (0, 0))) (im : IM .i64 w1 bm (vals Ent.ptr (put es k e)))
    (fc : w1.heap[e.f]? = some (.cells #[e.v, .int .i64 (e.s : Int)] 87 (0, 0))) (fb : BW w1 e.v e.b) (fs : S' e.f ∧ ∀ b, e.v.ownBlock = some b → S' b)
    (hoth : ∀ q ∈ es, q.1 ≠ k → w1.heap[q.2.f]? = w.heap[q.2.f]? ∧ ∀ b, q.2.v.ownBlock = some b → w1.heap[b]? = w.heap[b]?)
    (hap : ∀ q ∈ es, q.1 ≠ k → Dk.apart (k, e) q) (hM : s'.M = ins s.M k (e.b, e.s)) (ok : OK s') : DkI w1 g S' s' bm (put es k e) where
  gc := gc
  im := im
  sg := hS _ h.sg
  sm := hS _ h.sm
  fc := fun p hp => by
    rcases mem_put h.nodup hp with rfl | ⟨hp, hk⟩
    · exact fc
    · exact (hoth p hp hk).1.trans (h.fc p hp)
  fb := fun p hp => by
    rcases mem_put h.nodup hp with rfl | ⟨hp, hk⟩
    · exact fb
    · exact (h.fb p hp).move (hoth p hp hk).2
  fs := fun p hp => by
    rcases mem_put h.nodup hp with rfl | ⟨hp, hk⟩
    · exact fs
    · exact ⟨hS _ (h.fs p hp).1, fun b hb => hS _ ((h.fs p hp).2 b hb)⟩
  pw := pw_put (fun h => h.symm) h.pw h.nodup hap
  mir := fun j => by
    rw [hM, get_ins h.ok.asc, get_put, h.mir]
    split <;> rfl
  ok := ok
theorem DkI.del (h : DkI w g S s bm es) (k : Int)
    (gc : w1.heap[g]? = some (.cells #[.map (some bm), .int .i64 s'.cap, .int .i64 s'.left, .bool s'.down] 84 (0, 0))) (im : IM .i64 w1 bm (vals Ent.ptr (del es k)))
    (hoth : ∀ b, b ≠ g → b ≠ bm → w1.heap[b]? = w.heap[b]?) (hM : s'.M = rem s.M k) (ok : OK s') : DkI w1 g S s' bm (IMap.del es k) where
  gc := gc
  im := im
  sg := h.sg
  sm := h.sm
  fc := fun p hp => by
    obtain ⟨hp, _⟩ := mem_del h.nodup hp
    exact (hoth _ (h.ne_f hp).1 (h.ne_f hp).2).trans (h.fc p hp)
  fb := fun p hp => by
    obtain ⟨hp, _⟩ := mem_del h.nodup hp
    exact (h.fb p hp).move fun b hb => hoth b (h.ne_row hp hp hb).1 (h.ne_row hp hp hb).2.1
  fs := fun p hp => h.fs p (mem_del h.nodup hp).1
  pw := pw_del h.pw k
  mir := fun j => by
    rw [hM, get_rem, get_del h.nodup, h.mir]
    split <;> rfl
  ok := ok
end
theorem At1.drew {g : Nat} {w w1 : World} (h : At1 g w w1) : At1 g w w1.drew := ⟨below_drew h.1, h.2.1, h.2.2⟩
theorem At1.drewN {g : Nat} {w w1 : World} (h : At1 g w w1) (n : Nat) : At1 g w (w1.drewN n) := ⟨pw_below_drewN h.1 n, h.2.1, h.2.2⟩
theorem apart_of {k k' : Int} {e e' : Ent} {q : Int × Ent} (hf : e'.f = e.f) (hv : e'.v.ownBlock = e.v.ownBlock) (h : Dk.apart (k, e) q) : Dk.apart (k', e') q := ⟨fun x => h.1 (hf.symm.trans x), fun j hj => h.2 j (hv.symm.trans hj)⟩
/-- One file's own cells turn. -/
theorem DkI.turnF {w W : World} {g bm : Nat} {S : Nat → Prop} {s : DS} {es : List (Int × Ent)} (h : DkI w g S s bm es) {k : Int} {e : Ent} (hge : get es k = some e) (e' : Ent) (hf : e'.f = e.f) (hv : e'.v.ownBlock = e.v.ownBlock) (hA : At1 e.f w W)
    (hc : W.heap[e.f]? = some (.cells #[e'.v, .int .i64 (e'.s : Int)] 87 (0, 0))) (hb : BW w e'.v e'.b) (hok : OK { s with M := ins s.M k (e'.b, e'.s) }) : DkI W g S { s with M := ins s.M k (e'.b, e'.s) } bm (IMap.put es k e') := by
  have hmem := get_mem hge
  refine h.put (s' := { s with M := ins s.M k (e'.b, e'.s) }) k e' (fun _ h => h) ((hA.2.2 g (fun e => (h.ne_f hmem).1 e.symm)).trans h.gc) ?_ (by rw [hf]; exact hc) ?_ ⟨by rw [hf]; exact (h.fs _ hmem).1, fun b hb => (h.fs _ hmem).2 b (by rw [← hv]; exact hb)⟩ (fun q hq hne => ?_) (fun q hq hne => apart_of (e := e) hf hv (h.apart hmem hq (fun e => hne e.symm))) rfl hok
  · rw [vals_put_same (e' := e') hge (by unfold Ent.ptr; rw [hf])]
    exact h.im.move (hA.2.2 bm (fun e => (h.ne_f hmem).2 e.symm))
  · exact hb.move fun j hj => hA.2.2 j (h.ne_row hmem hmem (by show e.v.ownBlock = some j; rw [← hv]; exact hj)).2.2
  · exact ⟨hA.2.2 _ (fun e => (h.apart hmem hq (fun e => hne e.symm)).1 e.symm), fun j hj => hA.2.2 j (h.ne_row hq hmem hj).2.2⟩
theorem own_len {A : Option Addr} {n c n' c' : Nat} : (Value.slice A n c).ownBlock = (Value.slice A n' c').ownBlock := by cases A <;> rfl
/-! What a dock's turns keep. -/
theorem stepS_M (s : DS) : (stepS s).M = s.M ∧ (stepS s).cap = s.cap := by
  unfold stepS
  split
  · exact ⟨rfl, rfl⟩
  · split <;> exact ⟨rfl, rfl⟩
theorem ok_step {s : DS} (h : OK s) : OK (stepS s) := by
  have h1 := h.left0
  have h2 := h.left1
  unfold stepS
  split
  · exact { h with left0 := by show -1 ≤ s.left - 1; omega, left1 := by show s.left - 1 < _; omega }
  · split
    · exact { h with }
    · exact h
theorem ok_ins {s : DS} (h : OK s) (k : Int) (b : List Int) (n : Nat) (hkk : 0 ≤ k ∧ k ≤ 999999) (hn : n ≤ b.length) (hz : size (ins s.M k (b, n)) ≤ 16777216) : OK { s with M := ins s.M k (b, n) } :=
  { h with asc := asc_ins h.asc k _, safe := (fun p hp => by
      rcases mem_ins hp with rfl | hp
      · exact hn
      · exact h.safe p hp), names := (fun p hp => by
      rcases mem_ins hp with rfl | hp
      · exact hkk
      · exact h.names p hp), size := hz }
theorem ok_name {s : DS} (h : OK s) {k : Int} {x : List Int × Nat} (hg : get s.M k = some x) : 0 ≤ k ∧ k ≤ 999999 := h.names _ (get_mem hg)
theorem ok_rem {s : DS} (h : OK s) (k : Int) : OK { s with M := rem s.M k } :=
  { h with asc := asc_rem h.asc k, safe := fun p hp => h.safe p (List.mem_filter.1 hp).1, names := fun p hp => h.names p (List.mem_filter.1 hp).1, size := Nat.le_trans (size_rem_le _ _) h.size }
end Go.Proofs.Ytoimpjmoikjibaa.Dk
