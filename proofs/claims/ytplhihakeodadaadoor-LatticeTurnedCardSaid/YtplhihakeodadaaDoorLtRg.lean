/- lattice: 'for k := range m' over a map keyed by numbers, its entries as a list: whatever order the tape says. -/
import Derived.Test.YtplhihakeodadaaDoorLtCntM
import Derived.Maps.RangeWalk
namespace Go.Proofs.YtplhihakeodadaaDoor.Sg
open Go Go.RowKit Go.MapKept Go.ChangeMaps Go.Proofs.YtplhihakeodadaaDoor.IMap Go.Proofs.YtplhihakeodadaaDoorW.PrintWords Go.Proofs.YtplhihakeodadaaDoorW.PrintLast Go.Proofs.YtplhihakeodadaaDoorW.PrintMore
set_option linter.unusedVariables false
set_option linter.unusedSimpArgs false
/-- A range under way: the map in block b holds l, the iterator lies in block r, the keys in dn have come. -/
structure RG (q : IntKind) (w : World) (b r : Nat) (l : List (Int × Value)) (dn : List Int) : Prop where
  ex : ∃ es clock since seen c0, w.heap[b]? = some (.map es clock) ∧ Stamped es clock ∧ es.toList.map (fun e => (e.key, e.val)) = l.map (fun p => (Value.int q p.1, p.2)) ∧
    w.heap[r]? = some (.mapIter (some b) since seen c0) ∧ (∀ x ∈ es.toList, x.born < since) ∧ since ≤ c0 ∧ since ≤ clock ∧ (∀ x ∈ es.toList, seen.contains x.born = true ↔ ∃ k ∈ dn, x.key = .int q k)
  nd : dn.Nodup
  sub : ∀ k ∈ dn, k ∈ keys l
section
variable {q : IntKind} {w w1 : World} {b r : Nat} {l : List (Int × Value)} {dn : List Int} {P : Program}
theorem RG.ne (h : RG q w b r l dn) : r ≠ b := by
  obtain ⟨es, clock, since, seen, c0, hb, _, _, hr, _⟩ := h.ex
  intro e
  rw [e, hb] at hr
  cases hr
theorem RG.lt (h : RG q w b r l dn) : r < w.heap.size := by
  obtain ⟨es, clock, since, seen, c0, hb, _, _, hr, _⟩ := h.ex
  exact (Array.getElem?_eq_some_iff.1 hr).1
theorem RG.ltb (h : RG q w b r l dn) : b < w.heap.size := by
  obtain ⟨es, clock, since, seen, c0, hb, _, _, hr, _⟩ := h.ex
  exact (Array.getElem?_eq_some_iff.1 hb).1
theorem RG.move (h : RG q w b r l dn) (h1 : w1.heap[b]? = w.heap[b]?) (h2 : w1.heap[r]? = w.heap[r]?) : RG q w1 b r l dn := by
  obtain ⟨⟨es, clock, since, seen, c0, hb, hs, he, hr, x⟩, nd, sub⟩ := h
  exact ⟨⟨es, clock, since, seen, c0, h1.trans hb, hs, he, h2.trans hr, x⟩, nd, sub⟩
theorem RG.grown (h : RG q w b r l dn) {row : Option Nat} (hg : w.grownBy w1 row) (hb : some b ≠ row) (hr : some r ≠ row) : RG q w1 b r l dn :=
  h.move (hg.block b h.ltb hb) (hg.block r h.lt hr)
theorem RG.alloc (h : RG q w b r l dn) (o : Obj) : RG q (w.alloc o) b r l dn := h.grown (World.grownBy_alloc w o none) (by simp) (by simp)
theorem RG.drew (h : RG q w b r l dn) : RG q w.drew b r l dn := h.move rfl rfl
theorem ent_key {es : Array MapEntry} (he : es.toList.map (fun e => (e.key, e.val)) = l.map (fun p => (Value.int q p.1, p.2))) {x : MapEntry} (hx : x ∈ es.toList) : ∃ p ∈ l, x.key = .int q p.1 ∧ x.val = p.2 := by
  have hm : (x.key, x.val) ∈ l.map (fun p => (Value.int q p.1, p.2)) := he ▸ List.mem_map.2 ⟨x, hx, rfl⟩
  obtain ⟨p, hp, e⟩ := List.mem_map.1 hm
  simp only [Prod.mk.injEq] at e
  exact ⟨p, hp, e.1.symm, e.2.symm⟩
theorem key_ent {es : Array MapEntry} (he : es.toList.map (fun e => (e.key, e.val)) = l.map (fun p => (Value.int q p.1, p.2))) {k : Int} (hk : k ∈ keys l) : ∃ x ∈ es.toList, x.key = .int q k := by
  obtain ⟨p, hp, rfl⟩ := List.mem_map.1 hk
  have hm : (Value.int q p.1, p.2) ∈ es.toList.map (fun e => (e.key, e.val)) := he ▸ List.mem_map.2 ⟨p, hp, rfl⟩
  obtain ⟨x, hx, e⟩ := List.mem_map.1 hm
  simp only [Prod.mk.injEq] at e
  exact ⟨x, hx, e.1⟩
theorem keys_nodup {es : Array MapEntry} {clock : Nat} (hs : Stamped es clock) (he : es.toList.map (fun e => (e.key, e.val)) = l.map (fun p => (Value.int q p.1, p.2))) : (keys l).Nodup := by
  have h1 : es.toList.map (·.key) = (keys l).map (Value.int q) := by
    have := congrArg (List.map Prod.fst) he
    simpa [keys, Function.comp_def] using this
  have h2 := hs.2.2
  rw [h1] at h2
  exact List.Pairwise.of_map _ (fun a c hac e => hac (by rw [e])) h2
/-- The range begins. -/
theorem RG.start {t k e : TypeId} (h : IM q w b l) (ht : P.underlying t = some (.map k e)) :
    ∃ w', (Instr.range t (.map (some b))).run P w = .ok (.pointer (some ⟨w.heap.size, 0, none⟩)) w' ∧ RG q w' b w.heap.size l [] ∧ w.grownBy w' none ∧ w'.heap.size = w.heap.size + 1 := by
  have hlt := h.lt
  obtain ⟨es, clock, hb, hs, he⟩ := h
  exact ⟨_, run_range_map w t k e b es clock ht hb, ⟨⟨es, clock, clock, #[], clock, ((MapKept.heap_alloc w _).2 b hlt).trans hb, hs, he, (MapKept.heap_alloc w _).1, hs.1, Nat.le_refl _, Nat.le_refl _, fun x _ => by simp⟩, List.nodup_nil, fun _ h => by simp at h⟩, World.grownBy_alloc w _ none, by simp⟩
/-- The step. -/
theorem RG.next (h : RG q w b r l dn) (ty : TypeId) :
    (dn.Perm (keys l) ∧ (Instr.next (.pointer (some ⟨r, 0, none⟩)) false ty).run P w = .ok (.tuple #[.bool false]) w) ∨
    ∃ k v w', (k, v) ∈ l ∧ k ∉ dn ∧ (Instr.next (.pointer (some ⟨r, 0, none⟩)) false ty).run P w = .ok (.tuple #[.bool true, .int q k, v]) w' ∧
      RG q w' b r l (dn ++ [k]) ∧ w.grownBy w' (some r) ∧ w'.heap.size = w.heap.size ∧ (Instr.entry (.pointer (some ⟨r, 0, none⟩))).run P w' = .ok (.tuple #[.int q k, v]) w' := by
  have hne := h.ne
  obtain ⟨⟨es, clock, since, seen, c0, hb, hs, he, hr, hold, hsc, hsk, hsn⟩, nd, sub⟩ := h
  have hnk := keys_nodup hs he
  rcases run_next_at (P := P) w ty r b since c0 seen es clock hr hb hold hsc with ⟨h0, hrun⟩ | ⟨e, hel, w1, hal, hrun⟩
  · refine Or.inl ⟨?_, hrun⟩
    refine (List.perm_ext_iff_of_nodup nd hnk).2 fun k => ⟨sub k, fun hk => ?_⟩
    obtain ⟨x, hx, hxk⟩ := key_ent he hk
    obtain ⟨k', hk', e'⟩ := (hsn x hx).1 (all_seen es seen h0 x hx)
    rw [hxk] at e'
    cases e'
    exact hk'
  · obtain ⟨hem, hes⟩ := mem_left hel
    obtain ⟨p, hp, e1, e2⟩ := ent_key he hem
    have hr1 : w1.heap[r]? = some (.mapIter (some b) since seen c0) := by rcases hal with rfl | rfl <;> exact hr
    have hb1 : w1.heap[b]? = some (.map es clock) := by rcases hal with rfl | rfl <;> exact hb
    have hset := heap_set (o' := .mapIter (some b) since (seen.push e.born) clock) hr1
    have hb' : (setBlock w1 r (.mapIter (some b) since (seen.push e.born) clock)).heap[b]? = some (.map es clock) := (hset.2 b (fun e1 => hne e1.symm)).trans hb1
    have hkd : p.1 ∉ dn := fun hin => by
      have := (hsn e hem).2 ⟨p.1, hin, e1⟩
      rw [hes] at this
      cases this
    rw [e1, e2] at hrun
    refine Or.inr ⟨p.1, p.2, _, hp, hkd, hrun, ⟨⟨es, clock, since, seen.push e.born, clock, hb', hs, he, hset.1, hold, hsk, hsk, fun x hx => ?_⟩, ?_, ?_⟩, ?_, ?_, ?_⟩
    · rw [contains_push, Bool.or_eq_true, hsn x hx]
      constructor
      · rintro (⟨k, hk, hkx⟩ | hbx)
        · exact ⟨k, List.mem_append_left _ hk, hkx⟩
        · refine ⟨p.1, by simp, ?_⟩
          have hbe : x.born = e.born := by simpa using hbx
          rw [born_inj hs.2.1 hx hem hbe]
          exact e1
      · rintro ⟨k, hk, hkx⟩
        rcases List.mem_append.1 hk with hk | hk
        · exact Or.inl ⟨k, hk, hkx⟩
        · right
          rw [List.mem_singleton.1 hk] at hkx
          have : x = e := entry_eq_of_key (List.pairwise_map.1 hs.2.2) hx hem (hkx.trans e1.symm)
          rw [this]; simp
    · refine List.nodup_append.2 ⟨nd, by simp, fun a ha c hc => ?_⟩
      rw [List.mem_singleton.1 hc]
      intro e; exact hkd (e ▸ ha)
    · intro k hk
      rcases List.mem_append.1 hk with hk | hk
      · exact sub k hk
      · rw [List.mem_singleton.1 hk]; exact List.mem_map.2 ⟨p, hp, rfl⟩
    · rcases hal with rfl | rfl <;> exact ⟨rfl, rfl, rfl, by simp [setBlock], fun i _ hi => hset.2 i (fun e1 => hi (by rw [e1]))⟩
    · rcases hal with rfl | rfl <;> simp [setBlock]
    · have := run_entry_at (P := P) _ r b since seen es clock e hset.1 hb' hem hs.2.1
      rw [e1, e2] at this
      exact this
variable {ops : Array Oper} {rest : List Oper} {o : Oper} {a : Act} {Q : Exit → Act → World → Prop}
theorem wpList_range_rg (hg : o.guard = none) (m : Operand) (t : TypeId) (hop : o.op = Op.range t m) (k e : TypeId) (ht : P.underlying t = some (.map k e)) (hm : a.eval m = .map (some b)) (h : IM q w b l)
    (hK : ∀ w', RG q w' b w.heap.size l [] → w.grownBy w' none → w'.heap.size = w.heap.size + 1 → wpList P ops Q rest (a.put o.dst (.pointer (some ⟨w.heap.size, 0, none⟩))) w') :
    wpList P ops Q (o :: rest) a w := by
  refine wpList_plain hg fun K' hK' => ?_
  obtain ⟨w', hrun, r1, r2, r3⟩ := RG.start (P := P) h ht
  unfold Oper.wp
  simp [execOp, hop, hm, hrun, Result.andThen]
  exact hK' _ _ (hK w' r1 r2 r3)
theorem wpList_next_rg (hg : o.guard = none) (it : Operand) (hop : o.op = Op.next it false) (hit : a.eval it = .pointer (some ⟨r, 0, none⟩)) (h : RG q w b r l dn)
    (hDone : dn.Perm (keys l) → wpList P ops Q rest (a.put o.dst (.tuple #[.bool false])) w)
    (hMore : ∀ k v w', (k, v) ∈ l → k ∉ dn → RG q w' b r l (dn ++ [k]) → w.grownBy w' (some r) → w'.heap.size = w.heap.size →
      (Instr.entry (.pointer (some ⟨r, 0, none⟩))).run P w' = .ok (.tuple #[.int q k, v]) w' → wpList P ops Q rest (a.put o.dst (.tuple #[.bool true, .int q k, v])) w') :
    wpList P ops Q (o :: rest) a w := by
  refine wpList_plain hg fun K' hK' => ?_
  unfold Oper.wp
  rcases RG.next (P := P) h o.type with ⟨h0, hrun⟩ | ⟨k, v, w', h1, h2, hrun, h3, h4, h5, h6⟩
  · simp [execOp, hop, hit, hrun, Result.andThen]
    exact hK' _ _ (hDone h0)
  · simp [execOp, hop, hit, hrun, Result.andThen]
    exact hK' _ _ (hMore k v w' h1 h2 h3 h4 h5 h6)
end
end Go.Proofs.YtplhihakeodadaaDoor.Sg
