/- lattice: what holds between two rounds of count's range over a set's nodes. -/
import Derived.Test.YtplhihakeodadaaDoorLtMarks
namespace Go.Proofs.YtplhihakeodadaaDoor.Sg
open Go Go.RowKit Go.MapKept Go.ChangeMaps Go.Proofs.YtplhihakeodadaaDoor.IMap Go.Proofs.YtplhihakeodadaaDoorW.PrintWords Go.Proofs.YtplhihakeodadaaDoorW.PrintLast Go.Proofs.YtplhihakeodadaaDoorW.PrintMore
set_option linter.unusedVariables false
set_option linter.unusedSimpArgs false
def RI (w W9 : World) (m bn bs b T : Nat) (ds : List Deferred) (s : Nat) (st : Ent × List Int) (pre : List Nat) (W : World) : Prop :=
  ∃ (A9 : Option Addr) (c9 : Nat), IM .u64 W m (encW (pre.foldl (addT s) st).1) ∧ Kp m bn W9 W ∧ Below w.heap.size w W ∧ W.heap[bn]? = some (.cells #[.slice A9 (pre.foldl (addT s) st).2.length c9] 60 (0, 0)) ∧
    Kd.R kU 56 W w.heap.size (fun k => bn < k ∧ k ≠ bs ∧ k ≠ b) (.slice A9 (pre.foldl (addT s) st).2.length c9) (pre.foldl (addT s) st).2 ∧ W.heap[bs]? = some (.cells #[.int .u64 (s : Int)] 56 (0, 0)) ∧ Mk w.heap.size T ds W ∧ (pre.foldl (addT s) st).2.length ≤ (pre.foldl (addT s) st).1.length ∧ b < W.heap.size
theorem RI.own {w W9 : World} {m bn bs b T B : Nat} {ds : List Deferred} {s : Nat} {st : Ent × List Int} (hm : m < B) (hn : bn < B) (hs : bs < B) (hw : w.heap.size ≤ B) (hT : T ≤ B) : OwnFrom B (RI w W9 m bn bs b T ds s st) := by
  rintro pre W W' row ⟨A9, c9, h1, h2, h3, h4, h5, h6, h7, h8, h9⟩ hg hr
  have hblk : ∀ k, k < B → k < W.heap.size → W'.heap[k]? = W.heap[k]? := fun k hk hlt => hg.block k hlt (fun e => by have := (hr k e.symm).1; omega)
  refine ⟨A9, c9, h1.move (hblk m hm h1.lt), h2.grown hg (Nat.le_of_lt (blk_lt h4)) (fun k e => by have := (hr k e).1; omega), h3.grown hg h3.size (fun k e => Nat.le_trans hw (hr k e).1), (hblk bn hn (blk_lt h4)).trans h4, R_noncells h5 hg (fun r e => (hr r e).2), (hblk bs hs (blk_lt h6)).trans h6, h7.move (fun r hr' hd => (hblk r (by omega) (Array.getElem?_eq_some_iff.1 hd).1).trans hd), h8, Nat.lt_of_lt_of_le h9 hg.size⟩
theorem RI.setB {w W9 : World} {m bn bs b T : Nat} {ds : List Deferred} {s : Nat} {st : Ent × List Int} (hm : b ≠ m) (hn : bn < b) (hs : b ≠ bs) (hw : w.heap.size ≤ b) (hT : T ≤ b) (pre : List Nat) (W : World) (v : Value) (h : RI w W9 m bn bs b T ds s st pre W) : RI w W9 m bn bs b T ds s st pre (W.setCell ⟨b, 0, none⟩ v) := by
  obtain ⟨A9, c9, h1, h2, h3, h4, h5, h6, h7, h8, h9⟩ := h
  refine ⟨A9, c9, h1.setCell (p := ⟨b, 0, none⟩) (Ne.symm hm) v, h2.setCell (p := ⟨b, 0, none⟩) (Nat.le_of_lt hn) v, h3.setCell (p := ⟨b, 0, none⟩) hw v, (Below.heap_setCell _ ⟨b, 0, none⟩ _ _ (by show bn ≠ b; omega)).trans h4, Kd.R_step h5 (fun k hk _ => Below.heap_setCell _ ⟨b, 0, none⟩ _ _ hk.2.2), (Below.heap_setCell _ ⟨b, 0, none⟩ _ _ (Ne.symm hs)).trans h6, h7.move (fun r hr hd => (Below.heap_setCell _ ⟨b, 0, none⟩ _ _ (by show r ≠ b; omega)).trans hd), h8, by simpa [World.setCell] using h9⟩
theorem R_own {α : Type} {K : Kd α} {E base : Nat} {ok : Nat → Prop} {w : World} {v : Value} {l : List α} (h : Kd.R K E w base ok v l) (k : Nat) (hk : v.ownBlock = some k) : ok k ∧ base ≤ k ∧ k < w.heap.size ∧ ∃ q cells, w.heap[k]? = some (.cells cells q (0, 0)) := by
  obtain ⟨h1, h2, h3, q, _, cs, hc⟩ := (Kd.R_bound h).1 k hk
  exact ⟨h1, h2, h3, q, cs, hc⟩
/-- Within a round, that began at W. -/
structure RS (w W9 W : World) (m bn bs b : Nat) (ds : List Deferred) (s : Nat) (L : Ent) (v : Value) (xs : List Int) (V : World) : Prop where
  im : IM .u64 V m (encW L)
  kp : Kp m bn W9 V
  bl : Below w.heap.size w V
  nx : V.heap[bn]? = some (.cells #[v] 60 (0, 0))
  rw : Kd.R kU 56 V w.heap.size (fun k => bn < k ∧ k ≠ bs ∧ k ≠ b) v xs
  sb : V.heap[bs]? = some (.cells #[.int .u64 (s : Int)] 56 (0, 0))
  ma : Mk w.heap.size b ds V
  kf : KeepsFrom (b + 1) W V
  bb : V.heap[b]? = W.heap[b]?
  lt : b < V.heap.size
theorem RS.begin {w W9 W : World} {m bn bs b : Nat} {ds : List Deferred} {s : Nat} {st : Ent × List Int} {pre : List Nat} (h : RI w W9 m bn bs b b ds s st pre W) : ∃ (A9 : Option Addr) (c9 : Nat), RS w W9 W m bn bs b ds s (pre.foldl (addT s) st).1 (.slice A9 (pre.foldl (addT s) st).2.length c9) (pre.foldl (addT s) st).2 W.drew ∧ (pre.foldl (addT s) st).2.length ≤ (pre.foldl (addT s) st).1.length := by
  obtain ⟨A9, c9, h1, h2, h3, h4, h5, h6, h7, h8, h9⟩ := h
  exact ⟨A9, c9, ⟨h1.drew, h2, h3.drew, h4, Kd.R_drew h5, h6, h7, ⟨Nat.le_refl _, fun _ _ _ h _ => h⟩, rfl, h9⟩, h8⟩
theorem RS.done {w W9 W V : World} {m bn bs b : Nat} {ds : List Deferred} {s : Nat} {st : Ent × List Int} {pre : List Nat} {v : Value} (h : RS w W9 W m bn bs b ds s (pre.foldl (addT s) st).1 v (pre.foldl (addT s) st).2 V) (hl : (pre.foldl (addT s) st).2.length ≤ (pre.foldl (addT s) st).1.length) : RI w W9 m bn bs b b ds s st pre V := by
  obtain ⟨A9, c9, rfl⟩ := Kd.R_slice h.rw
  exact ⟨A9, c9, h.im, h.kp, h.bl, h.nx, h.rw, h.sb, h.ma, hl, h.lt⟩
theorem RS.put {w W9 W V : World} {m bn bs b : Nat} {ds : List Deferred} {s : Nat} {L L' : Ent} {v : Value} {xs : List Int} (h : RS w W9 W m bn bs b ds s L v xs V) (ob : Obj) (hm : w.heap.size ≤ m) (hmb : m < b) (him : IM .u64 (setBlock V m ob) m (encW L')) : RS w W9 W m bn bs b ds s L' v xs (setBlock V m ob) where
  im := him
  kp := h.kp.set ob
  bl := IMap.below_set h.bl hm ob
  nx := (IMap.heap_set_other ob (fun e => h.im.ne h.nx e.symm) _).trans h.nx
  rw := R_setB h.im h.rw ob
  sb := (IMap.heap_set_other ob (fun e => h.im.ne h.sb e.symm) _).trans h.sb
  ma := h.ma.move (fun r _ hr => (IMap.heap_set_other ob (fun e => by
    obtain ⟨es, clock, hb, _⟩ := h.im
    rw [e, hb] at hr
    cases hr) _).trans hr)
  kf := h.kf.trans ⟨by rw [IMap.size_set]; exact Nat.le_refl _, fun k o hk ho _ => (IMap.heap_set_other ob (by omega) _).trans ho⟩
  bb := (IMap.heap_set_other ob (by omega) _).trans h.bb
  lt := by rw [IMap.size_set]; exact h.lt
/-- Behind an append to the row, its new value laid into its box. -/
theorem RS.grow {w W9 W V V1 V2 : World} {m bn bs b : Nat} {ds : List Deferred} {s : Nat} {L : Ent} {v v1 : Value} {xs xs' : List Int} (h : RS w W9 W m bn bs b ds s L v xs V) (hb1 : Below V.heap.size V V1) (hg : V1.grownBy V2 v.ownBlock) (hbl : Below w.heap.size w V2) (hwn : w.heap.size ≤ bn) (hns : bn ≠ bs) (hnb : bn < b)
    (hR : Kd.R kU 56 V2 w.heap.size (fun k => bn < k ∧ k ≠ bs ∧ k ≠ b) v1 xs') : RS w W9 W m bn bs b ds s L v1 xs' (V2.setCell ⟨bn, 0, none⟩ v1) := by
  have hown := R_own h.rw
  have hk2 : ∀ k, k < V.heap.size → (∀ j, v.ownBlock = some j → k ≠ j) → V2.heap[k]? = V.heap[k]? := fun k hk hj => (hg.block k (Nat.lt_of_lt_of_le hk hb1.size) (fun e => hj k e.symm rfl)).trans (hb1.block k hk)
  have hk3 : ∀ k, k < V.heap.size → (∀ j, v.ownBlock = some j → k ≠ j) → k ≠ bn → (V2.setCell ⟨bn, 0, none⟩ v1).heap[k]? = V.heap[k]? := fun k hk hj hn => (Below.heap_setCell _ ⟨bn, 0, none⟩ _ _ hn).trans (hk2 k hk hj)
  have hsz : (V2.setCell ⟨bn, 0, none⟩ v1).heap.size = V2.heap.size := by simp [World.setCell]
  have hle : V.heap.size ≤ V2.heap.size := Nat.le_trans hb1.size hg.size
  have hnc : ∀ (k : Nat) (o : Obj), V.heap[k]? = some o → o.isCells = false → (V2.setCell ⟨bn, 0, none⟩ v1).heap[k]? = some o := fun k o ho hc => by
    refine (hk3 k (blk_lt ho) (fun j hj e => ?_) (fun e => ?_)).trans ho
    · obtain ⟨_, _, _, q, cs, hcs⟩ := hown j hj
      rw [← e, ho] at hcs
      cases hcs
      cases hc
    · rw [e, h.nx] at ho
      cases ho
      cases hc
  refine ⟨?_, ?_, hbl.setCell (p := ⟨bn, 0, none⟩) hwn v1, ?_, ?_, ?_, ?_, ?_, ?_, ?_⟩
  · refine h.im.move ?_
    obtain ⟨es, clock, hb, _⟩ := h.im
    rw [hb]
    exact hnc m _ hb rfl
  · refine h.kp.trans ⟨by rw [hsz]; exact hle, fun k hk hkm => hk3 k (Nat.lt_trans hk (blk_lt h.nx)) (fun j hj e => by have := (hown j hj).1.1; omega) (by omega)⟩
  · refine box_set (t := 60) (cs := #[v]) ?_ v1
    exact (hk2 bn (blk_lt h.nx) (fun j hj e => by have := (hown j hj).1.1; omega)).trans h.nx
  · exact Kd.R_step hR (fun k hk _ => Below.heap_setCell _ ⟨bn, 0, none⟩ _ _ (by show k ≠ bn; omega))
  · exact (hk3 bs (blk_lt h.sb) (fun j hj e => (hown j hj).1.2.1 e.symm) (Ne.symm hns)).trans h.sb
  · exact h.ma.move (fun r _ hr => hnc r _ hr rfl)
  · exact h.kf.trans ⟨by rw [hsz]; exact hle, fun k o _ ho hc => hnc k o ho hc⟩
  · exact (hk3 b h.lt (fun j hj e => (hown j hj).1.2.2 e.symm) (by omega)).trans h.bb
  · rw [hsz]
    exact Nat.lt_of_lt_of_le h.lt hle
theorem RS.nx2 {w W9 W V V1 V2 : World} {m bn bs b : Nat} {ds : List Deferred} {s : Nat} {L : Ent} {v : Value} {xs : List Int} (h : RS w W9 W m bn bs b ds s L v xs V) (hb1 : Below V.heap.size V V1) (hg : V1.grownBy V2 v.ownBlock) : V2.heap[bn]? = some (.cells #[v] 60 (0, 0)) :=
  (hg.block bn (Nat.lt_of_lt_of_le (blk_lt h.nx) hb1.size) (fun e => by have := (R_own h.rw bn e.symm).1.1; omega)).trans ((hb1.block bn (blk_lt h.nx)).trans h.nx)
theorem at_ins {P : Program} {q : IntKind} {w : World} {b : Nat} {l : List (Int × Value)} {ops : Array Oper} {rest : List Oper} {o : Oper} {a : Act} {Q : Exit → Act → World → Prop} (hg : o.guard = none) (m x v : Operand) (t : TypeId) (hop : o.op = Op.insert t m x v) {kt et : TypeId} (ht : P.underlying t = some (.map kt et)) (hk : P.underlying kt = some (.int q))
    (hm : a.eval m = .map (some b)) (h : IMap.IM q w b l) (k : Int) (val : Value) (hx : a.eval x = .int q k) (hv : a.eval v = val)
    (hK : ∀ ob, IMap.IM q (ChangeMaps.setBlock w b ob) b (IMap.put l k val) → wpList P ops Q rest (a.put o.dst undef) (ChangeMaps.setBlock w b ob)) : wpList P ops Q (o :: rest) a w := by
  refine wpList_plain hg fun K' hK' => ?_
  obtain ⟨ob, hrun, h1⟩ := h.update ht hk k val
  unfold Oper.wp
  simp [execOp, hop, hm, hx, hv, hrun, Result.andThen]
  exact hK' _ _ (hK ob h1)
def HaltIn (p : Prop) : Prop := p
theorem wpListIn_plain_halt {F : Fence} {nF : Nat} {P : Program} {ops : Array Oper} {rest : List Oper} {d : Option Tmp} {x y : Operand} {ts : Array TypeId} {ty : TypeId} {pos : String} {af : Array Edge} {gd : Option (Nat × Bool)} {a : Act} {w : World} {Q : Exit → Act → World → Prop}
    (h : HaltIn (wpListIn F nF P ops Q ({ dst := d, op := .call { callee := .builtin .append, args := #[x, y], argTypes := ts }, type := ty, pos := pos, after := af, guard := gd } :: rest) a w)) : wpListIn F nF P ops Q ({ dst := d, op := .call { callee := .builtin .append, args := #[x, y], argTypes := ts }, type := ty, pos := pos, after := af, guard := gd } :: rest) a w := h
theorem look_way (L : Ent) (k : Int) : (IMap.get (encW L) k).getD (.int .i64 0) = .int .i64 (wayOf L k) := by
  unfold encW wayOf
  rw [get_vals]
  cases IMap.get L k <;> rfl
theorem look_has (L : Ent) (k : Int) : (IMap.get (encW L) k).isSome = (IMap.get L k).isSome := by
  unfold encW
  rw [get_vals]
  cases IMap.get L k <;> rfl
theorem okNodes_append (s : Nat) : ∀ (l1 l2 : List Nat) (st : Ent × List Int), okNodes s (l1 ++ l2) st = (okNodes s l1 st && okNodes s l2 (l1.foldl (addT s) st))
  | [], l2, st => by simp [okNodes]
  | i :: l1, l2, st => by simp only [List.cons_append, okNodes, List.foldl_cons, okNodes_append s l1 l2, Bool.and_assoc]
theorem put_len {α : Type} (l : List (Int × α)) (k : Int) (v : α) : l.length ≤ (IMap.put l k v).length ∧ (IMap.get l k = none → (IMap.put l k v).length = l.length + 1) := by
  unfold IMap.put IMap.get
  cases hf : l.findIdx? fun p => p.1 == k with
  | none => simp
  | some j =>
    refine ⟨by simp, fun h => ?_⟩
    simp only [Option.map_eq_none_iff] at h
    have h0 : (l.findIdx? fun p => p.1 == k) = none := List.findIdx?_eq_none_iff.2 (fun x hx => by simpa using List.find?_eq_none.1 h x hx)
    rw [h0] at hf
    cases hf
theorem addT_len (s : Nat) (st : Ent × List Int) (i : Nat) : st.1.length ≤ (addT s st i).1.length ∧ (st.2.length ≤ st.1.length → (addT s st i).2.length ≤ (addT s st i).1.length) := by
  unfold addT
  have h := put_len st.1 ((s ||| 2 ^ i : Nat) : Int) (wayOf st.1 ((s ||| 2 ^ i : Nat) : Int) + wayOf st.1 (s : Int))
  refine ⟨h.1, fun hl => ?_⟩
  dsimp only
  cases hg : IMap.get st.1 ((s ||| 2 ^ i : Nat) : Int) with
  | some v => simpa using Nat.le_trans hl h.1
  | none => have := h.2 hg; simp; omega
theorem fold_len (s : Nat) : ∀ (l : List Nat) (st : Ent × List Int), st.1.length ≤ (l.foldl (addT s) st).1.length
  | [], st => Nat.le_refl _
  | i :: l, st => Nat.le_trans (addT_len s st i).1 (fold_len s l _)
end Go.Proofs.YtplhihakeodadaaDoor.Sg
