/- lattice: what count counts, in plain lists; maps inside a round. -/
import Derived.Test.YtplhihakeodadaaDoorLtBits
import Derived.Test.YtplhihakeodadaaDoorLtReady
import Derived.Test.YtplhihakeodadaaDoorIMap
namespace Go.Proofs.YtplhihakeodadaaDoor.Sg
open Go Go.RowKit Go.MapKept Go.ChangeMaps Go.Proofs.YtplhihakeodadaaDoor.IMap Go.Proofs.YtplhihakeodadaaDoorW.PrintWords Go.Proofs.YtplhihakeodadaaDoorW.PrintLast Go.Proofs.YtplhihakeodadaaDoorW.PrintMore
set_option linter.unusedVariables false
set_option linter.unusedSimpArgs false
section ops
variable {F : Fence} {nF : Nat} {P : Program} {q : IntKind} {w : World} {b : Nat} {l : List (Int × Value)} {ops : Array Oper} {rest : List Oper} {o : Oper} {a : Act} {Q : Exit → Act → World → Prop}
theorem in_look (hg : o.guard = none) (m x : Operand) (t : TypeId) (c : Bool) (hop : o.op = Op.lookup t m x c) {kt et : TypeId} (ht : P.underlying t = some (.map kt et)) (hk : P.underlying kt = some (.int q)) {z : Value} (hz : (zeroValue et).run P w = .ok z w)
    (hm : a.eval m = .map (some b)) (h : IM q w b l) (k : Int) (hx : a.eval x = .int q k)
    (hK : wpListIn F nF P ops Q rest (a.put o.dst (if c then .tuple #[(IMap.get l k).getD z, .bool (IMap.get l k).isSome] else (IMap.get l k).getD z)) w) : wpListIn F nF P ops Q (o :: rest) a w := by
  refine wpListIn_plain hg fun K' hK' => ?_
  unfold Oper.wpIn
  refine ⟨by simp [Oper.about, hop], ?_⟩
  rw [Oper.semAt_plain F _ _ (by rw [hop]; intro c hc'; cases hc')]
  simp only [execOp, hop, hm, hx, h.lookup ht hk hz k c, Result.andThen, Sem.run_bind, Sem.run_pure]
  exact hK' _ _ hK
theorem in_put (hg : o.guard = none) (m x v : Operand) (t : TypeId) (hop : o.op = Op.mapUpdate t m x v) {kt et : TypeId} (ht : P.underlying t = some (.map kt et)) (hk : P.underlying kt = some (.int q))
    (hm : a.eval m = .map (some b)) (h : IM q w b l) (k : Int) (val : Value) (hx : a.eval x = .int q k) (hv : a.eval v = val)
    (hK : ∀ ob, IM q (setBlock w b ob) b (IMap.put l k val) → wpListIn F nF P ops Q rest (a.put o.dst undef) (setBlock w b ob)) : wpListIn F nF P ops Q (o :: rest) a w := by
  refine wpListIn_plain hg fun K' hK' => ?_
  obtain ⟨ob, hrun, h1⟩ := h.update ht hk k val
  unfold Oper.wpIn
  refine ⟨by simp [Oper.about, hop], ?_⟩
  rw [Oper.semAt_plain F _ _ (by rw [hop]; intro c hc'; cases hc')]
  simp [execOp, hop, hm, hx, hv, hrun, Result.andThen]
  exact hK' _ _ (hK ob h1)
/-- What is known of an operation outside a round holds in it, if it gives a value. -/
theorem in_of_value {K : Act → World → Prop} (hdef : ∀ c, o.op ≠ .defer c) (hab : o.about P w a.eval = none) (hval : ∃ r : Result Value, (execOp a.eval o).run P w = r.andThen fun v w' => .ok (.value v) w') (h : Oper.wp P o a w K (fun _ _ _ => False)) : o.wpIn F nF P a w K Q := by
  unfold Oper.wpIn
  refine ⟨fun f hf => (by rw [hab] at hf; cases hf), ?_⟩
  rw [Oper.semAt_plain F _ _ hdef]
  unfold Oper.wp at h
  obtain ⟨r, hr⟩ := hval
  rw [hr] at h ⊢
  cases r with
  | ok v w' => exact h
  | halt x w' => cases x <;> simp only [Result.andThen, Oper.upon] at h
theorem lit_rr (k : IntKind) (W : World) (g : Nat) (y : Int) (hc : W.cell? ⟨g, 0, none⟩ = some (.int k y)) : ReadsRow (fun (p : Int) cs => cs = [.int k p]) 1 W (some ⟨g, 0, none⟩) 1 [y] := by
  refine ⟨rfl, by decide, fun _ => ⟨⟨g, 0, none⟩, rfl, fun j p hj => ?_⟩⟩
  cases j with
  | zero =>
    simp only [List.getElem?_cons_zero, Option.some.injEq] at hj
    subst hj
    refine ⟨[.int k y], rfl, rfl, fun i u hu => ?_⟩
    cases i with
    | zero =>
      simp only [List.getElem?_cons_zero, Option.some.injEq] at hu
      rw [← hu]
      simpa [Addr.add] using hc
    | succ i => simp at hu
  | succ j => simp at hj
/-- An append to a row of whole numbers, in a round. -/
theorem in_append (base : Nat) (hgd : o.guard = none) (s x : Operand) (t e : TypeId) (k : IntKind) (bytes : Nat)
    (ho : o.op = .call { callee := .builtin .append, args := #[s, x], argTypes := #[t, t] })
    (ht : P.underlying t = some (.slice e)) (hinfo : (P.info? e).map (fun i => (i.zero, i.size, i.bytes)) = some (some (.int k 0), 1, bytes))
    (v : Value) (xs : List Int) (y : Int) (g c : Nat) (ok : Nat → Prop) (w0 : World) (hs : a.eval s = v) (hx : a.eval x = .slice (some ⟨g, 0, none⟩) 1 c) (hfresh : ∀ k, w.heap.size ≤ k → ok k)
    (HO : (Kd.int k).R e w base ok v xs) (hc : w.cell? ⟨g, 0, none⟩ = some (.int k y)) (HB : Below base w0 w) (hbase : base ≤ w.heap.size) (hb0 : 0 < bytes) (hb8 : bytes ≤ 8) (hl : xs.length ≤ 1000000000)
    (h : ∀ v1 w1, (Kd.int k).R e w1 base ok v1 (xs ++ [y]) → Below base w0 w1 → w.grownBy w1 v.ownBlock → wpListIn F nF P ops Q rest (a.put o.dst v1) w1) :
    wpListIn F nF P ops Q (o :: rest) a w := by
  have hw : Region.wanted o (yielded ops a.tmps) = true := by simp [Region.wanted, hgd]
  refine wpListIn_plain hgd fun K' hK' => ?_
  refine in_of_value (by rw [ho]; intro c hc; cases hc) (by simp [Oper.about, ho, resolve, Target.leads, Sem.run_pure]) ?_ ?_
  · refine ⟨(Builtin.append_ #[t, t] o.type #[v, .slice (some ⟨g, 0, none⟩) 1 c]).run P w, ?_⟩
    simp [execOp, ho, resolve, invoke, builtin, hs, hx]
  · have hst := Kd.R_append_rows_step (P := P) (ops := ops) (o := o) (a := a) (Q := fun _ _ _ => False) (Kc := K') (Kd.int k) (w0 := w0) (W := w) base hw s x t e (.int k 0) bytes ho ht hinfo rfl Nat.zero_lt_one hb0 v xs [y] (some ⟨g, 0, none⟩) 1 c ok (fun kk => ok kk ∧ some kk ≠ v.ownBlock) hs hx HO (lit_rr k w g y hc) (fun p cs hp => hp) (fun kk hk => hk) hfresh HB hbase (Nat.le_trans (Nat.mul_le_mul_left _ hb8) (by omega)) (fun v1 w1 h1 h2 h3 _ => hK' _ _ (h v1 w1 h1 h2 h3))
    rw [if_pos hw] at hst
    exact hst
end ops
abbrev Ent := List (Int × Int)
def encW (L : Ent) : List (Int × Value) := IMap.vals (fun v => Value.int .i64 v) L
def wayOf (L : Ent) (k : Int) : Int := (IMap.get L k).getD 0
def addT (s : Nat) (st : Ent × List Int) (i : Nat) : Ent × List Int :=
  (IMap.put st.1 ((s ||| 2 ^ i : Nat) : Int) (wayOf st.1 ((s ||| 2 ^ i : Nat) : Int) + wayOf st.1 (s : Int)), if (IMap.get st.1 ((s ||| 2 ^ i : Nat) : Int)).isSome then st.2 else st.2 ++ [((s ||| 2 ^ i : Nat) : Int)])
def rowS (E : List Stp) (N : Nat) (st : Ent × List Int) (s : Int) : Ent × List Int := (nodes (accR E s.toNat N)).foldl (addT s.toNat) st
def levelS (E : List Stp) (N : Nat) (L : Ent) (row : List Int) : Ent × List Int := row.foldl (rowS E N) (L, [])
def runC (E : List Stp) (N : Nat) : Nat → Ent → List Int → Ent × List Int
  | 0, L, row => (L, row)
  | k + 1, L, row => runC E N k (levelS E N L row).1 (levelS E N L row).2
/-- No step of count goes beyond what it is meant for. -/
def okAdd (s : Nat) (st : Ent × List Int) (i : Nat) : Bool := decide (0 ≤ wayOf st.1 (s : Int) ∧ 0 ≤ wayOf st.1 ((s ||| 2 ^ i : Nat) : Int) ∧ wayOf st.1 ((s ||| 2 ^ i : Nat) : Int) + wayOf st.1 (s : Int) ≤ 1152921504606846976)
def okNodes (s : Nat) : List Nat → Ent × List Int → Bool
  | [], _ => true
  | i :: l, st => okAdd s st i && okNodes s l (addT s st i)
def okRow (E : List Stp) (N : Nat) : List Int → Ent × List Int → Bool
  | [], _ => true
  | s :: l, st => decide (0 ≤ s ∧ s < 2 ^ N) && okNodes s.toNat (nodes (accR E s.toNat N)) st && decide ((rowS E N st s).1.length ≤ 65536) && okRow E N l (rowS E N st s)
def okRun (E : List Stp) (N : Nat) : Nat → Ent → List Int → Bool
  | 0, _, _ => true
  | k + 1, L, row => okRow E N row (L, []) && okRun E N k (levelS E N L row).1 (levelS E N L row).2
def countM (E : List Stp) (N : Nat) : Ent := (runC E N N [(0, 1)] [0]).1
def okCount (E : List Stp) (N : Nat) : Bool := okRun E N N [(0, 1)] [0]
end Go.Proofs.YtplhihakeodadaaDoor.Sg
