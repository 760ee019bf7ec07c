/- The saga in plain lists: its states, records, and what takes a record. -/
import Derived.Test.YtplhihakeodadaaDoorSgOrdW
namespace Go.Proofs.YtplhihakeodadaaDoor.Sg
open Go Go.RowKit Go.Proofs.YtplhihakeodadaaDoorW.PrintWords Go.Proofs.YtplhihakeodadaaDoorW.PrintLast Go.Proofs.YtplhihakeodadaaDoorW.PrintMore
set_option linter.unusedVariables false
set_option linter.unusedSimpArgs false
abbrev Pln := List Int × List Int × List Stp × List Stp
structure SS where
  num : Int
  ph : Int
  pl : Pln
  op : List Int
  dn : List Int
structure RR where
  kind : Int
  step : Int
  pl : Pln
def pl0 : Pln := ([], [], [], [])
def ss0 : SS := ⟨0, 0, pl0, [], []⟩
def okPlan (p : Pln) : Bool := decide (p.1.length ≤ 50 ∧ p.2.1.length ≤ 50 ∧ p.2.2.1.length ≤ 100 ∧ p.2.2.2.length ≤ 200)
def bare (p : Pln) : Bool := decide (p.1.length + p.2.1.length + p.2.2.1.length + p.2.2.2.length = 0)
def stepped (k : Int) : Bool := decide (2 ≤ k ∧ k ≤ 4) || k == 6
def formed (r : RR) : Bool := decide (1 ≤ r.kind ∧ r.kind ≤ 8) && (r.kind == 1 || bare r.pl) && (stepped r.kind || r.step == 0)
def isLast (s : Stp) : Bool := s.2 == 3
def may (s : SS) (k : Int) : Bool :=
  decide (0 ≤ k ∧ k < s.pl.2.2.1.length) && !s.op.contains k && !s.dn.contains k &&
    (if isLast (s.pl.2.2.1.getD k.toNat (0, 0)) then s.ph == 3 else s.ph == 1) && !s.pl.2.2.2.any (bars k s.dn)
def top (s : SS) : Int × Bool :=
  if s.ph = 2 then (if s.op ≠ [] then (s.op.getLastD 0, true) else if s.dn ≠ [] then (s.dn.getLastD 0, true) else (0, false)) else (0, false)
def marks (s : SS) : Bool := (List.range s.pl.2.2.1.length).all (fun k => isLast (s.pl.2.2.1.getD k (0, 0)) || s.dn.contains (k : Int)) && s.ph == 1
def ends (s : SS) : Bool :=
  if s.ph = 3 then decide (s.dn.length = s.pl.2.2.1.length) else if s.ph = 2 then decide (s.op.length + s.dn.length = 0) else false
def begins (p : Pln) : Bool := (orderErr p.2.2.1.length p.2.2.2 == 0) && decide (p.2.2.1.length ≤ 36) && !p.2.2.1.any odd
def when (kind ph : Int) : Bool :=
  if kind = 1 then (ph == 0 || ph == 4 || ph == 5) else if kind = 2 ∨ kind = 3 then (ph == 1 || ph == 3)
  else if kind = 4 ∨ kind = 5 ∨ kind = 7 then ph == 1 else if kind = 6 then ph == 2 else (ph == 3 || ph == 2)
def ask (s : SS) (r : RR) : Int :=
  if r.kind = 1 then (if begins r.pl then 0 else 45)
  else if r.kind = 2 then (if may s r.step then 0 else 71)
  else if r.kind = 3 ∨ r.kind = 4 then (if s.op.contains r.step then 0 else 71)
  else if r.kind = 6 then (if (top s).2 && (top s).1 == r.step then 0 else 71)
  else if r.kind = 7 then (if marks s then 0 else 72)
  else if r.kind = 8 then (if ends s then 0 else 72) else 0
def without (k : Int) (l : List Int) : List Int := l.filter (fun y => y != k)
def turn (s : SS) (r : RR) : SS :=
  if r.kind = 1 then ⟨s.num + 1, 1, r.pl, [], []⟩
  else if r.kind = 2 then { s with op := s.op ++ [r.step] }
  else if r.kind = 3 then { s with op := without r.step s.op, dn := s.dn ++ [r.step] }
  else if r.kind = 4 ∨ r.kind = 5 then { s with ph := 2 }
  else if r.kind = 6 then { s with op := without r.step s.op, dn := without r.step s.dn }
  else if r.kind = 7 then { s with ph := 3 }
  else if r.kind = 8 then { s with ph := if s.ph = 3 then 4 else if s.ph = 2 then 5 else 0 } else s
def take (s : SS) (r : RR) : SS × Int :=
  if formed r = false then (ss0, 12) else if when r.kind s.ph = false then (ss0, 70)
  else if ask s r ≠ 0 then (ss0, ask s r) else (turn s r, 0)
/-- All records, one by one: the state, how many were taken, the first error. -/
def replay : SS → List RR → SS × Nat × Int
  | s, [] => (s, 0, 0)
  | s, r :: l => if (take s r).2 ≠ 0 then (s, 0, (take s r).2) else ((replay (take s r).1 l).1, (replay (take s r).1 l).2.1 + 1, (replay (take s r).1 l).2.2)
/-- A set of steps as bits. -/
def maskOf (l : List Int) : Nat := l.foldl (fun a k => a ||| 2 ^ k.toNat) 0
def reached (s : SS) : Nat := maskOf (s.op ++ s.dn)
theorem maskOf_bit (l : List Int) (i : Nat) (h : ∀ k ∈ l, 0 ≤ k) : (maskOf l).testBit i = l.contains (i : Int) := by
  have key : ∀ (l : List Int) (a : Nat), (∀ k ∈ l, 0 ≤ k) → (l.foldl (fun a k => a ||| 2 ^ k.toNat) a).testBit i = (a.testBit i || l.contains (i : Int)) := by
    intro l
    induction l with
    | nil => intro a _; simp
    | cons k l ih =>
      intro a h
      rw [List.foldl_cons, ih _ (fun k' hk => h k' (List.mem_cons_of_mem _ hk)), Nat.testBit_or, Nat.testBit_two_pow, List.contains_cons, Bool.or_assoc]
      congr 2
      have := h k List.mem_cons_self
      rw [Bool.eq_iff_iff]
      simp
      omega
  unfold maskOf
  rw [key l 0 h]
  simp
theorem maskOf_snoc (l : List Int) (k : Int) : maskOf (l ++ [k]) = maskOf l ||| 2 ^ k.toNat := by
  unfold maskOf
  rw [List.foldl_append]
  rfl
theorem maskOf_lt (l : List Int) (n : Nat) (h : ∀ k ∈ l, k.toNat < n) : maskOf l < 2 ^ n := by
  have key : ∀ (l : List Int) (a : Nat), a < 2 ^ n → (∀ k ∈ l, k.toNat < n) → l.foldl (fun a k => a ||| 2 ^ k.toNat) a < 2 ^ n := by
    intro l
    induction l with
    | nil => intro a ha _; exact ha
    | cons k l ih =>
      intro a ha h
      exact ih _ (or_lt ha (pow_lt (h k List.mem_cons_self))) (fun k' hk => h k' (List.mem_cons_of_mem _ hk))
  exact key l 0 (Nat.two_pow_pos n) h
/-! What lies in memory -/
/-- A slice that reads as a list. -/
def Sl {α : Type} (K : Kd α) (w : World) (v : Value) (l : List α) : Prop := ∃ A c, v = .slice A l.length c ∧ l.length ≤ c ∧ K.C w A l.length l
theorem Sl.below {α : Type} {K : Kd α} {w w1 : World} {v : Value} {l : List α} (h : Sl K w v l) (hb : Below w.heap.size w w1) : Sl K w1 v l := by
  obtain ⟨A, c, e, hl, hC⟩ := h
  exact ⟨A, c, e, hl, Kd.C_below hC hb⟩
theorem Sl.of_R {α : Type} {K : Kd α} {w : World} {E base : Nat} {ok : Nat → Prop} {v : Value} {l : List α} (h : Kd.R K E w base ok v l) : Sl K w v l := by
  obtain ⟨A, c, rfl⟩ := Kd.R_slice h
  obtain ⟨_, h1, h2⟩ := Kd.R_reads' h
  exact ⟨A, c, rfl, h1, h2⟩
structure PV where
  f : Value
  t : Value
  st : Value
  b : Value
def PlC (w : World) (V : PV) (p : Pln) : Prop := Sl kI w V.f p.1 ∧ Sl kI w V.t p.2.1 ∧ Sl kP w V.st p.2.2.1 ∧ Sl kP w V.b p.2.2.2
theorem PlC.below {w w1 : World} {V : PV} {p : Pln} (h : PlC w V p) (hb : Below w.heap.size w w1) : PlC w1 V p := ⟨h.1.below hb, h.2.1.below hb, h.2.2.1.below hb, h.2.2.2.below hb⟩
def PlR (w : World) (base : Nat) (V : PV) (p : Pln) : Prop :=
  Kd.R kI 3 w base (fun _ => True) V.f p.1 ∧ Kd.R kI 3 w base (fun _ => True) V.t p.2.1 ∧ Kd.R kP 50 w base (fun _ => True) V.st p.2.2.1 ∧ Kd.R kP 74 w base (fun _ => True) V.b p.2.2.2
theorem PlR.c {w : World} {base : Nat} {V : PV} {p : Pln} (h : PlR w base V p) : PlC w V p := ⟨Sl.of_R h.1, Sl.of_R h.2.1, Sl.of_R h.2.2.1, Sl.of_R h.2.2.2⟩
theorem PlR.below {w w1 : World} {base : Nat} {V : PV} {p : Pln} (h : PlR w base V p) (hb : Below w.heap.size w w1) : PlR w1 base V p := ⟨Kd.R_below h.1 hb, Kd.R_below h.2.1 hb, Kd.R_below h.2.2.1 hb, Kd.R_below h.2.2.2 hb⟩
theorem PlR.lower {w : World} {base base' : Nat} {V : PV} {p : Pln} (h : PlR w base V p) (hb : base' ≤ base) : PlR w base' V p := ⟨Kd.R_lower h.1 hb, Kd.R_lower h.2.1 hb, Kd.R_lower h.2.2.1 hb, Kd.R_lower h.2.2.2 hb⟩
structure SV where
  p : PV
  o : Value
  d : Value
def StC (w : World) (V : SV) (s : SS) : Prop := PlC w V.p s.pl ∧ Sl kI w V.o s.op ∧ Sl kI w V.d s.dn
theorem StC.below {w w1 : World} {V : SV} {s : SS} (h : StC w V s) (hb : Below w.heap.size w w1) : StC w1 V s := ⟨h.1.below hb, h.2.1.below hb, h.2.2.below hb⟩
def StR (w : World) (base : Nat) (V : SV) (s : SS) : Prop := PlR w base V.p s.pl ∧ Kd.R kI 3 w base (fun _ => True) V.o s.op ∧ Kd.R kI 3 w base (fun _ => True) V.d s.dn
theorem StR.c {w : World} {base : Nat} {V : SV} {s : SS} (h : StR w base V s) : StC w V s := ⟨h.1.c, Sl.of_R h.2.1, Sl.of_R h.2.2⟩
theorem StR.below {w w1 : World} {base : Nat} {V : SV} {s : SS} (h : StR w base V s) (hb : Below w.heap.size w w1) : StR w1 base V s := ⟨h.1.below hb, Kd.R_below h.2.1 hb, Kd.R_below h.2.2 hb⟩
theorem StR.lower {w : World} {base base' : Nat} {V : SV} {s : SS} (h : StR w base V s) (hb : base' ≤ base) : StR w base' V s := ⟨h.1.lower hb, Kd.R_lower h.2.1 hb, Kd.R_lower h.2.2 hb⟩
def plv (V : PV) : Array Value := #[V.f, V.t, V.st, V.b]
def stv (V : SV) (s : SS) : Array Value := #[.int .i64 s.num, .int .i64 s.ph, V.p.f, V.p.t, V.p.st, V.p.b, V.o, V.d]
def rrv (U : PV) (r : RR) : Array Value := #[.int .i64 r.kind, .int .i64 r.step, U.f, U.t, U.st, U.b]
def pv0 : PV := ⟨.slice none 0 0, .slice none 0 0, .slice none 0 0, .slice none 0 0⟩
def sv0 : SV := ⟨pv0, .slice none 0 0, .slice none 0 0⟩
theorem PlR.zero (w : World) (base : Nat) : PlR w base pv0 pl0 := ⟨Kd.R_nil _ _ _ _ _, Kd.R_nil _ _ _ _ _, Kd.R_nil _ _ _ _ _, Kd.R_nil _ _ _ _ _⟩
theorem StR.zero (w : World) (base : Nat) : StR w base sv0 ss0 := ⟨PlR.zero _ _, Kd.R_nil _ _ _ _ _, Kd.R_nil _ _ _ _ _⟩
/-- A state that is small, by how much has befallen it. -/
structure Bd (k : Nat) (s : SS) : Prop where
  n0 : 0 ≤ s.num
  n1 : s.num ≤ k
  o : s.op.length ≤ k
  d : s.dn.length ≤ k
  p : okPlan s.pl = true
theorem okPlan_le {p : Pln} (h : okPlan p = true) : p.1.length ≤ 50 ∧ p.2.1.length ≤ 50 ∧ p.2.2.1.length ≤ 100 ∧ p.2.2.2.length ≤ 200 := of_decide_eq_true h
theorem Bd.zero (k : Nat) : Bd k ss0 := ⟨Int.le_refl 0, Int.natCast_nonneg k, Nat.zero_le _, Nat.zero_le _, rfl⟩
theorem without_le (k : Int) (l : List Int) : (without k l).length ≤ l.length := List.length_filter_le _ _
theorem Bd.take {k : Nat} {s : SS} {r : RR} (h : Bd k s) (hr : okPlan r.pl = true) : Bd (k + 1) (take s r).1 := by
  obtain ⟨h1, h2, h3, h4, h5⟩ := h
  have w1 := without_le r.step s.op
  have w2 := without_le r.step s.dn
  unfold Sg.take
  split
  · exact Bd.zero _
  split
  · exact Bd.zero _
  split
  · exact Bd.zero _
  · dsimp only
    unfold turn
    repeat' split
    all_goals first
      | exact ⟨by dsimp only; omega, by dsimp only; omega, by simp, by simp, hr⟩
      | exact ⟨h1, by (first | omega | (dsimp only; omega)), by (first | omega | (simp; omega) | (dsimp only; omega)), by (first | omega | (simp; omega) | (dsimp only; omega)), h5⟩
end Go.Proofs.YtplhihakeodadaaDoor.Sg
