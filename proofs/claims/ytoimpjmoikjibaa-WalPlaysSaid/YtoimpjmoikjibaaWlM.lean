/- The log, plainly: what its calls do to a dock and to the log. -/
import Derived.Test.YtoimpjmoikjibaaFr
import Derived.Test.YtoimpjmoikjibaaDkM
import Derived.Test.YtoimpjmoikjibaaWlR
import Derived.Test.YtoimpjmoikjibaaDkL
namespace Go.Proofs.Ytoimpjmoikjibaa.Wl
open Go Go.Proofs.Ytoimpjmoikjibaa.IMap Go.Proofs.Ytoimpjmoikjibaa.Dk Go.Proofs.Ytoimpjmoikjibaa.Pure
set_option linter.unusedVariables false
set_option linter.unusedSimpArgs false
structure WS where
  name : Int
  size : Int
  base : List Int
  recs : List (List Int)
  closed : Bool
/-- A log as Open has it first. -/
def ws0 : WS := ⟨-1, 0, [], [], false⟩
def told (t : WS) (e : Int) : WS := { t with closed := t.closed || e == 51 }
def beginS (s : DS) (t : WS) (k : Int) (b : List Int) : Int × DS × WS :=
  if 65535 < b.length then (11, s, t) else
  if (app s k (frame (0 :: b))).1 ≠ 0 then ((app s k (frame (0 :: b))).1, (app s k (frame (0 :: b))).2, t) else
  if (syn (app s k (frame (0 :: b))).2 k).1 ≠ 0 then ((syn (app s k (frame (0 :: b))).2 k).1, (syn (app s k (frame (0 :: b))).2 k).2, t) else
  (0, (syn (app s k (frame (0 :: b))).2 k).2, { t with name := k, base := b, recs := [], size := ((b.length + 9 : Nat) : Int) })
/-- The whole file of the greatest name: its name, its log, its length. -/
def pick (acc : Option (Int × (List Int × List (List Int) × Nat) × Nat)) (p : Int × (List Int × Nat)) : Option (Int × (List Int × List (List Int) × Nat) × Nat) :=
  match wlog p.2.1 with
  | some x => some (p.1, x, p.2.1.length)
  | none => acc
def findW (M : Fls) : Option (Int × (List Int × List (List Int) × Nat) × Nat) := M.foldl pick none
def foundT (t : WS) : Option (Int × (List Int × List (List Int) × Nat) × Nat) → WS
  | none => { t with name := -1 }
  | some (k, x, n) => { t with name := k, base := x.1, recs := x.2.1, size := (x.2.2 : Int) }
def foundN : Option (Int × (List Int × List (List Int) × Nat) × Nat) → Nat
  | none => 0
  | some (k, x, n) => n
def rmAll (keep : Int) : List Int → DS → Int × DS
  | [], s => (0, s)
  | k :: r, s => if k = keep then rmAll keep r s else if (rmv s k).1 ≠ 0 then rmv s k else rmAll keep r (rmv s k).2
/-- The end of Open, behind the removals. -/
def openE (s : DS) (t : WS) (n : Nat) : Int × DS × WS :=
  if t.name < 0 then beginS s t 0 [] else
  if t.size < (n : Int) then
    (if (cut s t.name t.size).1 ≠ 0 then ((cut s t.name t.size).1, (cut s t.name t.size).2, t) else
      ((syn (cut s t.name t.size).2 t.name).1, (syn (cut s t.name t.size).2 t.name).2, t))
  else ((syn s t.name).1, (syn s t.name).2, t)
def openS (s : DS) : Int × DS × WS :=
  if s.down = true then (51, s, ws0) else
  if (rmAll (foundT ws0 (findW s.M)).name (keys s.M) s).1 ≠ 0 then ((rmAll (foundT ws0 (findW s.M)).name (keys s.M) s).1, (rmAll (foundT ws0 (findW s.M)).name (keys s.M) s).2, ws0) else
  openE (rmAll (foundT ws0 (findW s.M)).name (keys s.M) s).2 (foundT ws0 (findW s.M)) (foundN (findW s.M))
def appL (s : DS) (t : WS) (b : List Int) : Int × DS × WS :=
  if t.closed = true then (74, s, t) else
  if 65535 < b.length then (11, s, t) else
  if (app s t.name (frame (1 :: b))).1 ≠ 0 then ((app s t.name (frame (1 :: b))).1, (app s t.name (frame (1 :: b))).2, told t (app s t.name (frame (1 :: b))).1) else
  (0, (app s t.name (frame (1 :: b))).2, { t with recs := t.recs ++ [b], size := t.size + ((b.length + 9 : Nat) : Int) })
def synL (s : DS) (t : WS) : Int × DS × WS :=
  if t.closed = true then (74, s, t) else ((syn s t.name).1, (syn s t.name).2, told t (syn s t.name).1)
def rotL (s : DS) (t : WS) (b : List Int) : Int × DS × WS :=
  if t.closed = true then (74, s, t) else
  if (beginS s t (t.name + 1) b).1 ≠ 0 then ((beginS s t (t.name + 1) b).1, (beginS s t (t.name + 1) b).2.1, told (beginS s t (t.name + 1) b).2.2 (beginS s t (t.name + 1) b).1) else
  ((rmv (beginS s t (t.name + 1) b).2.1 t.name).1, (rmv (beginS s t (t.name + 1) b).2.1 t.name).2, told (beginS s t (t.name + 1) b).2.2 (rmv (beginS s t (t.name + 1) b).2.1 t.name).1)
/-- All bytes of a dock are bytes. -/
def BD (s : DS) : Prop := ∀ p ∈ s.M, B p.2.1
end Go.Proofs.Ytoimpjmoikjibaa.Wl
namespace Go.Proofs.Ytoimpjmoikjibaa.Wl
open Go Go.RowKit Go.Proofs.Ytoimpjmoikjibaa.IMap Go.Proofs.Ytoimpjmoikjibaa.Pure Go.Proofs.Ytoimpjmoikjibaa.P Go.Proofs.Ytoimpjmoikjibaa.Dk Go.Proofs.YtoimpjmoikjibaaW.PrintWords Go.Proofs.YtoimpjmoikjibaaW.PrintLast Go.Proofs.YtoimpjmoikjibaaW.PrintMore
set_option linter.unusedVariables false
set_option linter.unusedSimpArgs false
abbrev kB : Kd Int := Kd.int .u8
abbrev kBs : Kd (List Int) := Kd.slice 5 (Kd.int .u8)
def logv (g : Nat) (t : WS) (vb vr : Value) : Array Value := #[.pointer (some ⟨g, 0, none⟩), .int .i64 t.name, .int .i64 t.size, vb, vr, .bool t.closed]
/-- The log at l, its dock at g: S, U: what the dock, what the log may reach. -/
structure LgI (w : World) (g l : Nat) (S U : Nat → Prop) (s : DS) (t : WS) (vb vr : Value) : Prop where
  dk : Dk w g S s
  lc : w.heap[l]? = some (.cells (logv g t vb vr) 103 (0, 0))
  us : ∀ k, U k → ¬ S k ∧ k ≠ l
  ub : ∀ k, U k → k < w.heap.size
  sb : ∀ k, S k → k < w.heap.size
  ls : ¬ S l
  base : Kd.V kB 5 w 0 (fun k => U k ∧ some k ≠ vr.ownBlock) vb t.base
  recs : Kd.N kBs 22 w 0 U vr t.recs
section
variable {w w1 : World} {g l : Nat} {S U : Nat → Prop} {s s1 : DS} {t : WS} {vb vr : Value}
theorem LgI.lt (h : LgI w g l S U s t vb vr) : l < w.heap.size := blk_lt h.lc
theorem LgI.c0 (h : LgI w g l S U s t vb vr) : w.cell? ⟨l, 0, none⟩ = some (.pointer (some ⟨g, 0, none⟩)) := (blk_cell h.lc) 0
theorem LgI.c1 (h : LgI w g l S U s t vb vr) : w.cell? ⟨l, 1, none⟩ = some (.int .i64 t.name) := (blk_cell h.lc) 1
theorem LgI.c2 (h : LgI w g l S U s t vb vr) : w.cell? ⟨l, 2, none⟩ = some (.int .i64 t.size) := (blk_cell h.lc) 2
theorem LgI.c3 (h : LgI w g l S U s t vb vr) : w.cell? ⟨l, 3, none⟩ = some vb := (blk_cell h.lc) 3
theorem LgI.c4 (h : LgI w g l S U s t vb vr) : w.cell? ⟨l, 4, none⟩ = some vr := (blk_cell h.lc) 4
theorem LgI.c5 (h : LgI w g l S U s t vb vr) : w.cell? ⟨l, 5, none⟩ = some (.bool t.closed) := (blk_cell h.lc) 5
theorem LgI.fz (h : LgI w g l S U s t vb vr) (o : Nat) : w.frozen? ⟨l, o, none⟩ = false := free_of h.lc o
/-- The dock has turned. -/
theorem LgI.dock (h : LgI w g l S U s t vb vr) (hd : Dk w1 g (Fr S w w1) s1) (hc : Chg S w w1) : LgI w1 g l (Fr S w w1) U s1 t vb vr where
  dk := hd
  lc := (hc.2 l h.lt h.ls).trans h.lc
  us := fun k hk => ⟨fun hf => by
    rcases hf with hf | hf
    · exact (h.us k hk).1 hf
    · have := h.ub k hk; omega, (h.us k hk).2⟩
  ub := fun k hk => Nat.lt_of_lt_of_le (h.ub k hk) hc.1.size
  sb := fun k hk => by
    have := hc.1.size
    rcases hk with hk | hk
    · have := h.sb k hk; omega
    · exact hk.2
  ls := fun hf => by
    rcases hf with hf | hf
    · exact h.ls hf
    · have := h.lt; omega
  base := Kd.V_step h.base (fun k hk hlt => hc.2 k hlt (h.us k hk.1).1)
  recs := Kd.N_step h.recs (fun k hk hlt => hc.2 k hlt (h.us k hk).1)
theorem LgI.below (h : LgI w g l S U s t vb vr) (hb : Below w.heap.size w w1) : LgI w1 g l S U s t vb vr where
  dk := h.dk.below hb
  lc := blk_below h.lc hb
  us := h.us
  ub := fun k hk => Nat.lt_of_lt_of_le (h.ub k hk) hb.size
  sb := fun k hk => Nat.lt_of_lt_of_le (h.sb k hk) hb.size
  ls := h.ls
  base := Kd.V_below h.base hb
  recs := Kd.N_below h.recs hb
/-- The log's own cells have turned. -/
theorem LgI.set {t1 : WS} {vb1 vr1 : Value} {U1 : Nat → Prop} (h : LgI w g l S U s t vb vr) (ha : At1 l w w1) (hc : w1.heap[l]? = some (.cells (logv g t1 vb1 vr1) 103 (0, 0)))
    (hu : ∀ k, U1 k → ¬ S k ∧ k ≠ l) (hub : ∀ k, U1 k → k < w.heap.size) (hb : Kd.V kB 5 w 0 (fun k => U1 k ∧ some k ≠ vr1.ownBlock) vb1 t1.base) (hr : Kd.N kBs 22 w 0 U1 vr1 t1.recs) : LgI w1 g l S U1 s t1 vb1 vr1 where
  dk := h.dk.move fun k hk _ => ha.2.2 k (fun e => h.ls (e ▸ hk))
  lc := hc
  us := hu
  ub := fun k hk => by rw [ha.2.1]; exact hub k hk
  sb := fun k hk => by rw [ha.2.1]; exact h.sb k hk
  ls := h.ls
  base := Kd.V_step hb (fun k hk _ => ha.2.2 k (hu k hk.1).2)
  recs := Kd.N_step hr (fun k hk _ => ha.2.2 k (hu k hk).2)
end
theorem LgI.row_ne {w : World} {g l : Nat} {S U : Nat → Prop} {s : DS} {t : WS} {vb vr : Value} (h : LgI w g l S U s t vb vr) : some l ≠ vr.ownBlock ∧ ∀ k, S k → some k ≠ vr.ownBlock :=
  ⟨fun e => (h.us l (h.recs.1 l e.symm)).2 rfl, fun k hk e => (h.us k (h.recs.1 k e.symm)).1 hk⟩
/-- A record is put behind the others. -/
theorem LgI.app {w w6 : World} {g l : Nat} {S U : Nat → Prop} {s : DS} {t : WS} {vb vr v1 : Value} {p : List Int} (h : LgI w g l S U s t vb vr) (hg : w.grownBy w6 vr.ownBlock) (hat : v1.ownBlock = vr.ownBlock ∨ ∃ b, v1.ownBlock = some b ∧ w.heap.size ≤ b)
    (B0 : Nat) (hB0 : B0 ≤ w.heap.size) (hS0 : ∀ k, S k → k < B0) (hl0 : l < B0) (hN : Kd.N kBs 22 w6 0 (fun k => U k ∨ B0 ≤ k) v1 (t.recs ++ [p])) (z : Int) :
    LgI ((w6.setCell ⟨l, 4, none⟩ v1).setCell ⟨l, 2, none⟩ (.int .i64 z)) g l S (fun k => (U k ∨ B0 ≤ k) ∧ k < w6.heap.size) s { t with recs := t.recs ++ [p], size := z } vb v1 ∧ Chg (fun k => k = l ∨ U k) w ((w6.setCell ⟨l, 4, none⟩ v1).setCell ⟨l, 2, none⟩ (.int .i64 z)) := by
  obtain ⟨hne, hneS⟩ := h.row_ne
  have hA := (At1.set w6 l 4 v1).trans (At1.set _ l 2 (.int .i64 z))
  obtain ⟨W, hW⟩ : ∃ W, (w6.setCell ⟨l, 4, none⟩ v1).setCell ⟨l, 2, none⟩ (.int .i64 z) = W := ⟨_, rfl⟩
  have hlc : W.heap[l]? = some (.cells (logv g { t with recs := t.recs ++ [p], size := z } vb v1) 103 (0, 0)) := by
    rw [← hW]
    exact box_set (box_set (blk_grown h.lc hg hne) v1) (.int .i64 z)
  rw [hW] at hA ⊢
  have hsz : w.heap.size ≤ w6.heap.size := hg.size
  have hmv : ∀ k, k < w.heap.size → k ≠ l → some k ≠ vr.ownBlock → W.heap[k]? = w.heap[k]? := fun k hk h1 h2 => (hA.2.2 k h1).trans (hg.block k hk h2)
  refine ⟨{ dk := h.dk.move (fun k hk hlt => hmv k hlt (fun e => h.ls (e ▸ hk)) (hneS k hk)), lc := hlc, us := ?_, ub := fun k hk => by rw [hA.2.1]; exact hk.2, sb := fun k hk => by rw [hA.2.1]; have := h.sb k hk; omega, ls := h.ls, base := ?_, recs := ?_ }, ?_⟩
  · intro k hk
    rcases hk.1 with hk | hk
    · exact h.us k hk
    · exact ⟨fun hs => by have := hS0 k hs; omega, by omega⟩
  · have h1 := Kd.V_after (ok := U) h.base hg hat
    exact Kd.V_mono (Kd.V_step (Kd.V_bound h1) (fun k hk _ => hA.2.2 k (h.us k hk.1.1).2)) (fun k hk => ⟨⟨.inl hk.1.1, hk.2⟩, hk.1.2⟩)
  · exact Kd.N_step (Kd.N_bound hN) (fun k hk _ => hA.2.2 k (by rcases hk.1 with h1 | h1; exact (h.us k h1).2; omega))
  · refine ⟨?_, fun k hk hn => hmv k hk (fun e => hn (.inl e)) (fun e => hn (.inr (h.recs.1 k e.symm)))⟩
    have b1 : Below 0 w w6 := ⟨hg.os, hg.tape, hg.output, hsz, fun k hk => absurd hk (Nat.not_lt_zero k)⟩
    exact b1.trans hA.1
/-- The log and its dock: all that they may reach lies in T. -/
def Lg (w : World) (g l : Nat) (T : Nat → Prop) (s : DS) (t : WS) : Prop :=
  ∃ S U vb vr, LgI w g l S U s t vb vr ∧ (∀ k, S k → T k) ∧ (∀ k, U k → T k) ∧ T l ∧ ∀ k, T k → k < w.heap.size
/-- What a call of the log has done. -/
def LTurned (w : World) (g l : Nat) (T : Nat → Prop) (r : Int × DS × WS) (e : Ending) (w' : World) : Prop := e = .returned (.int .i64 r.1) ∧ Lg w' g l (Fr T w w') r.2.1 r.2.2 ∧ Chg T w w'
theorem Lg.of {w0 w : World} {g l : Nat} {T S U : Nat → Prop} {s : DS} {t : WS} {vb vr : Value} (h : LgI w g l S U s t vb vr) (hS : ∀ k, S k → Fr T w0 w k) (hU : ∀ k, U k → Fr T w0 w k) (hl : Fr T w0 w l) (hT : ∀ k, T k → k < w0.heap.size) (hs : w0.heap.size ≤ w.heap.size) : Lg w g l (Fr T w0 w) s t :=
  ⟨S, U, vb, vr, h, hS, hU, hl, fun k hk => by
    rcases hk with hk | hk
    · have := hT k hk; omega
    · exact hk.2⟩
theorem Fr.up {S T : Nat → Prop} {w0 w w1 : World} (h : ∀ k, S k → Fr T w0 w k) (h0 : w0.heap.size ≤ w.heap.size) (h1 : w.heap.size ≤ w1.heap.size) : ∀ k, Fr S w w1 k → Fr T w0 w1 k := fun k hk => by
  rcases hk with hk | hk
  · rcases h k hk with hk | hk
    · exact .inl hk
    · exact .inr ⟨hk.1, by omega⟩
  · exact .inr ⟨by omega, hk.2⟩
theorem Fr.grow {S T : Nat → Prop} {w0 w w1 : World} (h : ∀ k, S k → Fr T w0 w k) (h1 : w.heap.size ≤ w1.heap.size) : ∀ k, S k → Fr T w0 w1 k := fun k hk => by
  rcases h k hk with hk | hk
  · exact .inl hk
  · exact .inr ⟨hk.1, by omega⟩
theorem Chg.frm {S T : Nat → Prop} {w0 w w1 : World} (h : Chg T w0 w) (h1 : Chg S w w1) (hS : ∀ k, S k → Fr T w0 w k) : Chg T w0 w1 := Chg.fr h (Chg.mono h1 hS)
/-- A row of bytes that is only read: what it leads to is old. -/
theorem C_F {w : World} {A : Option Addr} {xs : List Int} (h : Kd.C kB w A xs.length xs) : Kd.F kB w (fun k => k < w.heap.size) A xs.length xs := fun W' hW => by
  cases A with
  | none => exact ⟨h.1, h.2.1, fun hn => by obtain ⟨ad, e, _⟩ := h.2.2 hn; cases e⟩
  | some ad =>
    by_cases c : xs.length = 0
    · exact ⟨h.1, h.2.1, fun hn => by omega⟩
    · have hlt : ad.block < w.heap.size := by
        obtain ⟨ad', e', hc⟩ := h.2.2 (by omega)
        cases e'
        obtain ⟨cs, h1, h2, h3⟩ := hc 0 _ (List.getElem?_eq_getElem (by omega))
        have h2' : cs = [Value.int .u8 _] := h2
        subst h2'
        have h5 := World.block_lt_of_cell? w _ (h3 0 _ rfl)
        have e : (ad.add (0 * kB.sz + 0)).block = ad.block := by unfold Addr.add; split <;> rfl
        omega
      exact C_block h (hW ad.block hlt hlt)
theorem V_of_C {w : World} {A : Option Addr} {c : Nat} {xs : List Int} (h : Kd.C kB w A xs.length xs) (hc : xs.length ≤ c) (base : Nat) : Kd.V kB 5 w base (fun k => k < w.heap.size) (.slice A xs.length c) xs := Kd.V_mk hc (C_F h)
/-- An argument of a log's call: a row of bytes that lies apart from all that the log and its dock may reach. -/
structure Arg (w : World) (T : Nat → Prop) (A : Option Addr) (c : Nat) (b : List Int) : Prop where
  v : ∃ P, Kd.V kB 5 w 0 P (.slice A b.length c) b ∧ ∀ k, P k → ¬ T k
theorem Arg.c {w : World} {T : Nat → Prop} {A : Option Addr} {c : Nat} {b : List Int} (h : Arg w T A c b) : Kd.C kB w A b.length b ∧ b.length ≤ c := by
  obtain ⟨P, hv, _⟩ := h.v
  have := Kd.V_reads' hv
  exact ⟨this.2.2, this.2.1⟩
theorem Arg.move {w w1 : World} {T : Nat → Prop} {A : Option Addr} {c : Nat} {b : List Int} (h : Arg w T A c b) (hc : Chg T w w1) : Arg w1 (Fr T w w1) A c b := by
  obtain ⟨P, hv, hp⟩ := h.v
  refine ⟨fun k => P k ∧ k < w.heap.size, Kd.V_step (Kd.V_bound hv) (fun k hk hlt => hc.2 k hlt (hp k hk.1)), fun k hk hf => ?_⟩
  rcases hf with hf | hf
  · exact hp k hk.1 hf
  · have := hk.2; omega
theorem Arg.nil (w : World) (T : Nat → Prop) : Arg w T none 0 [] := ⟨fun _ => False, Kd.V_nil _ _ _ _ _, fun _ h => h.elim⟩
end Go.Proofs.Ytoimpjmoikjibaa.Wl
namespace Go.Proofs.Ytoimpjmoikjibaa.Wl
open Go Go.RowKit Go.Proofs.Ytoimpjmoikjibaa.IMap Go.Proofs.Ytoimpjmoikjibaa.Pure Go.Proofs.Ytoimpjmoikjibaa.P Go.Proofs.Ytoimpjmoikjibaa.Dk Go.Proofs.YtoimpjmoikjibaaW.PrintWords Go.Proofs.YtoimpjmoikjibaaW.PrintLast Go.Proofs.YtoimpjmoikjibaaW.PrintMore
set_option linter.unusedVariables false
set_option linter.unusedSimpArgs false
theorem framed_T (a : Int) (A : Option Addr) (c : Nat) (b : List Int) (w : World) (hr : Kd.C kB w A b.length b) (hc : b.length ≤ c) (ha : 0 ≤ a ∧ a < 256) (hB : B b) (hm : b.length ≤ 100000000000) :
    Calls Try.prog 59 #[.int .u8 a, .slice A b.length c] w fun e w' => ∃ v, e = .returned (.tuple #[v, .bool (decide (b.length ≤ 65535))]) ∧ Kd.R kB 5 w' w.heap.size (fun _ => True) v (if b.length ≤ 65535 then frame (a :: b) else []) ∧ Below w.heap.size w w' := by
  by_cases h : b.length ≤ 65535
  · obtain ⟨k, hk⟩ := framed_ev a b ha hB h
    rw [decide_eq_true h, if_pos h]
    exact wal_framed.calls k a A c b _ _ w hr hc (hk k (Nat.le_refl _))
  · obtain ⟨k, hk⟩ := framed_big_ev a b (by omega) hm
    rw [decide_eq_false h, if_neg h]
    exact wal_framed.calls k a A c b _ _ w hr hc (hk k (Nat.le_refl _))
section
variable {w : World} {g l : Nat} {T : Nat → Prop} {s : DS} {t : WS}
theorem box4 {w : World} {l T : Nat} {a0 a1 a2 a3 a4 a5 b1 b2 b3 b4 : Value} (h : w.heap[l]? = some (.cells #[a0, a1, a2, a3, a4, a5] T (0, 0))) :
    (w.setCell ⟨l, 1, none⟩ b1).heap[l]? = some (.cells #[a0, b1, a2, a3, a4, a5] T (0, 0)) ∧
    ((w.setCell ⟨l, 1, none⟩ b1).setCell ⟨l, 3, none⟩ b3).heap[l]? = some (.cells #[a0, b1, a2, b3, a4, a5] T (0, 0)) ∧
    (((w.setCell ⟨l, 1, none⟩ b1).setCell ⟨l, 3, none⟩ b3).setCell ⟨l, 4, none⟩ b4).heap[l]? = some (.cells #[a0, b1, a2, b3, b4, a5] T (0, 0)) ∧
    ((((w.setCell ⟨l, 1, none⟩ b1).setCell ⟨l, 3, none⟩ b3).setCell ⟨l, 4, none⟩ b4).setCell ⟨l, 2, none⟩ b2).heap[l]? = some (.cells #[a0, b1, b2, b3, b4, a5] T (0, 0)) := by
  have h1 : (w.setCell ⟨l, 1, none⟩ b1).heap[l]? = some (.cells #[a0, b1, a2, a3, a4, a5] T (0, 0)) := box_set h b1
  have h2 : ((w.setCell ⟨l, 1, none⟩ b1).setCell ⟨l, 3, none⟩ b3).heap[l]? = some (.cells #[a0, b1, a2, b3, a4, a5] T (0, 0)) := box_set h1 b3
  have h3 : (((w.setCell ⟨l, 1, none⟩ b1).setCell ⟨l, 3, none⟩ b3).setCell ⟨l, 4, none⟩ b4).heap[l]? = some (.cells #[a0, b1, a2, b3, b4, a5] T (0, 0)) := box_set h2 b4
  exact ⟨h1, h2, h3, box_set h3 b2⟩
theorem At1.four (w : World) (l : Nat) (b1 b2 b3 b4 : Value) : At1 l w ((((w.setCell ⟨l, 1, none⟩ b1).setCell ⟨l, 3, none⟩ b3).setCell ⟨l, 4, none⟩ b4).setCell ⟨l, 2, none⟩ b2) :=
  (((At1.set w l 1 b1).trans (At1.set _ l 3 b3)).trans (At1.set _ l 4 b4)).trans (At1.set _ l 2 b2)
set_option maxHeartbeats 4000000 in
set_option maxRecDepth 100000 in
theorem begin_T (h : Lg w g l T s t) (k : Int) (A : Option Addr) (c : Nat) (b : List Int) (hA : Arg w T A c b) (hB : B b) (hm : b.length ≤ 100000000) :
    Calls Try.prog 58 #[.pointer (some ⟨l, 0, none⟩), .int .i64 k, .slice A b.length c] w (LTurned w g l T (beginS s t k b)) := by
  obtain ⟨S, U, vb, vr, hI, hS, hU, hl, hT⟩ := h
  have KF := Aside0.mk (framed_T 0 A c b w hA.c.1 hA.c.2 (by decide) hB (by omega))
  have HI := Aside0.mk hI
  have HA := Aside0.mk hA
  have HS := Aside0.mk hS
  have HU := Aside0.mk hU
  have HL := Aside0.mk hl
  have HT := Aside0.mk hT
  have HM := Aside0.mk hm
  obtain ⟨r, hr⟩ : ∃ r, beginS s t k b = r := ⟨_, rfl⟩
  rw [hr]
  have HR := Aside0.mk hr
  obtain ⟨nb, hnb⟩ : ∃ n, b.length = n := ⟨_, rfl⟩
  have HNB := Aside0.mk hnb
  rw [hnb] at KF ⊢
  clear hI hA hB hm hS hU hl hT hr
  go_enter Try.func58, Try.ntmps58
  go_wp2_with (fail)
  refine KF.out.mono ?_
  rintro e w1 ⟨v, rfl, hv, hb⟩
  have HB1 := Aside0.mk hb
  have HI1 := Aside0.mk (HI.out.below hb)
  by_cases hbig : nb ≤ 65535
  · rw [decide_eq_true hbig]
    rw [if_pos hbig] at hv
    obtain ⟨fr, hfr⟩ : ∃ f, frame (0 :: b) = f := ⟨_, rfl⟩
    rw [hfr] at hv
    have hfl : fr.length = nb + 9 := by rw [← hfr, frame_len]; simp only [List.length_cons]; omega
    obtain ⟨A1, c1, rfl⟩ := Kd.R_slice hv
    have KA := Aside0.mk (Append_T w1 g S s k A1 c1 fr HI1.out.dk (Kd.R_reads' hv).2.2 (by omega))
    have hl0 := HI1.out.c0
    have HFR := Aside0.mk hfr
    obtain ⟨nf, hnf⟩ : ∃ n, fr.length = n := ⟨_, rfl⟩
    rw [hnf] at KA hfl ⊢
    have HFL := Aside0.mk hfl
    obtain ⟨a1, ha1⟩ : ∃ x, app s k fr = x := ⟨_, rfl⟩
    rw [ha1] at KA
    have HA1 := Aside0.mk ha1
    clear KF hb hv hfr hnf ha1 hfl
    by_cases z1 : a1.1 = 0
    · go_wp2_with (fail)
      refine KA.out.mono ?_
      rintro e w2 ⟨rfl, hd, hc⟩
      rw [z1]
      have HC2 := Aside0.mk (Chg.trans (Chg.ofBelow (S := S) HB1.out) hc)
      have HI2 := Aside0.mk (HI1.out.dock hd hc)
      have HZ1 := Aside0.mk z1
      have HW12 := Aside0.mk hc.1.size
      clear KA hl0 hd hc z1
      have hl0 := HI2.out.c0
      have KS := Aside0.mk (Sync_T w2 g _ a1.2 k HI2.out.dk)
      obtain ⟨a2, ha2⟩ : ∃ x, syn a1.2 k = x := ⟨_, rfl⟩
      rw [ha2] at KS
      have HA2 := Aside0.mk ha2
      clear ha2
      by_cases z2 : a2.1 = 0
      · go_wp2_with (fail)
        refine KS.out.mono ?_
        rintro e w3 ⟨rfl, hd, hc⟩
        rw [z2]
        have HI3 := Aside0.mk (HI2.out.dock hd hc)
        have HCA : Aside0 (Chg T w w3) := ⟨by
          have h1 := Chg.mono HC2.out HS.out
          refine Chg.fr h1 (Chg.mono hc fun q hq => ?_)
          rcases hq with hq | hq
          · exact .inl (HS.out q hq)
          · exact .inr ⟨by have := HB1.out.size; omega, hq.2⟩⟩
        have HZ2 := Aside0.mk z2
        clear KS hl0 hd hc z2
        have HAC := HA.out.move HCA.out
        have KC := Aside0.mk (Clone_T A c b w3 HAC.c.1 HAC.c.2 (by have := HM.out; omega))
        rw [HNB.out] at KC
        clear HAC hnb
        go_wp2_with (fail)
        refine KC.out.mono ?_
        rintro e w4 ⟨v4, rfl, hv4, hb4⟩
        obtain ⟨A4, c4, rfl⟩ := Kd.R_slice hv4
        rw [HNB.out] at hv4 ⊢
        have HB4 := Aside0.mk hb4
        have HV4 := Aside0.mk hv4
        have HI4 := Aside0.mk (HI3.out.below hb4)
        have HX := Aside0.mk (box4 (b1 := .int .i64 k) (b2 := .int .i64 (nf : Int)) (b3 := .slice A4 nb c4) (b4 := .slice none 0 0) HI4.out.lc)
        have q0 := HI4.out.c1
        have f0 := HI4.out.fz 1
        have q1 := (blk_cell HX.out.1) 3
        have f1 := free_of HX.out.1 3
        have q2 := (blk_cell HX.out.2.1) 4
        have f2 := free_of HX.out.2.1 4
        have q3 := (blk_cell HX.out.2.2.1) 2
        have f3 := free_of HX.out.2.2.1 2
        clear KC hv4 hb4
        go_wp2
        go_ret
        have hrr : beginS s t k b = (0, a2.2, { t with name := k, base := b, recs := [], size := ((b.length + 9 : Nat) : Int) }) := by
          unfold beginS
          rw [if_neg (by rw [HNB.out]; omega), HFR.out, HA1.out, if_neg (by rw [HZ1.out]; decide), HA2.out, if_neg (by rw [HZ2.out]; decide)]
        have hrr := HR.out.symm.trans hrr
        rw [hrr]
        have hsz : w.heap.size ≤ w4.heap.size := Nat.le_trans HCA.out.1.size HB4.out.size
        have hA4 := At1.four w4 l (.int .i64 k) (.int .i64 (nf : Int)) (.slice A4 nb c4) (.slice none 0 0)
        obtain ⟨W, hW⟩ : ∃ W, ((((w4.setCell ⟨l, 1, none⟩ (.int .i64 k)).setCell ⟨l, 3, none⟩ (.slice A4 nb c4)).setCell ⟨l, 4, none⟩ (.slice none 0 0)).setCell ⟨l, 2, none⟩ (.int .i64 (nf : Int))) = W := ⟨_, rfl⟩
        have hx4 := HX.out.2.2.2
        rw [hW] at hA4 hx4 ⊢
        have hlt3 := HI3.out.lt
        have hU3 : ∀ q, (Value.slice A4 nb c4).ownBlock = some q → w3.heap.size ≤ q ∧ q < w4.heap.size := fun q hq => ⟨Kd.R_base HV4.out q hq, Kd.R_lt HV4.out q hq⟩
        have hI5 := HI4.out.set (U1 := fun q => w3.heap.size ≤ q ∧ q < w4.heap.size) hA4 (t1 := { t with name := k, base := b, recs := [], size := ((b.length + 9 : Nat) : Int) }) (vb1 := .slice A4 nb c4) (vr1 := .slice none 0 0)
          (by rw [hx4]; unfold logv; rw [HNB.out, HFL.out])
          (fun q hq => ⟨fun hs => by have := HI3.out.sb q hs; omega, by omega⟩) (fun q hq => hq.2)
          (Kd.V_mono (Kd.V_bound (Kd.R_V (Kd.R_reok rfl HV4.out (ok := fun q => w3.heap.size ≤ q ∧ q < w4.heap.size) hU3))) (fun q hq => ⟨hq.1, by simp [Value.ownBlock]⟩)) (Kd.N_nil _ _ _ _ _)
        have hcc : Chg T w W := Chg.fr HCA.out (Chg.trans (Chg.ofBelow HB4.out) (hA4.chg (Or.inl HL.out)))
        refine ⟨rfl, Lg.of hI5 ?_ ?_ (.inl HL.out) HT.out hcc.1.size, hcc⟩
        · intro q hq
          rcases hq with hq | hq
          · rcases hq with hq | hq
            · exact .inl (HS.out q hq)
            · exact .inr ⟨by have := HB1.out.size; omega, by have := hq.2; have := HI3.out.sb; have h9 := hA4.2.1; have h8 := HB4.out.size; have h7 := HI3.out.sb q (.inl (.inr hq)); omega⟩
          · exact .inr ⟨by have h6 := HC2.out.1.size; omega, by have h9 := hA4.2.1; have h8 := HB4.out.size; omega⟩
        · intro q hq
          exact .inr ⟨by have := HCA.out.1.size; omega, by have h9 := hA4.2.1; omega⟩
      · obtain ⟨z, hz⟩ : ∃ z, a2.1 = z := ⟨_, rfl⟩
        rw [hz] at z2
        have e2 : (z != 0) = true := bne_iff_ne.2 z2
        have HZ2 := Aside0.mk z2
        have HZZ := Aside0.mk hz
        clear z2 hz
        go_wp2_with (fail)
        refine KS.out.mono ?_
        rintro e w3 ⟨rfl, hd, hc⟩
        rw [HZZ.out]
        have HI3 := Aside0.mk (HI2.out.dock hd hc)
        have hs1 : ∀ q, S q → Fr T w w1 q := fun q hq => .inl (HS.out q hq)
        have hs2 := Fr.up hs1 HB1.out.size HW12.out
        have hc2 : Chg T w w2 := Chg.mono HC2.out HS.out
        have hca : Chg T w w3 := Chg.frm hc2 hc hs2
        have hs3 := Fr.up hs2 hc2.1.size hc.1.size
        have HCA := Aside0.mk hca
        have HS3 := Aside0.mk hs3
        clear KS hl0 hd hc hs1 hs2 hc2 hca hs3
        go_wp2
        go_ret
        have hrr : beginS s t k b = (z, a2.2, t) := by
          unfold beginS
          rw [if_neg (by rw [HNB.out]; omega), HFR.out, HA1.out, if_neg (by rw [HZ1.out]; decide), HA2.out, if_pos (by rw [HZZ.out]; exact HZ2.out), HZZ.out]
        rw [← HR.out, hrr]
        exact ⟨rfl, Lg.of HI3.out HS3.out (fun q hq => .inl (HU.out q hq)) (.inl HL.out) HT.out HCA.out.1.size, HCA.out⟩
    · obtain ⟨z, hz⟩ : ∃ z, a1.1 = z := ⟨_, rfl⟩
      rw [hz] at z1
      have e2 : (z != 0) = true := bne_iff_ne.2 z1
      have HZ1 := Aside0.mk z1
      have HZZ := Aside0.mk hz
      clear z1 hz
      go_wp2_with (fail)
      refine KA.out.mono ?_
      rintro e w2 ⟨rfl, hd, hc⟩
      rw [HZZ.out]
      have HI2 := Aside0.mk (HI1.out.dock hd hc)
      have HCA : Aside0 (Chg T w w2) := ⟨Chg.mono (Chg.trans (Chg.ofBelow (S := S) HB1.out) hc) HS.out⟩
      have HS2 := Aside0.mk (Fr.up (fun q hq => .inl (HS.out q hq) : ∀ q, S q → Fr T w w1 q) HB1.out.size hc.1.size)
      clear KA hl0 hd hc
      go_wp2
      go_ret
      have hrr : beginS s t k b = (z, a1.2, t) := by
        unfold beginS
        rw [if_neg (by rw [HNB.out]; omega), HFR.out, HA1.out, if_pos (by rw [HZZ.out]; exact HZ1.out), HZZ.out]
      rw [← HR.out, hrr]
      exact ⟨rfl, Lg.of HI2.out HS2.out (fun q hq => .inl (HU.out q hq)) (.inl HL.out) HT.out HCA.out.1.size, HCA.out⟩
  · rw [decide_eq_false hbig]
    rw [if_neg hbig] at hv
    obtain ⟨A1, c1, rfl⟩ := Kd.R_slice hv
    clear KF hb hv
    go_wp2
    go_ret
    have hrr : beginS s t k b = (11, s, t) := by
      unfold beginS
      rw [if_pos (by rw [HNB.out]; omega)]
    rw [← HR.out, hrr]
    exact ⟨rfl, Lg.of HI1.out (fun q hq => .inl (HS.out q hq)) (fun q hq => .inl (HU.out q hq)) (.inl HL.out) HT.out HB1.out.size, Chg.ofBelow HB1.out⟩
end
end Go.Proofs.Ytoimpjmoikjibaa.Wl
namespace Go.Proofs.Ytoimpjmoikjibaa.Wl
open Go Go.RowKit Go.Proofs.Ytoimpjmoikjibaa.IMap Go.Proofs.Ytoimpjmoikjibaa.Pure Go.Proofs.Ytoimpjmoikjibaa.P Go.Proofs.Ytoimpjmoikjibaa.Dk Go.Proofs.YtoimpjmoikjibaaW.PrintWords Go.Proofs.YtoimpjmoikjibaaW.PrintLast Go.Proofs.YtoimpjmoikjibaaW.PrintMore
set_option linter.unusedVariables false
set_option linter.unusedSimpArgs false
abbrev kI : Kd Int := Kd.int .i64
theorem R_at {w : World} {base : Nat} {ok : Nat → Prop} {A : Option Addr} {n c : Nat} {xs : List Int} (h : Kd.R kI 3 w base ok (.slice A n c) xs) (i : Nat) (hi : i < xs.length) : ∃ g, A = some ⟨g, 0, none⟩ ∧ w.cell? ⟨g, i, none⟩ = some (.int .i64 (xs.getD i 0)) := by
  obtain ⟨hn, hc, hC⟩ := Kd.R_reads' h
  subst hn
  have hA : ∃ g, A = some ⟨g, 0, none⟩ := by
    obtain ⟨inner, hz, ho⟩ := Kd.R_own h
    rcases ho with ⟨hv, hn⟩ | ⟨g, cap, cur, hv, _⟩
    · omega
    · injection hv with h1
      exact ⟨g, h1⟩
  obtain ⟨g, rfl⟩ := hA
  have := (Kd.R_cell (0 : Int) h (i : Int) (by omega) (by omega)).1
  rw [Int.toNat_natCast] at this
  exact ⟨g, rfl, this⟩
def accW (M : Fls) (i : Nat) : Option (Int × (List Int × List (List Int) × Nat) × Nat) := (M.take i).foldl pick none
theorem accW_zero (M : Fls) : accW M 0 = none := rfl
theorem accW_succ (M : Fls) (i : Nat) (h : i < M.length) : accW M (i + 1) = pick (accW M i) M[i] := by
  unfold accW
  rw [List.take_succ_eq_append_getElem h, List.foldl_append]
  rfl
theorem accW_all (M : Fls) : accW M M.length = findW M := by unfold accW; rw [List.take_length]; rfl
theorem keys_len (M : Fls) : (keys M).length = M.length := by unfold keys; rw [List.length_map]
theorem keys_get (M : Fls) (i : Nat) (h : i < M.length) : (keys M).getD i 0 = M[i].1 := by
  unfold keys
  rw [List.getD_eq_getElem?_getD, List.getElem?_map, List.getElem?_eq_getElem h]
  rfl
theorem bytes_at {s : DS} (hok : OK s) (hd : s.down = false) {p : Int × (List Int × Nat)} (hp : p ∈ s.M) : findE s p.1 = 0 ∧ Dk.bytesOf s p.1 = p.2.1 := by
  have hg : get s.M p.1 = some p.2 := mem_get (asc_nodup hok.asc) hp
  have h0 : findE s p.1 = 0 := by
    unfold findE
    rw [hd, hg]
    rfl
  refine ⟨h0, ?_⟩
  unfold Dk.bytesOf
  simp [h0, hg]
theorem file_len {s : DS} (hok : OK s) {p : Int × (List Int × Nat)} (hp : p ∈ s.M) : p.2.1.length ≤ 16777216 := by
  have hg : get s.M p.1 = some p.2 := mem_get (asc_nodup hok.asc) hp
  have := size_get hg
  have := hok.size
  omega
theorem foundT_closed (t : WS) (x : Option (Int × (List Int × List (List Int) × Nat) × Nat)) : (foundT t x).closed = t.closed := by cases x <;> rfl
set_option maxHeartbeats 4000000 in
set_option maxRecDepth 100000 in
theorem find_T {w : World} {g l : Nat} {T : Nat → Prop} {s : DS} {t : WS} (h : Lg w g l T s t) (hd : s.down = false) (hBD : BD s) (v : Value) (hN : Kd.R kI 3 w 0 (fun k => ¬ T k) v (keys s.M)) :
    Calls Try.prog 57 #[.pointer (some ⟨l, 0, none⟩), v] w fun e w' => e = .returned (.tuple #[.int .i64 ((foundN (findW s.M) : Nat) : Int), .int .i64 0]) ∧ Lg w' g l (Fr T w w') s (foundT t (findW s.M)) ∧ Chg T w w' := by
  obtain ⟨S, U, vb, vr, hI, hS, hU, hl, hT⟩ := h
  obtain ⟨A, c, rfl⟩ := Kd.R_slice hN
  have hlen := (Kd.R_reads' hN).1
  have hmax := Kd.C_max (Kd.R_reads' hN).2.2
  have hok := hI.dk.ok
  have q0 := hI.c1
  have f0 := hI.fz 1
  have HT := Aside0.mk hT
  have HL := Aside0.mk hl
  have HNM := Aside0.mk hN
  have HBD := Aside0.mk hBD
  have HOK := Aside0.mk hok
  have HD := Aside0.mk hd
  have hA1 := At1.set w l 1 (.int .i64 (-1))
  have hL1 : Lg (w.setCell ⟨l, 1, none⟩ (.int .i64 (-1))) g l (Fr T w (w.setCell ⟨l, 1, none⟩ (.int .i64 (-1)))) s (foundT t (accW s.M 0)) := by
    refine Lg.of (hI.set hA1 (t1 := { t with name := -1 }) (vb1 := vb) (vr1 := vr) (U1 := U) (box_set hI.lc _) hI.us hI.ub hI.base hI.recs) (fun q hq => .inl (hS q hq)) (fun q hq => .inl (hU q hq)) (.inl hl) hT (Nat.le_of_eq hA1.2.1.symm)
  have HL1 := Aside0.mk hL1
  have HC1 : Aside0 (Chg T w (w.setCell ⟨l, 1, none⟩ (.int .i64 (-1)))) := ⟨hA1.chg hl⟩
  obtain ⟨n, hn⟩ : ∃ n, s.M.length = n := ⟨_, rfl⟩
  have HNN := Aside0.mk hn
  rw [keys_len, hn] at hmax ⊢
  clear hI hS hU hl hT hN hBD hd hok hA1 hL1 hlen hn
  go_enter Try.func57, Try.ntmps57
  go_wp2
  obtain ⟨w1, hw1⟩ : ∃ W, w.setCell ⟨l, 1, none⟩ (.int .i64 (-1)) = W := ⟨_, rfl⟩
  rw [hw1] at HL1 HC1 ⊢
  clear hw1 q0 f0
  go_loopg [4, 19] n (fun kq v4 v19 w' => ∃ i : Nat, v19 = .int .i64 (i : Int) ∧ v4 = .int .i64 ((foundN (accW s.M i) : Nat) : Int) ∧ i + kq = n ∧ Aside0 (Lg w' g l (Fr T w w') s (foundT t (accW s.M i))) ∧ Aside0 (Chg T w w'))
  case atStart => exact ⟨0, rfl, rfl, by omega, HL1, HC1⟩
  case round =>
    clear HL1 HC1
    obtain ⟨i, rfl, rfl, hk, HL2, HC2⟩ := hrel
    by_cases hi : i < n
    · have e1 : decide (i < n) = true := decide_eq_true hi
      have hiM : i < s.M.length := by rw [HNN.out]; exact hi
      obtain ⟨gn, rfl, hnm⟩ := R_at (Kd.R_step HNM.out (fun k hk hlt => HC2.out.2 k hlt hk)) i (by rw [keys_len]; exact hiM)
      rw [keys_get _ _ hiM] at hnm
      have hmem : s.M[i] ∈ s.M := List.getElem_mem hiM
      obtain ⟨p, hp⟩ : ∃ p, s.M[i] = p := ⟨_, rfl⟩
      rw [hp] at hnm hmem
      obtain ⟨hf, hby⟩ := bytes_at HOK.out HD.out hmem
      have hfl := file_len HOK.out hmem
      have hB := HBD.out p hmem
      have hacc := accW_succ s.M i hiM
      rw [hp] at hacc
      obtain ⟨S, U, vb, vr, hI, hS, hU, hl, hT⟩ := HL2.out
      have HI := Aside0.mk hI
      have HS := Aside0.mk hS
      have HU := Aside0.mk hU
      have KR := Aside0.mk (Read_T wr g S s p.1 hI.dk)
      rw [hf, hby] at KR
      have c0 := hI.c0
      have HACC := Aside0.mk hacc
      have HB := Aside0.mk hB
      have HFL := Aside0.mk hfl
      have HWI : Aside0 (wrap64 ((i : Int) + 1) = ((i + 1 : Nat) : Int)) := ⟨by unfold wrap64; omega⟩
      obtain ⟨b, hb⟩ : ∃ b, p.2.1 = b := ⟨_, rfl⟩
      obtain ⟨nm, hnm2⟩ : ∃ x, p.1 = x := ⟨_, rfl⟩
      have hpk : ∀ a, pick a p = match wlog b with | some x => some (nm, x, b.length) | none => a := fun a => by (unfold pick; rw [hb, hnm2]) <;> (cases wlog b <;> rfl)
      have HPK := Aside0.mk hpk
      rw [hb] at KR HB HFL
      rw [hnm2] at KR hnm
      clear hI hS hU hl hT hf hby hmem hacc hp hiM hfl hB hb hnm2 hpk
      go_wp2_with (fail)
      refine KR.out.mono ?_
      rintro e w2 ⟨v2, rfl, hv2, hb2⟩
      obtain ⟨A2, c2, rfl⟩ := Kd.R_slice hv2
      have HI2 := Aside0.mk (HI.out.below hb2)
      have HB2 := Aside0.mk hb2
      have KW := Aside0.mk (wread_T _ A2 c2 b w2 (Kd.R_V hv2) HB.out (by have := HFL.out; omega))
      obtain ⟨nb, hnb⟩ : ∃ x, b.length = x := ⟨_, rfl⟩
      have HNB := Aside0.mk hnb
      rw [hnb] at KW ⊢
      clear KR c0 hv2 hb2 hnb hnm
      go_wp2_with (fail)
      refine KW.out.mono ?_
      rintro e w3 ⟨hb3, hno, hso⟩
      have HI3 := Aside0.mk (HI2.out.below hb3)
      have HB3 := Aside0.mk hb3
      clear KW hb3
      cases hw : wlog b with
      | none =>
        obtain rfl := hno hw
        have HE : Aside0 (accW s.M (i + 1) = accW s.M i) := ⟨by rw [HACC.out, HPK.out, hw]⟩
        have hcc : Chg T w w3 := Chg.frm (Chg.frm HC2.out (Chg.ofBelow (S := fun _ => False) HB2.out) (fun _ h => h.elim)) (Chg.ofBelow (S := fun _ => False) HB3.out) (fun _ h => h.elim)
        have HCC := Aside0.mk hcc
        have HT3 : Aside0 (Lg w3 g l (Fr T w w3) s (foundT t (accW s.M i))) := ⟨Lg.of HI3.out (Fr.grow HS.out (Nat.le_trans HB2.out.size HB3.out.size)) (Fr.grow HU.out (Nat.le_trans HB2.out.size HB3.out.size)) (.inl HL.out) HT.out hcc.1.size⟩
        clear hno hso hw hcc
        go_wp2
        go_roundg (gk - 1)
        case measure => omega
        case rel => exact ⟨i + 1, (by first | exact congrArg _ HWI.out | rfl | (congr 1; go_num)), by rw [HE.out], by omega, by rw [HE.out]; exact HT3, HCC⟩
      | some x =>
        obtain ⟨v0, v1, rfl, hv, hn⟩ := hso x hw
        obtain ⟨A0, c0, rfl⟩ := Kd.V_slice hv
        obtain ⟨A1, c1, rfl⟩ := Kd.N_slice hn
        have HE : Aside0 (accW s.M (i + 1) = some (nm, x, nb)) := ⟨by rw [HACC.out, HPK.out, hw, HNB.out]⟩
        have HV := Aside0.mk hv
        have HN := Aside0.mk hn
        obtain ⟨n0, hn0⟩ : ∃ k, x.1.length = k := ⟨_, rfl⟩
        obtain ⟨n1, hn1⟩ : ∃ k, x.2.1.length = k := ⟨_, rfl⟩
        obtain ⟨ne, hne⟩ : ∃ k, x.2.2 = k := ⟨_, rfl⟩
        have HNE := Aside0.mk hne
        rw [hn0] at HV ⊢
        rw [hn1] at HV HN ⊢
        rw [hne]
        have HX := Aside0.mk (box4 (b1 := .int .i64 nm) (b2 := .int .i64 (ne : Int)) (b3 := .slice A0 n0 c0) (b4 := .slice A1 n1 c1) HI3.out.lc)
        have q0 := HI3.out.c1
        have f0 := HI3.out.fz 1
        have q1 := (blk_cell HX.out.1) 3
        have f1 := free_of HX.out.1 3
        have q2 := (blk_cell HX.out.2.1) 4
        have f2 := free_of HX.out.2.1 4
        have q3 := (blk_cell HX.out.2.2.1) 2
        have f3 := free_of HX.out.2.2.1 2
        clear hno hso hw hv hn hn0 hn1 hne
        go_wp2
        have hA4 := At1.four w3 l (.int .i64 nm) (.int .i64 (ne : Int)) (.slice A0 n0 c0) (.slice A1 n1 c1)
        obtain ⟨W, hW⟩ : ∃ W, ((((w3.setCell ⟨l, 1, none⟩ (.int .i64 nm)).setCell ⟨l, 3, none⟩ (.slice A0 n0 c0)).setCell ⟨l, 4, none⟩ (.slice A1 n1 c1)).setCell ⟨l, 2, none⟩ (.int .i64 (ne : Int))) = W := ⟨_, rfl⟩
        have hx4 := HX.out.2.2.2
        rw [hW] at hA4 hx4 ⊢
        have hcc0 : Chg T w w3 := Chg.frm (Chg.frm HC2.out (Chg.ofBelow (S := fun _ => False) HB2.out) (fun _ h => h.elim)) (Chg.ofBelow (S := fun _ => False) HB3.out) (fun _ h => h.elim)
        have hcc : Chg T w W := Chg.frm hcc0 (hA4.chg (S := fun k => k = l) rfl) (fun k e => .inl (e ▸ HL.out))
        have hsz := hA4.2.1
        have hI5 := HI3.out.set (U1 := fun q => w2.heap.size ≤ q ∧ q < w3.heap.size) hA4 (t1 := foundT t (accW s.M (i + 1))) (vb1 := .slice A0 n0 c0) (vr1 := .slice A1 n1 c1)
          (by rw [hx4, HE.out, foundT_closed]; unfold logv foundT; dsimp only; rw [HNE.out])
          (fun q hq => ⟨fun hs => by have := HI2.out.sb q hs; omega, by have := HI2.out.lt; omega⟩) (fun q hq => hq.2)
          (by rw [HE.out]; exact Kd.V_mono (Kd.V_bound HV.out) (fun q hq => ⟨⟨hq.1.1, hq.2⟩, hq.1.2⟩)) (by rw [HE.out]; exact Kd.N_lower (Kd.N_mono (Kd.N_bound HN.out) (fun q hq => hq)) (Nat.zero_le _))
        have HT3 : Aside0 (Lg W g l (Fr T w W) s (foundT t (accW s.M (i + 1)))) := ⟨Lg.of hI5 (Fr.grow HS.out (by rw [hsz]; exact Nat.le_trans HB2.out.size HB3.out.size)) (fun q hq => .inr ⟨by have := HC2.out.1.size; have := HB2.out.size; omega, by rw [hsz]; exact hq.2⟩) (.inl HL.out) HT.out hcc.1.size⟩
        have HCC := Aside0.mk hcc
        clear hA4 hx4 hW hcc0 hcc hsz hI5 q0 f0 q1 f1 q2 f2 q3 f3 HX
        go_roundg (gk - 1)
        case measure => omega
        case rel => exact ⟨i + 1, (by first | exact congrArg _ HWI.out | rfl | (congr 1; go_num)), by rw [HE.out]; rfl, by omega, HT3, HCC⟩
    · have e1 : decide (i < n) = false := decide_eq_false hi
      have hin : i = s.M.length := by rw [HNN.out]; omega
      have HE : Aside0 (accW s.M i = findW s.M) := ⟨by rw [hin]; exact accW_all s.M⟩
      rw [HE.out] at HL2 ⊢
      clear hin hi
      go_wp2
      go_ret2
      exact ⟨rfl, HL2.out, HC2.out⟩
end Go.Proofs.Ytoimpjmoikjibaa.Wl
