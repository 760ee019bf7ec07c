import Derived.Test.YthefbeekcjchcaaGetAll
import Derived.Test.YthefbeekcjchcaaForms
namespace Go.Proofs.Ythefbeekcjchcaa.P
open Go Go.RowKit Go.Proofs.YthefbeekcjchcaaW.PrintWords Go.Proofs.YthefbeekcjchcaaW.PrintLast Go.Proofs.YthefbeekcjchcaaW.PrintMore
set_option linter.unusedVariables false
set_option linter.unusedSimpArgs false
/-- Bytes and a first error say this state. -/
def Rep (bs : List Int) (e : Int) (st : St) : Prop := (e = 0 ∧ st = .left bs) ∨ (e ≠ 0 ∧ st = .err e)
def IP (w0 w : World) (g : Nat) (st : St) : Prop := ∃ bs e, IN w0 w g bs e ∧ Rep bs e st ∧ Bytes bs ∧ bs.length ≤ 1000000000
theorem IP.below {w0 w w1 : World} {g : Nat} {st : St} (h : IP w0 w g st) (hb : Below w.heap.size w w1) : IP w0 w1 g st := by
  obtain ⟨bs, e, h1, h2⟩ := h
  exact ⟨bs, e, h1.below hb, h2⟩
theorem IP.grown {w0 w w1 : World} {g : Nat} {st : St} (h : IP w0 w g st) {row : Option Nat} (hg : w.grownBy w1 row) (hne : some g ≠ row) : IP w0 w1 g st := by
  obtain ⟨bs, e, h1, h2⟩ := h
  exact ⟨bs, e, h1.grown hg hne, h2⟩
theorem IP.lt {w0 w : World} {g : Nat} {st : St} (h : IP w0 w g st) : g < w.heap.size := by
  obtain ⟨bs, e, ⟨A, c, h1, _⟩, _⟩ := h
  exact blk_lt h1
theorem IP.base {w0 w : World} {g : Nat} {st : St} (h : IP w0 w g st) : w0.heap.size ≤ g := by
  obtain ⟨bs, e, ⟨A, c, _, h1, _⟩, _⟩ := h
  exact h1
theorem IP.new {w : World} {A : Option Addr} {c : Nat} {bs : List Int} (hr : Kd.C (Kd.int .u8) w A bs.length bs) (hc : bs.length ≤ c) (hb : Bytes bs) (hlen : bs.length ≤ 1000000000) : IP w (w.alloc (.cells #[.slice A bs.length c, .int .i64 0] 98)) w.heap.size (.left bs) :=
  ⟨bs, 0, ⟨A, c, by show (w.heap.push _)[w.heap.size]? = _; simp, Nat.le_refl _, hr, hc⟩, .inl ⟨rfl, rfl⟩, hb, hlen⟩
theorem IP.ecell {w0 w : World} {g : Nat} {st : St} (h : IP w0 w g st) : ∃ e, w.cell? ⟨g, 1, none⟩ = some (.int .i64 e) ∧ ((e = 0 ∧ ∃ bs, st = .left bs) ∨ (e ≠ 0 ∧ st = .err e)) := by
  obtain ⟨bs, e, ⟨A, c, h1, _⟩, h2, _⟩ := h
  refine ⟨e, (blk_cell h1) 1, ?_⟩
  rcases h2 with ⟨h2, h3⟩ | h2
  · exact .inl ⟨h2, bs, h3⟩
  · exact .inr h2
theorem dnum_step {bs : List Int} {e : Int} {st : St} (h : Rep bs e st) : ∃ st', Step rnum st (dnum bs e).1 st' ∧ Rep (dnum bs e).2.1 (dnum bs e).2.2 st' := by
  rcases h with ⟨rfl, rfl⟩ | ⟨h, rfl⟩
  · unfold dnum
    rw [if_pos rfl]
    by_cases c : (dn 0 0 bs).2.2 = 0
    · refine ⟨.left (dn 0 0 bs).2.1, ?_, .inl ⟨c, rfl⟩⟩
      simp only [Step, rnum, if_pos c, and_self]
    · refine ⟨.err (dn 0 0 bs).2.2, ?_, .inr ⟨c, rfl⟩⟩
      simp only [Step, rnum, if_neg c]
  · unfold dnum
    rw [if_neg h]
    exact ⟨.err e, rfl, .inr ⟨h, rfl⟩⟩
theorem dsize_step {bs : List Int} {e : Int} {st : St} (h : Rep bs e st) : ∃ st', Step rsize st (dsize bs e).1 st' ∧ Rep (dsize bs e).2.1 (dsize bs e).2.2 st' := by
  obtain ⟨st1, h1, h2⟩ := dnum_step h
  unfold dsize rsize
  by_cases c : (dnum bs e).1 > ((dnum bs e).2.1.length : Int)
  · rw [if_pos c]
    rcases h2 with ⟨h2, rfl⟩ | ⟨h2, rfl⟩
    · refine ⟨.err 13, Step.bind h1 ?_, .inr ⟨by rw [if_pos h2]; exact (by decide : (13 : Int) ≠ 0), by rw [if_pos h2]⟩⟩
      simp only [Step, if_pos c]
    · refine ⟨.err (dnum bs e).2.2, Step.bind h1 rfl, .inr ⟨by rw [if_neg h2]; exact h2, by rw [if_neg h2]⟩⟩
  · rw [if_neg c]
    refine ⟨st1, Step.bind h1 ?_, h2⟩
    rcases h2 with ⟨h2, rfl⟩ | ⟨h2, rfl⟩
    · simp only [Step, if_neg c, and_self]
    · rfl
/-- What a function that reads comes to; V: what is known of its value. -/
def Told {α : Type} (p : Rdr α) (V : Value → α → World → Prop) (w0 w : World) (g : Nat) (st : St) (e : Ending) (w' : World) : Prop :=
  ∃ v x st', e = .returned v ∧ V v x w' ∧ Step p st x st' ∧ IP w0 w' g st' ∧ Below w0.heap.size w0 w' ∧ Only w w' g
def VInt (v : Value) (x : Int) (_ : World) : Prop := v = .int .i64 x
theorem in_num_T (g : Nat) (st : St) (w0 w : World) (hI : IP w0 w g st) (hB : Below w0.heap.size w0 w) :
    Calls Try.prog 49 #[.pointer (some ⟨g, 0, none⟩)] w (Told rnum VInt w0 w g st) := by
  obtain ⟨bs, e, h1, h2, h3, h4⟩ := hI
  refine (in_num_calls g bs e w0 w h1 hB h3 h4).mono fun e' w' ⟨he, hi, hb, hk⟩ => ?_
  obtain ⟨st', h5, h6⟩ := dnum_step h2
  have h7 := dnum_left bs e h3
  exact ⟨_, _, st', he, rfl, h5, ⟨_, _, hi, h6, h7.2.2, Nat.le_trans h7.2.1 h4⟩, hb, hk⟩
theorem in_size_T (g : Nat) (st : St) (w0 w : World) (hI : IP w0 w g st) (hB : Below w0.heap.size w0 w) :
    Calls Try.prog 91 #[.pointer (some ⟨g, 0, none⟩)] w fun e' w' => ∃ (n : Nat) (bs : List Int) (e : Int) (st' : St), e' = .returned (.int .i64 (n : Int)) ∧ n ≤ bs.length ∧ Step rsize st (n : Int) st' ∧ IN w0 w' g bs e ∧ Rep bs e st' ∧ Bytes bs ∧ bs.length ≤ 1000000000 ∧ Below w0.heap.size w0 w' ∧ Only w w' g := by
  obtain ⟨bs, e, h1, h2, h3, h4⟩ := hI
  refine (in_size_calls g bs e w0 w h1 hB h3 h4).mono fun e' w' ⟨he, hi, hb, hk⟩ => ?_
  obtain ⟨st', h5, h6⟩ := dsize_step h2
  have h7 := dsize_left bs e h3
  obtain ⟨n, hn⟩ : ∃ n : Nat, (dsize bs e).1 = (n : Int) := ⟨(dsize bs e).1.toNat, by omega⟩
  rw [hn] at he h5 h7
  exact ⟨n, _, _, st', he, by omega, h5, hi, h6, h7.2.2, Nat.le_trans h7.2.1 h4, hb, hk⟩
/-- So many, behind what was read. -/
theorem Step.many_nil {α : Type} (p : Rdr α) (st : St) : Step (rmany p 0) st [] st := Step.pure _ _
theorem Step.many_cons {α : Type} {p : Rdr α} {k : Nat} {st st1 st2 : St} {x : α} {xs : List α} (h : Step p st x st1) (h2 : Step (rmany p k) st1 xs st2) : Step (rmany p (k + 1)) st (x :: xs) st2 := Step.bind h (Step.bind h2 (Step.pure _ _))
/-- A loop that reads: so much is read, so many are left. -/
def Goes {α : Type} (p : Rdr α) (m : Nat) (s0 : St) (k : Nat) (out : List α) (s : St) : Prop := ∀ xs s', Step (rmany p k) s xs s' → Step (rmany p m) s0 (out ++ xs) s'
theorem Goes.start {α : Type} (p : Rdr α) (m : Nat) (s0 : St) : Goes p m s0 m [] s0 := fun xs s' h => h
theorem Goes.next {α : Type} {p : Rdr α} {m k : Nat} {s0 s s1 : St} {out : List α} {x : α} (h : Goes p m s0 (k + 1) out s) (hx : Step p s x s1) : Goes p m s0 k (out ++ [x]) s1 := fun xs s' h' => by
  have := h (x :: xs) s' (Step.many_cons hx h')
  rwa [List.append_assoc]
theorem Goes.done {α : Type} {p : Rdr α} {m : Nat} {s0 s : St} {out : List α} (h : Goes p m s0 0 out s) : Step (rmany p m) s0 out s := by
  have := h [] s (Step.many_nil p s)
  rwa [List.append_nil] at this
theorem Goes.fails {α : Type} {p : Rdr α} {m k : Nat} {s0 : St} {e : Int} {out : List α} (h : Goes p m s0 k out (.err e)) (ys : List α) : Step (rmany p m) s0 ys (.err e) :=
  Step.any (h [] (.err e) (Step.err _)) ys
end Go.Proofs.Ythefbeekcjchcaa.P
