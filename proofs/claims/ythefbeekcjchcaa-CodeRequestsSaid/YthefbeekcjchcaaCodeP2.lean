/- What the laws of chapter 12 ask of forms and readers, in plain lists. -/
import Derived.Test.YthefbeekcjchcaaGetPlan
namespace Go.Proofs.Ythefbeekcjchcaa.P
open Go Go.RowKit Go.Proofs.YthefbeekcjchcaaW.PrintWords
set_option linter.unusedVariables false
set_option linter.unusedSimpArgs false
theorem enc_bytes (n : Nat) : Bytes (enc n) := by
  induction n using Nat.strongRecOn with
  | _ n ih =>
    by_cases c : n < 128
    · rw [enc_small c]; intro x hx; rw [List.mem_singleton.1 hx]; omega
    · rw [enc_big c]
      intro x hx
      rcases List.mem_cons.1 hx with rfl | hx
      · omega
      · exact ih _ (by omega) x hx
theorem bytes_app {a b : List Int} (ha : Bytes a) (hb : Bytes b) : Bytes (a ++ b) := fun x hx => (List.mem_append.1 hx).elim (ha x) (hb x)
theorem out_bytes : ∀ ts : List Tok, (∀ l, Tok.raw l ∈ ts → Bytes l) → Bytes (outT ts)
  | [], _ => fun x hx => by simp [outT] at hx
  | t :: ts, h => by
    rw [show outT (t :: ts) = t.out ++ outT ts from by simp [outT]]
    refine bytes_app ?_ (out_bytes ts (fun l hl => h l (List.mem_cons_of_mem _ hl)))
    cases t with
    | num n =>
      simp only [Tok.out]
      split
      · exact enc_bytes _
      · intro x hx; simp at hx
    | raw l => exact h l (List.mem_cons_self ..)
    | bad => intro x hx; simp [Tok.out] at hx
/-- What can be written takes not much less than its bound. -/
theorem cost_out : ∀ ts : List Tok, okT ts = true → costT ts ≤ 6 * (outT ts).length
  | [], _ => Nat.zero_le _
  | t :: ts, h => by
    rw [show okT (t :: ts) = (t.ok && okT ts) from rfl, Bool.and_eq_true] at h
    have h1 := cost_out ts h.2
    rw [show outT (t :: ts) = t.out ++ outT ts from by simp [outT], List.length_append, show costT (t :: ts) = t.cost + costT ts from by simp [costT]]
    have h2 : t.cost ≤ 6 * t.out.length := by
      cases t with
      | num n =>
        have hn : fits n = true := h.1
        simp only [Tok.out, Tok.cost, if_pos hn]
        have := enc_pos n.toNat
        omega
      | raw l => simp only [Tok.out, Tok.cost]; omega
      | bad => exact Nat.zero_le _
    omega
theorem raw_nums (l : List Int) : ∀ x, Tok.raw x ∉ listT tNum l := by
  intro x hx
  simp [listT, tNum] at hx
theorem raw_stps (l : List Stp) : ∀ x, Tok.raw x ∉ listT tStp l := by
  intro x hx
  simp [listT, tStp] at hx
theorem pln_bytes (p : Pln) : Bytes (outT (tPln p)) := out_bytes _ (fun l hl => by
  rcases List.mem_append.1 hl with h | h
  · exact absurd h (raw_nums _ _)
  · rcases List.mem_append.1 h with h | h
    · exact absurd h (raw_nums _ _)
    · rcases List.mem_append.1 h with h | h
      · exact absurd h (raw_stps _ _)
      · exact absurd h (raw_stps _ _))
theorem cost_stps (l : List Stp) : costT (listT tStp l) = 6 + 12 * l.length := by
  unfold listT
  rw [costT_num]
  congr 1
  induction l with
  | nil => rfl
  | cons x l ih => rw [List.flatMap_cons, costT_app, ih, List.length_cons]; show 12 + _ = _; omega
theorem cost_nums (l : List Int) : costT (listT tNum l) = 6 + 6 * l.length := by
  unfold listT
  rw [costT_num]
  congr 1
  induction l with
  | nil => rfl
  | cons x l ih => rw [List.flatMap_cons, costT_app, ih, List.length_cons]; show 6 + _ = _; omega
theorem cost_pln (p : Pln) : costT (tPln p) = (6 + 6 * p.1.length) + ((6 + 6 * p.2.1.length) + ((6 + 12 * p.2.2.1.length) + (6 + 12 * p.2.2.2.length))) := by
  unfold tPln
  rw [costT_app, costT_app, costT_app, cost_nums, cost_nums, cost_stps, cost_stps]
/-- What is written is read. -/
theorem fin_back {α : Type} {p : Rdr α} {f : α → List Tok} (hp : Fit p f) (x : α) (h : okT (f x) = true) : p (outT (f x)) = .ok (x, []) ∧ finP p (outT (f x)) = 0 := by
  have := hp.back x [] h
  rw [List.append_nil] at this
  refine ⟨this, ?_⟩
  unfold finP
  rw [this]
  rfl
/-- What is read is written. -/
theorem fin_from {α : Type} {p : Rdr α} {f : α → List Tok} (hp : Fit p f) {bs : List Int} {x : α} (hb : Bytes bs) (h : p bs = .ok (x, [])) : okT (f x) = true ∧ outT (f x) = bs ∧ costT (f x) ≤ 6 * bs.length := by
  obtain ⟨h1, h2⟩ := hp.from_ bs x [] hb h
  rw [List.append_nil] at h2
  exact ⟨h1, h2.symm, h2 ▸ cost_out _ h1⟩
end Go.Proofs.Ythefbeekcjchcaa.P
