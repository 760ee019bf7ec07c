import Derived.Test.YthefbeekcjchcaaCodeP
import Derived.Test.YthefbeekcjchcaaPx7
namespace Go.Proofs.Ythefbeekcjchcaa.P
open Go Go.RowKit Go.Proofs.YthefbeekcjchcaaW.PrintWords Go.Proofs.YthefbeekcjchcaaW.PrintLast Go.Proofs.YthefbeekcjchcaaW.PrintMore Go.Proofs.Ythefbeekcjchcaa.Pure
set_option linter.unusedVariables false
set_option linter.unusedSimpArgs false
/-! What is read is written as the same bytes. -/
theorem dn_inv : ∀ (bs : List Int) (k : Nat) (n m : Int) (rest : List Int), Bytes bs → dn k n bs = (m, rest, 0) → ∃ q : Nat, m = n + (q : Int) * 128 ^ k ∧ bs = enc q ++ rest ∧ (k > 0 → q > 0) ∧ m ≤ 1099511627776
  | [], k, n, m, rest, _, h => by rw [dn] at h; simp at h
  | c :: bs, k, n, m, rest, hb, h => by
    have hc := hb c (List.mem_cons_self ..)
    have ht : Bytes bs := fun x hx => hb x (List.mem_cons_of_mem _ hx)
    rw [dn] at h
    split at h
    · simp at h
    · rename_i h1
      split at h
      · rename_i h2
        simp only [Prod.mk.injEq] at h
        obtain ⟨rfl, rfl, _⟩ := h
        have e : c % 128 = c := by omega
        rw [e] at h1 ⊢
        refine ⟨c.toNat, by rw [show ((c.toNat : Nat) : Int) = c by omega], ?_, by omega, by omega⟩
        rw [enc_small (by omega)]
        simp
        omega
      · rename_i h2
        obtain ⟨q, h3, h4, h5, h6⟩ := dn_inv bs (k + 1) _ m rest ht h
        have hq := h5 (by omega)
        refine ⟨(c % 128).toNat + 128 * q, ?_, ?_, by omega, h6⟩
        · rw [h3, show (((c % 128).toNat + 128 * q : Nat) : Int) = c % 128 + (q : Int) * 128 by omega, Int.add_mul, Int.pow_succ, Int.mul_assoc (q : Int) 128, Int.mul_comm 128]
          omega
        · rw [enc_big (by omega), h4, show ((c % 128).toNat + 128 * q) / 128 = q by omega, show ((((c % 128).toNat + 128 * q) % 128 + 128 : Nat) : Int) = c by omega]
          rfl
theorem dnum_inv (bs : List Int) (e m : Int) (rest : List Int) (hb : Bytes bs) (h : dnum bs e = (m, rest, 0)) : e = 0 ∧ ∃ q : Nat, m = (q : Int) ∧ q ≤ 1099511627776 ∧ bs = enc q ++ rest := by
  unfold dnum at h
  split at h
  · rename_i he
    obtain ⟨q, h1, h2, _, h3⟩ := dn_inv bs 0 0 m rest hb h
    refine ⟨he, q, by simpa using h1, by simp at h1; omega, h2⟩
  · rename_i he
    simp only [Prod.mk.injEq] at h
    exact absurd h.2.2 he
theorem trip {α β : Type} {r : α × β × Int} (h : r.2.2 = 0) : r = (r.1, r.2.1, 0) := by
  obtain ⟨a, b, c⟩ := r
  simp only at h
  rw [h]
theorem bytes_right {a b : List Int} (h : Bytes (a ++ b)) : Bytes b := fun x hx => h x (List.mem_append_right _ hx)
theorem tloop_inv : ∀ (k : Nat) (out bs : List Int) (e : Int) (l rest : List Int), Bytes bs → tloop k out bs e = (l, rest, 0) → e = 0 ∧ ∃ ys, l = out ++ ys ∧ ys.length = k ∧ bs = encs_ ys ++ rest ∧ ∀ n ∈ ys, fits n = true
  | 0, out, bs, e, l, rest, _, h => by
    rw [tloop] at h
    simp only [Prod.mk.injEq] at h
    obtain ⟨rfl, rfl, rfl⟩ := h
    exact ⟨rfl, [], by simp, rfl, by simp [encs_], by simp⟩
  | k + 1, out, bs, e, l, rest, hb, h => by
    rw [tloop] at h
    split at h
    · rename_i he
      subst he
      have hl := dnum_left bs 0 hb
      obtain ⟨h0, ys, h1, h2, h3, h4⟩ := tloop_inv k _ _ _ l rest hl.2.2 h
      obtain ⟨_, q, hq, hq1, hq2⟩ := dnum_inv bs 0 (dnum bs 0).1 (dnum bs 0).2.1 hb (trip h0)
      refine ⟨rfl, (dnum bs 0).1 :: ys, by rw [h1]; simp, by simp [h2], ?_, ?_⟩
      · rw [hq]
        have : encs_ ((q : Int) :: ys) = enc q ++ encs_ ys := by simp [encs_]
        rw [this, List.append_assoc, ← h3]
        exact hq2
      · intro n hn
        rcases List.mem_cons.1 hn with rfl | hn
        · rw [hq]; simp [fits]; omega
        · exact h4 n hn
    · rename_i he
      simp only [Prod.mk.injEq] at h
      exact absurd h.2.2 he
theorem dsize_inv (bs : List Int) (m : Int) (rest : List Int) (hb : Bytes bs) (h : dsize bs 0 = (m, rest, 0)) : dnum bs 0 = (m, rest, 0) := by
  unfold dsize at h
  split at h
  · simp only [Prod.mk.injEq] at h
    obtain ⟨_, _, h⟩ := h
    split at h
    · cases h
    · rename_i h1 h2; exact absurd h h2
  · exact h
theorem gets_inv (bs : List Int) (l rest : List Int) (hb : Bytes bs) (h : gets bs 0 = (l, rest, 0)) : bs = enc l.length ++ encs_ l ++ rest ∧ (∀ n ∈ l, fits n = true) ∧ l.length ≤ 1099511627776 := by
  unfold gets at h
  have hs := dsize_left bs 0 hb
  obtain ⟨h0, ys, h1, h2, h3, h4⟩ := tloop_inv _ [] _ _ l rest hs.2.2 h
  obtain ⟨_, q, hq, hq1, hq2⟩ := dnum_inv bs 0 (dsize bs 0).1 (dsize bs 0).2.1 hb (dsize_inv bs _ _ hb (trip h0))
  rw [List.nil_append] at h1
  subst h1
  rw [hq, Int.toNat_natCast] at h2
  refine ⟨?_, h4, by omega⟩
  rw [hq2, h3, h2, List.append_assoc]
theorem putf_all : ∀ (l : List Int) (b : List Int), (∀ n ∈ l, fits n = true) → putf l (b, false) = (b ++ encs_ l, false)
  | [], b, _ => by simp [putf, encs_]
  | n :: l, b, h => by
    rw [putf_cons, putn, if_pos (h n (List.mem_cons_self ..)), putf_all l _ (fun m hm => h m (List.mem_cons_of_mem _ hm))]
    simp [encs_]
theorem dend_zero {bs : List Int} {e : Int} (h : dend bs e = 0) : bs = [] ∧ e = 0 := by
  unfold dend at h
  split at h
  · split at h
    · cases h
    · rename_i h1 h2; exact absurd h h2
  · rename_i h1
    exact ⟨List.eq_nil_of_length_eq_zero (by omega), h⟩
theorem read_write (bs : List Int) (hb : Bytes bs) (h : readE bs = 0) : coded (readL bs) = bs ∧ codedE (readL bs) = 0 ∧ (readL bs).length ≤ bs.length := by
  have hd := dend_zero (show dend (gets bs 0).2.1 (gets bs 0).2.2 = 0 from h)
  have hl : readL bs = (gets bs 0).1 := by unfold readL; rw [if_pos h]
  have hg : gets bs 0 = ((gets bs 0).1, [], 0) := by rw [← hd.1]; exact trip hd.2
  obtain ⟨h1, h2, h3⟩ := gets_inv bs _ _ hb hg
  rw [List.append_nil] at h1
  have hp : puts (readL bs) ([], false) = (bs, false) := by
    unfold puts
    rw [putn, if_pos (by simp [fits]; rw [hl]; omega), putf_all _ _ (by rw [hl]; exact h2)]
    rw [hl, Int.toNat_natCast, List.nil_append, ← h1]
  unfold coded codedE
  rw [hp]
  refine ⟨rfl, rfl, ?_⟩
  have := encs_len_ (gets bs 0).1
  have h4 := congrArg List.length h1
  rw [hl]
  simp only [List.length_append] at h4
  omega
end Go.Proofs.Ythefbeekcjchcaa.P
