import Derived.Test.YthefbeekcjchcaaGetAll
import Derived.Test.YthefbeekcjchcaaPx2
import Derived.Test.YthefbeekcjchcaaPx3
import Derived.Test.YthefbeekcjchcaaEvC
namespace Go.Proofs.Ythefbeekcjchcaa.P
open Go Go.RowKit Go.Proofs.YthefbeekcjchcaaW.PrintWords Go.Proofs.YthefbeekcjchcaaW.PrintLast Go.Proofs.YthefbeekcjchcaaW.PrintMore Go.Proofs.Ythefbeekcjchcaa.Pure
set_option linter.unusedVariables false
set_option linter.unusedSimpArgs false
theorem same_loop (l : List Int) (hl : l.length ≤ 1000000000) (d : Nat) : ∀ i : Nat, i + d = l.length → Ev (fun k => slipwayref11_Same.l0 k l l (i : Int)) true := by
  induction d with
  | zero =>
    intro i h
    refine Ev_succ ?_
    simp only [slipwayref11_Same.l0]
    exact Ev_neg (by omega) (Ev.now _)
  | succ d ih =>
    intro i h
    refine Ev_succ ?_
    simp only [slipwayref11_Same.l0]
    refine Ev_pos (by omega) (Ev_pos (by omega) (Ev_pos (by omega) (Ev_pos trivial ?_)))
    rw [show wrap64 ((i : Int) + 1) = ((i + 1 : Nat) : Int) by rw [w64 (by omega) (by omega)]; omega]
    exact ih (i + 1) (by omega)
theorem same_self (l : List Int) (hl : l.length ≤ 1000000000) : ∃ k, slipwayref11_Same.f k l l = some true := by
  refine Ev.rounds (g := fun k => slipwayref11_Same.f k l l) ?_
  unfold slipwayref11_Same.f
  exact Ev_pos rfl (same_loop l hl l.length 0 (by omega))
theorem ints_loop (l : List Int) (hl : l.length ≤ 1000000000) (d : Nat) : ∀ i : Nat, i + d = l.length → Ev (fun k => slipwaymade_Ints.l0 k l l (l.length : Int) (i : Int)) true := by
  induction d with
  | zero =>
    intro i h
    refine Ev_succ ?_
    simp only [slipwaymade_Ints.l0]
    exact Ev_neg (by omega) (Ev.now _)
  | succ d ih =>
    intro i h
    refine Ev_succ ?_
    simp only [slipwaymade_Ints.l0]
    refine Ev_pos (by omega) (Ev_pos (by omega) (Ev_pos (by omega) (Ev_pos (by omega) (Ev_pos trivial ?_))))
    rw [show wrap64 ((i : Int) + 1) = ((i + 1 : Nat) : Int) by rw [w64 (by omega) (by omega)]; omega]
    exact ih (i + 1) (by omega)
theorem ints_self (l : List Int) (hl : l.length ≤ 1000000000) : ∃ k, slipwaymade_Ints.f k l l = some true := by
  refine Ev.rounds (g := fun k => slipwaymade_Ints.f k l l) ?_
  unfold slipwaymade_Ints.f
  exact Ev_pos rfl (ints_loop l hl l.length 0 (by omega))
/-! What is written is read back. -/
theorem dn_enc (q : Nat) : ∀ (k : Nat) (n : Int) (rest : List Int), 0 ≤ n → n + (q : Int) * 128 ^ k ≤ 1099511627776 → (k > 0 → q > 0) → k ≤ 5 → dn k n (enc q ++ rest) = (n + (q : Int) * 128 ^ k, rest, 0) := by
  induction q using Nat.strongRecOn with
  | _ q ih =>
    intro k n rest hn hq hk h5
    by_cases c : q < 128
    · rw [enc_small c, List.singleton_append, dn]
      have e : ((q : Int) % 128) = q := by omega
      rw [e, if_neg (by omega), if_pos (by omega)]
    · have hk5 : k ≠ 5 := by
        rintro rfl
        have : (128 : Int) ^ 5 = 34359738368 := by decide
        rw [this] at hq
        omega
      rw [enc_big c, List.cons_append, dn]
      have hp : (0 : Int) ≤ 128 ^ k := Int.pow_nonneg (by omega)
      have e : (((q % 128 + 128 : Nat) : Int) % 128) = ((q % 128 : Nat) : Int) := by omega
      have e2 : ((q : Int)) * 128 ^ k = ((q % 128 : Nat) : Int) * 128 ^ k + ((q / 128 : Nat) : Int) * 128 ^ (k + 1) := by
        rw [Int.pow_succ, show ((q / 128 : Nat) : Int) * ((128 : Int) ^ k * 128) = ((q / 128 : Nat) : Int) * 128 * 128 ^ k by rw [Int.mul_assoc, Int.mul_comm 128, ← Int.mul_assoc], ← Int.add_mul]
        congr 1
        omega
      have h0 : 0 ≤ ((q % 128 : Nat) : Int) * 128 ^ k := Int.mul_nonneg (by omega) hp
      rw [e, if_neg (by omega), if_neg (by omega), ih (q / 128) (by omega) (k + 1) _ rest (by omega) (by rw [e2] at hq; omega) (by omega) (by omega), e2]
      congr 1
      omega
theorem dnum_enc (q : Nat) (rest : List Int) (h : q ≤ 1099511627776) : dnum (enc q ++ rest) 0 = ((q : Int), rest, 0) := by
  rw [dnum, if_pos rfl, dn_enc q 0 0 rest (by omega) (by simp; omega) (by omega) (by omega)]
  simp
/-- All one behind the other. -/
def encs_ (l : List Int) : List Int := l.flatMap fun n => enc n.toNat
theorem enc_pos (n : Nat) : 1 ≤ (enc n).length := by
  by_cases c : n < 128
  · rw [enc_small c]; simp
  · rw [enc_big c]; simp
theorem encs_len_ : ∀ l : List Int, l.length ≤ (encs_ l).length
  | [] => by simp [encs_]
  | n :: l => by
    have := encs_len_ l
    have := enc_pos n.toNat
    simp only [encs_, List.flatMap_cons, List.length_append, List.length_cons] at *
    omega
theorem fits_in {n : Int} (h : fits n = true) : 0 ≤ n ∧ n ≤ 1099511627776 := by
  simpa [fits] using h
theorem tloop_enc : ∀ (l out : List Int), (∀ n ∈ l, fits n = true) → tloop l.length out (encs_ l) 0 = (out ++ l, [], 0)
  | [], out, _ => by simp [tloop, encs_]
  | n :: l, out, h => by
    have hn := fits_in (h n (List.mem_cons_self ..))
    have e : encs_ (n :: l) = enc n.toNat ++ encs_ l := by simp [encs_]
    rw [List.length_cons, tloop, if_pos rfl, e, dnum_enc n.toNat (encs_ l) (by omega)]
    dsimp only
    rw [tloop_enc l _ (fun m hm => h m (List.mem_cons_of_mem _ hm)), show ((n.toNat : Nat) : Int) = n by omega, List.append_assoc]
    rfl
theorem putf_bad : ∀ (l : List Int) (b : List Int), (putf l (b, true)).2 = true
  | [], _ => rfl
  | n :: l, b => by
    rw [putf_cons, putn]
    split
    · exact putf_bad l _
    · exact putf_bad l _
theorem putf_good : ∀ (l : List Int) (b : List Int), (putf l (b, false)).2 = false → (∀ n ∈ l, fits n = true) ∧ (putf l (b, false)).1 = b ++ encs_ l
  | [], b, _ => ⟨by simp, by simp [putf, encs_]⟩
  | n :: l, b, h => by
    rw [putf_cons, putn] at h ⊢
    by_cases c : fits n = true
    · rw [if_pos c] at h ⊢
      have := putf_good l _ h
      refine ⟨fun m hm => ?_, ?_⟩
      · rcases List.mem_cons.1 hm with rfl | hm
        · exact c
        · exact this.1 m hm
      · rw [this.2]; simp [encs_]
    · rw [if_neg c] at h
      dsimp only at h
      rw [putf_bad] at h
      cases h
theorem puts_good (l : List Int) (hl : l.length ≤ 300) (h : (puts l ([], false)).2 = false) : (∀ n ∈ l, fits n = true) ∧ (puts l ([], false)).1 = enc l.length ++ encs_ l := by
  unfold puts at h ⊢
  have hf : fits (l.length : Int) = true := by simp [fits]; omega
  rw [putn, if_pos hf] at h ⊢
  have := putf_good l _ h
  refine ⟨this.1, ?_⟩
  rw [this.2]
  simp
theorem read_back (l : List Int) (hl : l.length ≤ 300) (h : (puts l ([], false)).2 = false) : readE (puts l ([], false)).1 = 0 ∧ readL (puts l ([], false)).1 = l := by
  obtain ⟨h1, h2⟩ := puts_good l hl h
  have hs : dsize (enc l.length ++ encs_ l) 0 = ((l.length : Int), encs_ l, 0) := by
    unfold dsize
    rw [dnum_enc l.length (encs_ l) (by omega)]
    dsimp only
    have := encs_len_ l
    rw [if_neg (by omega)]
  have hg : gets (enc l.length ++ encs_ l) 0 = (l, [], 0) := by
    unfold gets
    rw [hs]
    dsimp only
    rw [Int.toNat_natCast, tloop_enc l [] h1]
    rfl
  have he : readE (puts l ([], false)).1 = 0 := by
    rw [h2]; unfold readE; rw [hg]; rfl
  refine ⟨he, ?_⟩
  unfold readL
  rw [he, if_pos rfl, h2, hg]
theorem enc_bytes (n : Nat) : Bytes (enc n) := by
  induction n using Nat.strongRecOn with
  | _ n ih =>
    by_cases c : n < 128
    · rw [enc_small c]; intro x hx; rw [List.mem_singleton.1 hx]; omega
    · rw [enc_big c]
      intro x hx
      rcases List.mem_cons.1 hx with rfl | hx
      · omega
      · exact ih _ (by omega) x hx
theorem coded_bytes (l : List Int) (hl : l.length ≤ 300) : Bytes (coded l) := by
  unfold coded
  split
  · intro x hx; simp at hx
  · rename_i h
    rw [(puts_good l hl (by simpa using h)).2]
    intro x hx
    rcases List.mem_append.1 hx with hx | hx
    · exact enc_bytes _ x hx
    · obtain ⟨n, _, hn⟩ := List.mem_flatMap.1 hx
      exact enc_bytes _ x hn
theorem puts_len (l : List Int) : ∀ s : List Int × Bool, (putf l s).1.length ≤ s.1.length + 6 * l.length := by
  induction l with
  | nil => intro s; simp [putf]
  | cons n l ih =>
    intro s
    rw [putf_cons]
    have := ih (putn n s)
    have := putn_len n s
    simp
    omega
theorem coded_len (l : List Int) : (coded l).length ≤ 6 + 6 * l.length := by
  unfold coded
  split
  · simp
  · unfold puts
    have := puts_len l (putn (l.length : Int) ([], false))
    have := putn_len (l.length : Int) ([], false)
    simp at this
    omega
end Go.Proofs.Ythefbeekcjchcaa.P
