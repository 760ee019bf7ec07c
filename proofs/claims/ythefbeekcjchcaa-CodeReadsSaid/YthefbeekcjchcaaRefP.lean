import Derived.Test.YthefbeekcjchcaaReadP
namespace Go.Proofs.Ythefbeekcjchcaa.P
open Go Go.RowKit Go.Proofs.YthefbeekcjchcaaW.PrintWords Go.Proofs.YthefbeekcjchcaaW.PrintLast Go.Proofs.YthefbeekcjchcaaW.PrintMore Go.Proofs.Ythefbeekcjchcaa.Pure
set_option linter.unusedVariables false
set_option linter.unusedSimpArgs false
/-! The document reads the same. -/
theorem rd_drop {B : List Int} {i : Nat} (h : i < B.length) : B.drop i = rd B (i : Int) :: B.drop (i + 1) := drop_rd h
theorem shl_eq (c : Int) (k : Nat) (h0 : 0 ≤ c) (h1 : c < 128) (hk : k ≤ 5) : shl .i64 c (7 * (k : Int)) = c * 128 ^ k ∧ 0 ≤ c * 128 ^ k ∧ c * 128 ^ k ≤ 127 * 34359738368 := by
  have hp := pow128 k hk
  obtain ⟨m, rfl⟩ : ∃ m : Nat, c = (m : Int) := ⟨c.toNat, by omega⟩
  have hm : m * 128 ^ k ≤ 127 * 34359738368 := Nat.mul_le_mul (by omega) hp.2.1
  have e : (m : Int) * 128 ^ k = ((m * 128 ^ k : Nat) : Int) := by rw [hp.1]; push_cast; rfl
  refine ⟨?_, by rw [e]; omega, by rw [e]; omega⟩
  unfold shl
  rw [show (7 * (k : Int)).toNat = 7 * k by omega, show min (7 * k) IntKind.i64.bits = 7 * k from Nat.min_eq_left (Nat.le_trans (Nat.mul_le_mul_left 7 hk) (by decide))]
  have e2 : (m : Int) * (2 : Int) ^ (7 * k) = (m : Int) * 128 ^ k := by rw [hp.1, hp.2.2]; push_cast; rfl
  rw [e2, e]
  exact IntWalk.i64_in _ (by omega)
theorem lt_pow (n : Int) (k : Nat) (hk : k ≤ 5) (h : n < 128 ^ k) : n < 34359738368 := by
  have hp := pow128 k hk
  have h1 : n < ((128 ^ k : Nat) : Int) := hp.1 ▸ h
  have h2 : ((128 ^ k : Nat) : Int) ≤ ((34359738368 : Nat) : Int) := Int.ofNat_le.2 hp.2.1
  exact Int.lt_of_lt_of_le h1 h2
theorem next_lt (n c : Int) (k : Nat) (h : n < 128 ^ k) (h1 : c ≤ 127) : n + c * 128 ^ k < 128 ^ (k + 1) := by
  have hp : (0 : Int) ≤ 128 ^ k := Int.pow_nonneg (by omega)
  rw [Int.pow_succ]
  generalize (128 : Int) ^ k = p at h hp ⊢
  have h3 : c * p ≤ 127 * p := Int.mul_le_mul_of_nonneg_right h1 hp
  omega
theorem Rnum_loop (B : List Int) (hB : Bytes B) (hl : B.length ≤ 1000000000) : ∀ (d k : Nat) (n : Int) (i : Nat), k + d = 5 → 0 ≤ n → n < 128 ^ k → i ≤ B.length →
    Ev (fun f => slipwayref12_R_num.l0 f n (k : Int) B (i : Int) 0) ((dn k n (B.drop i)).1, ((B.length - (dn k n (B.drop i)).2.1.length : Nat) : Int), (dn k n (B.drop i)).2.2)
  | d, k, n, i, hd, hn, hn1, hi => by
    refine Ev_succ ?_
    simp only [slipwayref12_R_num.l0]
    refine Ev_pos (by omega) (Ev_succ ?_)
    simp only [slipwayref12_R_num.j1]
    refine Ev_pos (by decide) ?_
    by_cases hlt : i < B.length
    · have hc := hB (rd B (i : Int)) (by have := List.mem_of_mem_drop (i := i) (l := B) (a := rd B (i : Int)) (by rw [rd_drop hlt]; exact List.mem_cons_self ..); exact this)
      rw [rd_drop hlt]
      generalize rd B (i : Int) = c at hc
      have ew : wrap64 c = c := w64 (by omega) (by omega)
      have et : Int.tmod c 128 = c % 128 := Int.tmod_eq_emod_of_nonneg (by omega)
      have e7 : wrap64 (7 * (k : Int)) = 7 * (k : Int) := w64 (by omega) (by omega)
      have es := shl_eq (c % 128) k (by omega) (by omega) (by omega)
      have e1 : wrap64 ((i : Int) + 1) = ((i + 1 : Nat) : Int) := by rw [w64 (by omega) (by omega)]; omega
      have hn2 := lt_pow n k (by omega) hn1
      have hnx := next_lt n (c % 128) k hn1 (by omega)
      obtain ⟨es1, es2, es3⟩ := es
      rw [ew, et, e7, es1, e1]
      obtain ⟨r, hr⟩ : ∃ r, dn k n (c :: B.drop (i + 1)) = r := ⟨_, rfl⟩
      rw [hr]
      rw [dn] at hr
      clear es1 hn1 et e7 ew
      generalize c % 128 * 128 ^ k = y at es2 es3 hnx hr ⊢
      have eN : wrap64 (n + y) = n + y := w64 (by omega) (by omega)
      rw [eN]
      clear eN
      have hlen : ((B.length - (B.drop (i + 1)).length : Nat) : Int) = ((i + 1 : Nat) : Int) := by rw [List.length_drop]; omega
      have hN0 : 0 ≤ n + y := by omega
      generalize n + y = N at hnx hN0 hr ⊢
      clear es2 es3 hn hn2
      obtain ⟨M, hM⟩ : ∃ M, (128 : Int) ^ (k + 1) = M := ⟨_, rfl⟩
      have HM := Aside0.mk hM
      rw [hM] at hnx
      clear hM
      refine Ev_neg (by omega) (Ev_pos (by omega) (Ev_pos (by omega) (Ev_pos (by omega) ?_)))
      by_cases h1 : c < 128
      · refine Ev_pos h1 ?_
        by_cases h2 : N > 1099511627776
        · rw [if_pos (.inl ⟨h1, .inl h2⟩)] at hr
          refine Ev_pos h2 ?_
          simp only [slipwayref12_R_fail.f, if_true, Option.bind_some]
          subst hr; refine Ev_some ?_; dsimp only; rw [hlen]
        · refine Ev_neg h2 ?_
          by_cases h3 : (k : Int) > 0
          · refine Ev_pos h3 ?_
            by_cases h4 : c = 0
            · rw [if_pos (.inl ⟨h1, .inr ⟨by omega, h4⟩⟩)] at hr
              refine Ev_pos h4 ?_
              simp only [slipwayref12_R_fail.f, if_true, Option.bind_some]
              subst hr; refine Ev_some ?_; dsimp only; rw [hlen]
            · rw [if_neg (by omega), if_pos h1] at hr
              subst hr; refine Ev_neg h4 (Ev_some ?_); dsimp only; rw [hlen]
          · rw [if_neg (by omega), if_pos h1] at hr
            subst hr; refine Ev_neg h3 (Ev_some ?_); dsimp only; rw [hlen]
      · refine Ev_neg h1 ?_
        have ek : wrap64 ((k : Int) + 1) = ((k + 1 : Nat) : Int) := by rw [w64 (by omega) (by omega)]; omega
        rw [ek]
        match d, hd with
        | 0, hd =>
          rw [if_pos (.inr ⟨by omega, by omega⟩)] at hr
          refine Ev_succ ?_
          simp only [slipwayref12_R_num.l0]
          refine Ev_neg (by omega) (Ev_succ ?_)
          simp only [slipwayref12_R_num.j1]
          refine Ev_neg (by decide) ?_
          simp only [slipwayref12_R_fail.f, if_true, Option.bind_some]
          subst hr; refine Ev_some ?_; dsimp only; rw [hlen]
        | d + 1, hd =>
          rw [if_neg (by omega), if_neg h1] at hr
          subst hr
          exact Rnum_loop B hB hl d (k + 1) N (i + 1) (by omega) hN0 (by rw [HM.out]; exact hnx) (by omega)
    · obtain rfl : i = B.length := by omega
      rw [List.drop_length, dn]
      refine Ev_pos (by omega) ?_
      simp only [slipwayref12_R_fail.f, if_true, Option.bind_some]
      exact Ev_some (by simp)
/-- Where the document stands: so much is left. -/
def At (B : List Int) (xs : List Int) (i : Int) : Prop := ∃ j : Nat, j ≤ B.length ∧ i = (j : Int) ∧ xs = B.drop j
theorem dn_suffix : ∀ (xs : List Int) (k : Nat) (n : Int), ∃ j : Nat, j ≤ xs.length ∧ (dn k n xs).2.1 = xs.drop j
  | [], k, n => ⟨0, by simp, by rw [dn]; rfl⟩
  | c :: xs, k, n => by
    rw [dn]
    split
    · exact ⟨1, by simp, rfl⟩
    · split
      · exact ⟨1, by simp, rfl⟩
      · obtain ⟨j, h1, h2⟩ := dn_suffix xs (k + 1) (n + c % 128 * 128 ^ k)
        exact ⟨j + 1, by simp; omega, by rw [h2]; rfl⟩
theorem dnum_suffix (xs : List Int) (e : Int) : ∃ j : Nat, j ≤ xs.length ∧ (dnum xs e).2.1 = xs.drop j := by
  unfold dnum
  split
  · exact dn_suffix xs 0 0
  · exact ⟨0, by omega, rfl⟩
theorem Rnum_ev (B : List Int) (hB : Bytes B) (hl : B.length ≤ 1000000000) (xs : List Int) (i e : Int) (h : At B xs i) :
    ∃ i' : Int, At B (dnum xs e).2.1 i' ∧ Ev (fun f => slipwayref12_R_num.f f B i e) ((dnum xs e).1, i', (dnum xs e).2.2) := by
  obtain ⟨j, hj, rfl, rfl⟩ := h
  obtain ⟨m, hm, hs⟩ := dnum_suffix (B.drop j) e
  rw [List.length_drop] at hm
  have hat : At B (dnum (B.drop j) e).2.1 ((j + m : Nat) : Int) := ⟨j + m, by omega, rfl, by rw [hs, List.drop_drop]⟩
  refine ⟨_, hat, ?_⟩
  unfold slipwayref12_R_num.f
  by_cases he : e = 0
  · subst he
    have h := Rnum_loop B hB hl 5 0 0 j rfl (by omega) (by decide) hj
    have hd : dnum (B.drop j) 0 = dn 0 0 (B.drop j) := by rw [dnum, if_pos rfl]
    rw [hd] at hs ⊢
    have hlen : (dn 0 0 (B.drop j)).2.1.length = B.length - (j + m) := by rw [hs, List.drop_drop, List.length_drop]
    rw [hlen] at h
    have : B.length - (B.length - (j + m)) = j + m := by omega
    rw [this] at h
    exact h
  · have hd : dnum (B.drop j) e = (0, B.drop j, e) := by rw [dnum, if_neg he]
    rw [hd] at hs ⊢
    dsimp only at hs ⊢
    have hm0 : m = 0 ∨ B.length - j = 0 := by
      have := congrArg List.length hs
      rw [List.length_drop, List.length_drop, List.length_drop] at this
      omega
    have hmj : ((j + m : Nat) : Int) = (j : Int) := by omega
    rw [hmj]
    refine Ev_succ ?_
    simp only [slipwayref12_R_num.l0]
    refine Ev_pos (by omega) (Ev_succ ?_)
    simp only [slipwayref12_R_num.j1]
    refine Ev_neg (by simp [he]) ?_
    simp only [slipwayref12_R_fail.f, if_neg he, Option.bind_some]
    exact Ev.now _
theorem dn_err : ∀ (xs : List Int) (k : Nat) (n : Int), (dn k n xs).2.2 ≠ 0 → (dn k n xs).1 = 0
  | [], k, n, _ => by rw [dn]
  | c :: xs, k, n, h => by
    rw [dn] at h ⊢
    split
    · rfl
    · rename_i h1
      rw [if_neg h1] at h
      split
      · rename_i h2
        rw [if_pos h2] at h
        exact absurd rfl h
      · rename_i h2
        rw [if_neg h2] at h
        exact dn_err xs _ _ h
theorem dnum_err (xs : List Int) (e : Int) (h : (dnum xs e).2.2 ≠ 0) : (dnum xs e).1 = 0 := by
  unfold dnum at h ⊢
  split
  · rename_i h1; rw [if_pos h1] at h; exact dn_err xs _ _ h
  · rfl
theorem At.len {B xs : List Int} {i : Int} (h : At B xs i) : (xs.length : Int) = (B.length : Int) - i ∧ 0 ≤ i := by
  obtain ⟨j, hj, rfl, rfl⟩ := h
  rw [List.length_drop]
  omega
theorem Rsize_ev (B : List Int) (hB : Bytes B) (hl : B.length ≤ 1000000000) (xs : List Int) (i : Int) (h : At B xs i) :
    ∃ i' : Int, At B (dsize xs 0).2.1 i' ∧ Ev (fun f => slipwayref12_R_size.f f B i 0) ((dsize xs 0).1, i', (dsize xs 0).2.2) := by
  obtain ⟨i', h1, h2⟩ := Rnum_ev B hB hl xs i 0 h
  have he := dnum_err xs 0
  unfold dsize slipwayref12_R_size.f
  have hlen := h1.len
  generalize dnum xs 0 = r at h1 h2 he hlen
  obtain ⟨n, ys, e⟩ := r
  dsimp only at h1 h2 he hlen ⊢
  have ew : wrap64 ((B.length : Int) - i') = (ys.length : Int) := by rw [w64 (by omega) (by omega)]; omega
  by_cases c : n > (ys.length : Int)
  · rw [if_pos c]
    have h0 : e = 0 := by
      rcases Classical.em (e = 0) with h | h
      · exact h
      · have := he h; omega
    subst h0
    refine ⟨i', h1, Ev.bind h2 (Ev_pos rfl ?_)⟩
    dsimp only
    rw [ew, decide_eq_true c]
    refine Ev_succ ?_
    simp only [slipwayref12_R_size.j0, slipwayref12_R_fail.f, if_true, Option.bind_some]
    exact Ev_neg (by decide) (Ev.now _)
  · rw [if_neg c]
    refine ⟨i', h1, Ev.bind h2 ?_⟩
    by_cases h0 : e = 0
    · subst h0
      refine Ev_pos rfl ?_
      dsimp only
      rw [ew, decide_eq_false c]
      refine Ev_succ ?_
      simp only [slipwayref12_R_size.j0]
      exact Ev_neg (by decide) (Ev_pos trivial (Ev.now _))
    · refine Ev_neg h0 (Ev_succ ?_)
      simp only [slipwayref12_R_size.j0]
      refine Ev_neg (by decide) (Ev_neg h0 (Ev_some ?_))
      rw [he h0]
theorem Rints_loop (B : List Int) (hB : Bytes B) (hl : B.length ≤ 1000000000) (m : Nat) (hm : m ≤ 1000000000) : ∀ (k i : Nat) (out xs : List Int) (p e : Int), i + k = m → out.length = i → At B xs p →
    ∃ (out' : List Int) (p' : Int), At B (tloop k out xs e).2.1 p' ∧ Ev (fun f => slipwayref12_R_Ints.l0 f out (m : Int) (i : Int) B p e) (out', p', (tloop k out xs e).2.2) ∧ ((tloop k out xs e).2.2 = 0 → out' = (tloop k out xs e).1)
  | 0, i, out, xs, p, e, hk, ho, h => by
    rw [tloop]
    refine ⟨out, p, h, Ev_succ ?_, fun _ => rfl⟩
    simp only [slipwayref12_R_Ints.l0]
    exact Ev_neg (by omega) (Ev.now _)
  | k + 1, i, out, xs, p, e, hk, ho, h => by
    rw [tloop]
    by_cases he : e = 0
    · rw [if_pos he]
      obtain ⟨p1, h1, h2⟩ := Rnum_ev B hB hl xs p e h
      subst he
      obtain ⟨out', p', h3, h4, h5⟩ := Rints_loop B hB hl m hm k (i + 1) (out ++ [(dnum xs 0).1]) (dnum xs 0).2.1 p1 (dnum xs 0).2.2 (by omega) (by simp [ho]) h1
      refine ⟨out', p', h3, Ev_succ ?_, h5⟩
      simp only [slipwayref12_R_Ints.l0]
      refine Ev_pos (by omega) (Ev_pos trivial (Ev.bind h2 (Ev_pos (by omega) ?_)))
      have e1 : wrap64 ((i : Int) + 1) = ((i + 1 : Nat) : Int) := by rw [w64 (by omega) (by omega)]; omega
      rw [e1]
      exact h4
    · rw [if_neg he]
      refine ⟨out, p, h, Ev_succ ?_, fun h0 => absurd h0 he⟩
      simp only [slipwayref12_R_Ints.l0]
      exact Ev_pos (by omega) (Ev_neg he (Ev.now _))
theorem Rints_ev (B : List Int) (hB : Bytes B) (hl : B.length ≤ 1000000000) :
    ∃ (out : List Int) (p : Int), At B (gets B 0).2.1 p ∧ (∃ k, slipwayref12_R_Ints.f k B 0 0 = some (out, p, (gets B 0).2.2)) ∧ ((gets B 0).2.2 = 0 → out = (gets B 0).1) := by
  obtain ⟨i', h1, h2⟩ := Rsize_ev B hB hl B 0 ⟨0, by omega, rfl, rfl⟩
  have hs := dsize_left B 0 hB
  unfold gets
  obtain ⟨out', p', h3, h4, h5⟩ := Rints_loop B hB hl (dsize B 0).1.toNat (by omega) (dsize B 0).1.toNat 0 [] (dsize B 0).2.1 i' (dsize B 0).2.2 (by omega) rfl h1
  refine ⟨out', p', h3, Ev.rounds (g := fun k => slipwayref12_R_Ints.f k B 0 0) ?_, h5⟩
  unfold slipwayref12_R_Ints.f
  refine Ev.bind h2 ?_
  rw [show (((dsize B 0).1.toNat : Nat) : Int) = (dsize B 0).1 by omega] at h4
  exact h4
theorem Rend_eq (B xs : List Int) (p e : Int) (h : At B xs p) : slipwayref12_R_End.f B p e = some (dend xs e, p, dend xs e) := by
  have hl := h.len
  unfold slipwayref12_R_End.f dend slipwayref12_R_fail.f
  by_cases c : (xs.length : Int) > 0
  · rw [if_pos (by omega), if_pos c]
    by_cases he : e = 0
    · rw [if_pos he, if_pos he]; rfl
    · rw [if_neg he, if_neg he]; rfl
  · rw [if_neg (by omega), if_neg c]
end Go.Proofs.Ythefbeekcjchcaa.P
