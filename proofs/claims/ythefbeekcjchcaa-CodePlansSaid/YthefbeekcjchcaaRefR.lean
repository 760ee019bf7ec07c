import Derived.Test.YthefbeekcjchcaaIP
import Derived.Test.YthefbeekcjchcaaEvC
import Derived.Test.YthefbeekcjchcaaPx5
import Derived.Test.YthefbeekcjchcaaPx6
import Derived.Test.YthefbeekcjchcaaPx7
namespace Go.Proofs.Ythefbeekcjchcaa.P
open Go Go.RowKit Go.Proofs.YthefbeekcjchcaaW.PrintWords Go.Proofs.YthefbeekcjchcaaW.PrintLast Go.Proofs.YthefbeekcjchcaaW.PrintMore Go.Proofs.Ythefbeekcjchcaa.Pure
set_option linter.unusedVariables false
set_option linter.unusedSimpArgs false
/-! The document reads the same. -/
theorem rd_drop {B : List Int} {i : Nat} (h : i < B.length) : B.drop i = rd B (i : Int) :: B.drop (i + 1) := drop_rd h
theorem shl_eq (c : Int) (k : Nat) (h0 : 0 ≤ c) (h1 : c < 128) (hk : k ≤ 5) : shl .i64 c (7 * (k : Int)) = c * 128 ^ k ∧ 0 ≤ c * 128 ^ k ∧ c * 128 ^ k ≤ 127 * 34359738368 := by
  have hp := pow128 k hk
  obtain ⟨m, rfl⟩ : ∃ m : Nat, c = (m : Int) := ⟨c.toNat, by omega⟩
  have hm : m * 128 ^ k ≤ 127 * 34359738368 := Nat.mul_le_mul (by omega) hp.2.1
  have e : (m : Int) * 128 ^ k = ((m * 128 ^ k : Nat) : Int) := by rw [hp.1]; push_cast; rfl
  refine ⟨?_, by rw [e]; omega, by rw [e]; omega⟩
  unfold shl
  rw [show (7 * (k : Int)).toNat = 7 * k by omega, show min (7 * k) IntKind.i64.bits = 7 * k from Nat.min_eq_left (Nat.le_trans (Nat.mul_le_mul_left 7 hk) (by decide))]
  have e2 : (m : Int) * (2 : Int) ^ (7 * k) = (m : Int) * 128 ^ k := by rw [hp.1, hp.2.2]; push_cast; rfl
  rw [e2, e]
  exact IntWalk.i64_in _ (by omega)
theorem lt_pow (n : Int) (k : Nat) (hk : k ≤ 5) (h : n < 128 ^ k) : n < 34359738368 := by
  have hp := pow128 k hk
  have h1 : n < ((128 ^ k : Nat) : Int) := hp.1 ▸ h
  have h2 : ((128 ^ k : Nat) : Int) ≤ ((34359738368 : Nat) : Int) := Int.ofNat_le.2 hp.2.1
  exact Int.lt_of_lt_of_le h1 h2
theorem next_lt (n c : Int) (k : Nat) (h : n < 128 ^ k) (h1 : c ≤ 127) : n + c * 128 ^ k < 128 ^ (k + 1) := by
  have hp : (0 : Int) ≤ 128 ^ k := Int.pow_nonneg (by omega)
  rw [Int.pow_succ]
  generalize (128 : Int) ^ k = p at h hp ⊢
  have h3 : c * p ≤ 127 * p := Int.mul_le_mul_of_nonneg_right h1 hp
  omega
theorem Rnum_loop (B : List Int) (hB : Bytes B) (hl : B.length ≤ 1000000000) : ∀ (d k : Nat) (n : Int) (i : Nat), k + d = 5 → 0 ≤ n → n < 128 ^ k → i ≤ B.length →
    Ev (fun f => slipwayref12_R_num.l0 f n (k : Int) B (i : Int) 0) ((dn k n (B.drop i)).1, ((B.length - (dn k n (B.drop i)).2.1.length : Nat) : Int), (dn k n (B.drop i)).2.2)
  | d, k, n, i, hd, hn, hn1, hi => by
    refine Ev_succ ?_
    simp only [slipwayref12_R_num.l0]
    refine Ev_pos (by omega) (Ev_succ ?_)
    simp only [slipwayref12_R_num.j1]
    refine Ev_pos (by decide) ?_
    by_cases hlt : i < B.length
    · have hc := hB (rd B (i : Int)) (by have := List.mem_of_mem_drop (i := i) (l := B) (a := rd B (i : Int)) (by rw [rd_drop hlt]; exact List.mem_cons_self ..); exact this)
      rw [rd_drop hlt]
      generalize rd B (i : Int) = c at hc
      have ew : wrap64 c = c := w64 (by omega) (by omega)
      have et : Int.tmod c 128 = c % 128 := Int.tmod_eq_emod_of_nonneg (by omega)
      have e7 : wrap64 (7 * (k : Int)) = 7 * (k : Int) := w64 (by omega) (by omega)
      have es := shl_eq (c % 128) k (by omega) (by omega) (by omega)
      have e1 : wrap64 ((i : Int) + 1) = ((i + 1 : Nat) : Int) := by rw [w64 (by omega) (by omega)]; omega
      have hn2 := lt_pow n k (by omega) hn1
      have hnx := next_lt n (c % 128) k hn1 (by omega)
      obtain ⟨es1, es2, es3⟩ := es
      rw [ew, et, e7, es1, e1]
      obtain ⟨r, hr⟩ : ∃ r, dn k n (c :: B.drop (i + 1)) = r := ⟨_, rfl⟩
      rw [hr]
      rw [dn] at hr
      clear es1 hn1 et e7 ew
      generalize c % 128 * 128 ^ k = y at es2 es3 hnx hr ⊢
      have eN : wrap64 (n + y) = n + y := w64 (by omega) (by omega)
      rw [eN]
      clear eN
      have hlen : ((B.length - (B.drop (i + 1)).length : Nat) : Int) = ((i + 1 : Nat) : Int) := by rw [List.length_drop]; omega
      have hN0 : 0 ≤ n + y := by omega
      generalize n + y = N at hnx hN0 hr ⊢
      clear es2 es3 hn hn2
      obtain ⟨M, hM⟩ : ∃ M, (128 : Int) ^ (k + 1) = M := ⟨_, rfl⟩
      have HM := Aside0.mk hM
      rw [hM] at hnx
      clear hM
      refine Ev_neg (by omega) (Ev_pos (by omega) (Ev_pos (by omega) (Ev_pos (by omega) ?_)))
      by_cases h1 : c < 128
      · refine Ev_pos h1 ?_
        by_cases h2 : N > 1099511627776
        · rw [if_pos (.inl ⟨h1, .inl h2⟩)] at hr
          refine Ev_pos h2 ?_
          simp only [slipwayref12_R_fail.f, if_true, Option.bind_some]
          subst hr; refine Ev_some ?_; dsimp only; rw [hlen]
        · refine Ev_neg h2 ?_
          by_cases h3 : (k : Int) > 0
          · refine Ev_pos h3 ?_
            by_cases h4 : c = 0
            · rw [if_pos (.inl ⟨h1, .inr ⟨by omega, h4⟩⟩)] at hr
              refine Ev_pos h4 ?_
              simp only [slipwayref12_R_fail.f, if_true, Option.bind_some]
              subst hr; refine Ev_some ?_; dsimp only; rw [hlen]
            · rw [if_neg (by omega), if_pos h1] at hr
              subst hr; refine Ev_neg h4 (Ev_some ?_); dsimp only; rw [hlen]
          · rw [if_neg (by omega), if_pos h1] at hr
            subst hr; refine Ev_neg h3 (Ev_some ?_); dsimp only; rw [hlen]
      · refine Ev_neg h1 ?_
        have ek : wrap64 ((k : Int) + 1) = ((k + 1 : Nat) : Int) := by rw [w64 (by omega) (by omega)]; omega
        rw [ek]
        match d, hd with
        | 0, hd =>
          rw [if_pos (.inr ⟨by omega, by omega⟩)] at hr
          refine Ev_succ ?_
          simp only [slipwayref12_R_num.l0]
          refine Ev_neg (by omega) (Ev_succ ?_)
          simp only [slipwayref12_R_num.j1]
          refine Ev_neg (by decide) ?_
          simp only [slipwayref12_R_fail.f, if_true, Option.bind_some]
          subst hr; refine Ev_some ?_; dsimp only; rw [hlen]
        | d + 1, hd =>
          rw [if_neg (by omega), if_neg h1] at hr
          subst hr
          exact Rnum_loop B hB hl d (k + 1) N (i + 1) (by omega) hN0 (by rw [HM.out]; exact hnx) (by omega)
    · obtain rfl : i = B.length := by omega
      rw [List.drop_length, dn]
      refine Ev_pos (by omega) ?_
      simp only [slipwayref12_R_fail.f, if_true, Option.bind_some]
      exact Ev_some (by simp)
/-- Where the document stands: so much is left. -/
def At (B : List Int) (xs : List Int) (i : Int) : Prop := ∃ j : Nat, j ≤ B.length ∧ i = (j : Int) ∧ xs = B.drop j
theorem dn_suffix : ∀ (xs : List Int) (k : Nat) (n : Int), ∃ j : Nat, j ≤ xs.length ∧ (dn k n xs).2.1 = xs.drop j
  | [], k, n => ⟨0, by simp, by rw [dn]; rfl⟩
  | c :: xs, k, n => by
    rw [dn]
    split
    · exact ⟨1, by simp, rfl⟩
    · split
      · exact ⟨1, by simp, rfl⟩
      · obtain ⟨j, h1, h2⟩ := dn_suffix xs (k + 1) (n + c % 128 * 128 ^ k)
        exact ⟨j + 1, by simp; omega, by rw [h2]; rfl⟩
theorem dnum_suffix (xs : List Int) (e : Int) : ∃ j : Nat, j ≤ xs.length ∧ (dnum xs e).2.1 = xs.drop j := by
  unfold dnum
  split
  · exact dn_suffix xs 0 0
  · exact ⟨0, by omega, rfl⟩
theorem Rnum_ev (B : List Int) (hB : Bytes B) (hl : B.length ≤ 1000000000) (xs : List Int) (i e : Int) (h : At B xs i) :
    ∃ i' : Int, At B (dnum xs e).2.1 i' ∧ Ev (fun f => slipwayref12_R_num.f f B i e) ((dnum xs e).1, i', (dnum xs e).2.2) := by
  obtain ⟨j, hj, rfl, rfl⟩ := h
  obtain ⟨m, hm, hs⟩ := dnum_suffix (B.drop j) e
  rw [List.length_drop] at hm
  have hat : At B (dnum (B.drop j) e).2.1 ((j + m : Nat) : Int) := ⟨j + m, by omega, rfl, by rw [hs, List.drop_drop]⟩
  refine ⟨_, hat, ?_⟩
  unfold slipwayref12_R_num.f
  by_cases he : e = 0
  · subst he
    have h := Rnum_loop B hB hl 5 0 0 j rfl (by omega) (by decide) hj
    have hd : dnum (B.drop j) 0 = dn 0 0 (B.drop j) := by rw [dnum, if_pos rfl]
    rw [hd] at hs ⊢
    have hlen : (dn 0 0 (B.drop j)).2.1.length = B.length - (j + m) := by rw [hs, List.drop_drop, List.length_drop]
    rw [hlen] at h
    have : B.length - (B.length - (j + m)) = j + m := by omega
    rw [this] at h
    exact h
  · have hd : dnum (B.drop j) e = (0, B.drop j, e) := by rw [dnum, if_neg he]
    rw [hd] at hs ⊢
    dsimp only at hs ⊢
    have hm0 : m = 0 ∨ B.length - j = 0 := by
      have := congrArg List.length hs
      rw [List.length_drop, List.length_drop, List.length_drop] at this
      omega
    have hmj : ((j + m : Nat) : Int) = (j : Int) := by omega
    rw [hmj]
    refine Ev_succ ?_
    simp only [slipwayref12_R_num.l0]
    refine Ev_pos (by omega) (Ev_succ ?_)
    simp only [slipwayref12_R_num.j1]
    refine Ev_neg (by simp [he]) ?_
    simp only [slipwayref12_R_fail.f, if_neg he, Option.bind_some]
    exact Ev.now _
theorem dn_zero : ∀ (xs : List Int) (k : Nat) (n : Int), (dn k n xs).2.2 ≠ 0 → (dn k n xs).1 = 0
  | [], k, n, _ => by rw [dn]
  | c :: xs, k, n, h => by
    rw [dn] at h ⊢
    split
    · rfl
    · rename_i h1
      rw [if_neg h1] at h
      split
      · rename_i h2
        rw [if_pos h2] at h
        exact absurd rfl h
      · rename_i h2
        rw [if_neg h2] at h
        exact dn_zero xs _ _ h
theorem dnum_err (xs : List Int) (e : Int) (h : (dnum xs e).2.2 ≠ 0) : (dnum xs e).1 = 0 := by
  unfold dnum at h ⊢
  split
  · rename_i h1; rw [if_pos h1] at h; exact dn_zero xs _ _ h
  · rfl
theorem At.len {B xs : List Int} {i : Int} (h : At B xs i) : (xs.length : Int) = (B.length : Int) - i ∧ 0 ≤ i := by
  obtain ⟨j, hj, rfl, rfl⟩ := h
  rw [List.length_drop]
  omega
theorem Rsize_ev (B : List Int) (hB : Bytes B) (hl : B.length ≤ 1000000000) (xs : List Int) (i : Int) (h : At B xs i) :
    ∃ i' : Int, At B (dsize xs 0).2.1 i' ∧ Ev (fun f => slipwayref12_R_size.f f B i 0) ((dsize xs 0).1, i', (dsize xs 0).2.2) := by
  obtain ⟨i', h1, h2⟩ := Rnum_ev B hB hl xs i 0 h
  have he := dnum_err xs 0
  unfold dsize slipwayref12_R_size.f
  have hlen := h1.len
  generalize dnum xs 0 = r at h1 h2 he hlen
  obtain ⟨n, ys, e⟩ := r
  dsimp only at h1 h2 he hlen ⊢
  have ew : wrap64 ((B.length : Int) - i') = (ys.length : Int) := by rw [w64 (by omega) (by omega)]; omega
  by_cases c : n > (ys.length : Int)
  · rw [if_pos c]
    have h0 : e = 0 := by
      rcases Classical.em (e = 0) with h | h
      · exact h
      · have := he h; omega
    subst h0
    refine ⟨i', h1, Ev.bind h2 (Ev_pos rfl ?_)⟩
    dsimp only
    rw [ew, decide_eq_true c]
    refine Ev_succ ?_
    simp only [slipwayref12_R_size.j0, slipwayref12_R_fail.f, if_true, Option.bind_some]
    exact Ev_neg (by decide) (Ev.now _)
  · rw [if_neg c]
    refine ⟨i', h1, Ev.bind h2 ?_⟩
    by_cases h0 : e = 0
    · subst h0
      refine Ev_pos rfl ?_
      dsimp only
      rw [ew, decide_eq_false c]
      refine Ev_succ ?_
      simp only [slipwayref12_R_size.j0]
      exact Ev_neg (by decide) (Ev_pos trivial (Ev.now _))
    · refine Ev_neg h0 (Ev_succ ?_)
      simp only [slipwayref12_R_size.j0]
      refine Ev_neg (by decide) (Ev_neg h0 (Ev_some ?_))
      rw [he h0]
/-- The document's reader: where it stands, and its first error. -/
def RPos (B : List Int) (st : St) (i e : Int) : Prop := ∃ j : Nat, j ≤ B.length ∧ i = (j : Int) ∧ Rep (B.drop j) e st
theorem RPos.start (B : List Int) : RPos B (.left B) 0 0 := ⟨0, by omega, rfl, .inl ⟨rfl, rfl⟩⟩
theorem Rnum_step (B : List Int) (hB : Bytes B) (hl : B.length ≤ 1000000000) {st : St} {i e : Int} (h : RPos B st i e) :
    ∃ x i' e' st', Step rnum st x st' ∧ RPos B st' i' e' ∧ Ev (fun f => slipwayref12_R_num.f f B i e) (x, i', e') := by
  obtain ⟨j, hj, rfl, hr⟩ := h
  obtain ⟨i', ⟨j', hj', rfl, hd⟩, hev⟩ := Rnum_ev B hB hl (B.drop j) (j : Int) e ⟨j, hj, rfl, rfl⟩
  obtain ⟨st', h1, h2⟩ := dnum_step hr
  rw [hd] at h2
  exact ⟨_, _, _, st', h1, ⟨j', hj', rfl, h2⟩, hev⟩
theorem Rsize_step (B : List Int) (hB : Bytes B) (hl : B.length ≤ 1000000000) {st : St} {i e : Int} (h : RPos B st i e) :
    ∃ (n : Nat) (i' e' : Int) (st' : St), Step rsize st (n : Int) st' ∧ RPos B st' i' e' ∧ n ≤ B.length ∧ i' + n ≤ (B.length : Int) ∧ Ev (fun f => slipwayref12_R_size.f f B i e) ((n : Int), i', e') := by
  obtain ⟨j, hj, rfl, hr⟩ := h
  by_cases he : e = 0
  · subst he
    obtain ⟨i', ⟨j', hj', rfl, hd⟩, hev⟩ := Rsize_ev B hB hl (B.drop j) (j : Int) ⟨j, hj, rfl, rfl⟩
    obtain ⟨st', h1, h2⟩ := dsize_step hr
    have h7 := dsize_left (B.drop j) 0 (fun x hx => hB x (List.mem_of_mem_drop hx))
    obtain ⟨n, hn⟩ : ∃ n : Nat, (dsize (B.drop j) 0).1 = (n : Int) := ⟨(dsize (B.drop j) 0).1.toNat, by omega⟩
    rw [hn] at h1 h7 hev
    rw [hd] at h2 h7
    rw [List.length_drop] at h7
    exact ⟨n, _, _, st', h1, ⟨j', hj', rfl, h2⟩, by omega, by omega, hev⟩
  · obtain ⟨x, i', e', st', h1, h2, h3⟩ := Rnum_step B hB hl (st := st) ⟨j, hj, rfl, hr⟩
    have hst : st = .err e := by
      rcases hr with ⟨h, _⟩ | ⟨_, h⟩
      · exact absurd h he
      · exact h
    subst hst
    have e1 : st' = .err e := h1
    subst e1
    obtain ⟨j', hj', rfl, hr'⟩ := h2
    have e2 : e' = e ∧ e ≠ 0 := by
      rcases hr' with ⟨_, h⟩ | ⟨h', h⟩
      · cases h
      · cases h; exact ⟨rfl, h'⟩
    obtain ⟨rfl, hne⟩ := e2
    refine ⟨0, _, _, _, rfl, ⟨j', hj', rfl, hr'⟩, by omega, by omega, ?_⟩
    unfold slipwayref12_R_size.f
    refine Ev.bind h3 (Ev_neg hne (Ev_succ ?_))
    simp only [slipwayref12_R_size.j0]
    exact Ev_neg (by decide) (Ev_neg hne (Ev.now _))
theorem Rints_loop (B : List Int) (hB : Bytes B) (hl : B.length ≤ 1000000000) (m : Nat) (hm : m ≤ 1000000000) (s0 : St) : ∀ (k i : Nat) (out : List Int) (st : St) (p e : Int), i + k = m → out.length = i → RPos B st p e → Goes rnum m s0 k out st →
    ∃ (out' : List Int) (p' e' : Int) (st' : St), RPos B st' p' e' ∧ Step (rmany rnum m) s0 out' st' ∧ Ev (fun f => slipwayref12_R_Ints.l0 f out (m : Int) (i : Int) B p e) (out', p', e')
  | 0, i, out, st, p, e, hk, ho, h, hG => by
    refine ⟨out, p, e, st, h, hG.done, Ev_succ ?_⟩
    simp only [slipwayref12_R_Ints.l0]
    exact Ev_neg (by omega) (Ev.now _)
  | k + 1, i, out, st, p, e, hk, ho, h, hG => by
    by_cases he : e = 0
    · obtain ⟨x, p1, e1, st1, h1, h2, h3⟩ := Rnum_step B hB hl h
      subst he
      obtain ⟨out', p', e', st', h4, h5, h6⟩ := Rints_loop B hB hl m hm s0 k (i + 1) (out ++ [x]) st1 p1 e1 (by omega) (by simp [ho]) h2 (hG.next h1)
      refine ⟨out', p', e', st', h4, h5, Ev_succ ?_⟩
      simp only [slipwayref12_R_Ints.l0]
      refine Ev_pos (by omega) (Ev_pos trivial (Ev.bind h3 (Ev_pos (by omega) ?_)))
      have e1 : wrap64 ((i : Int) + 1) = ((i + 1 : Nat) : Int) := by rw [w64 (by omega) (by omega)]; omega
      rw [e1]
      exact h6
    · have hst : st = .err e := by
        obtain ⟨j, _, _, hr⟩ := h
        rcases hr with ⟨h, _⟩ | ⟨_, h⟩
        · exact absurd h he
        · exact h
      subst hst
      refine ⟨out, p, e, _, h, hG.fails out, Ev_succ ?_⟩
      simp only [slipwayref12_R_Ints.l0]
      exact Ev_pos (by omega) (Ev_neg he (Ev.now _))
theorem Rints_step (B : List Int) (hB : Bytes B) (hl : B.length ≤ 1000000000) {st : St} {i e : Int} (h : RPos B st i e) :
    ∃ (out : List Int) (i' e' : Int) (st' : St), Step (rlist rnum) st out st' ∧ RPos B st' i' e' ∧ Ev (fun f => slipwayref12_R_Ints.f f B i e) (out, i', e') := by
  obtain ⟨n, i1, e1, st1, h1, h2, h3, _, h4⟩ := Rsize_step B hB hl h
  obtain ⟨out', p', e', st', h5, h6, h7⟩ := Rints_loop B hB hl n (by omega) st1 n 0 [] st1 i1 e1 (by omega) rfl h2 (Goes.start _ _ _)
  refine ⟨out', p', e', st', Step.bind h1 (by rw [Int.toNat_natCast]; exact h6), h5, ?_⟩
  unfold slipwayref12_R_Ints.f
  exact Ev.bind h4 h7
theorem Rend_step (B : List Int) {st : St} {i e : Int} (h : RPos B st i e) : slipwayref12_R_End.f B i e = some (st.fin, i, st.fin) := by
  obtain ⟨j, hj, rfl, hr⟩ := h
  have hd : dend (B.drop j) e = st.fin := by
    unfold dend
    rcases hr with ⟨rfl, rfl⟩ | ⟨h, rfl⟩
    · cases B.drop j with
      | nil => rfl
      | cons b bs => simp [St.fin]
    · rw [if_neg h]; simp [St.fin]
  rw [← hd]
  have hl : ((B.drop j).length : Int) = (B.length : Int) - j := by rw [List.length_drop]; omega
  unfold slipwayref12_R_End.f dend slipwayref12_R_fail.f
  by_cases c : ((B.drop j).length : Int) > 0
  · rw [if_pos (by omega), if_pos c]
    by_cases he : e = 0
    · rw [if_pos he, if_pos he]; rfl
    · rw [if_neg he, if_neg he]; rfl
  · rw [if_neg (by omega), if_neg c]
end Go.Proofs.Ythefbeekcjchcaa.P
