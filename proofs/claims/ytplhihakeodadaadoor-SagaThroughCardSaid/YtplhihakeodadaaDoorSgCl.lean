/- saga: what is done is closed at every moment (the plain law of SagaClosed). -/
import Derived.Test.YtplhihakeodadaaDoorSgAnc
namespace Go.Proofs.YtplhihakeodadaaDoor.Sg
open Go Go.RowKit Go.Proofs.YtplhihakeodadaaDoorW.PrintWords Go.Proofs.YtplhihakeodadaaDoorW.PrintLast Go.Proofs.YtplhihakeodadaaDoorW.PrintMore
set_option linter.unusedVariables false
set_option linter.unusedSimpArgs false
structure Cl (s : SS) : Prop where
  n : s.pl.2.2.1.length ≤ 64
  m : s.pl.2.2.2.length ≤ 4096
  e : ∀ e ∈ s.pl.2.2.2, (0 ≤ e.1 ∧ e.1 < (s.pl.2.2.1.length : Int)) ∧ (0 ≤ e.2 ∧ e.2 < (s.pl.2.2.1.length : Int))
  r : ∀ k ∈ s.dn ++ s.op, 0 ≤ k ∧ k < (s.pl.2.2.1.length : Int)
  nd : (s.dn ++ s.op).Nodup
  pd : ∀ a k b, s.dn = a ++ k :: b → ∀ e ∈ s.pl.2.2.2, e.2 = k → e.1 ∈ a
  po : ∀ k ∈ s.op, ∀ e ∈ s.pl.2.2.2, e.2 = k → e.1 ∈ s.dn
theorem Cl.zero : Cl ss0 := ⟨by decide, by decide, fun e h => by simp [ss0, pl0] at h, fun k h => by simp [ss0] at h, by simp [ss0], fun a k b h => by simp [ss0] at h, fun k h => by simp [ss0] at h⟩
theorem mem_without {k x : Int} {l : List Int} : x ∈ without k l ↔ x ∈ l ∧ x ≠ k := by simp [without]
theorem without_not {k : Int} {l : List Int} (h : k ∉ l) : without k l = l := by
  unfold without
  rw [List.filter_eq_self]
  intro a ha
  have : a ≠ k := fun e => h (e ▸ ha)
  simpa using this
theorem begins_right {p : Pln} (h : begins p = true) : rightG p.2.2.1.length p.2.2.2 = true ∧ p.2.2.1.length ≤ 36 := by
  unfold begins at h
  rw [Bool.and_eq_true, Bool.and_eq_true, decide_eq_true_eq] at h
  refine ⟨?_, h.1.2⟩
  have h1 := h.1.1
  unfold orderErr at h1
  split at h1
  · assumption
  · simp at h1
theorem Cl.turn {s : SS} {r : RR} (h : Cl s) (hk : 1 ≤ r.kind ∧ r.kind ≤ 8) (ha : ask s r = 0) : Cl (turn s r) := by
  unfold ask at ha
  unfold Sg.turn
  by_cases q1 : r.kind = 1
  · rw [if_pos q1] at ha ⊢
    have hb : begins r.pl = true := by
      cases hb : begins r.pl with
      | true => rfl
      | false => rw [hb] at ha; simp at ha
    obtain ⟨h1, h2⟩ := begins_right hb
    obtain ⟨_, _, h3, h4⟩ := rightG_in h1
    exact ⟨by dsimp only; omega, h3, h4, fun k hk => by simp at hk, by simp, fun a k b h => by simp at h, fun k hk => by simp at hk⟩
  rw [if_neg q1] at ha ⊢
  by_cases q2 : r.kind = 2
  · rw [if_pos q2] at ha ⊢
    have hm : may s r.step = true := by
      cases hb : may s r.step with
      | true => rfl
      | false => rw [hb] at ha; simp at ha
    unfold may at hm
    simp only [Bool.and_eq_true, decide_eq_true_eq, Bool.not_eq_true'] at hm
    obtain ⟨⟨⟨⟨m1, m2⟩, m3⟩, m4⟩, m5⟩ := hm
    have n2 : r.step ∉ s.op := by simpa using m2
    have n3 : r.step ∉ s.dn := by simpa using m3
    refine ⟨h.n, h.m, h.e, fun k hk => ?_, ?_, h.pd, fun k hk e he hek => ?_⟩
    · rcases List.mem_append.1 hk with hk | hk
      · exact h.r k (List.mem_append_left _ hk)
      · rcases List.mem_append.1 hk with hk | hk
        · exact h.r k (List.mem_append_right _ hk)
        · rw [List.mem_singleton] at hk; subst hk; exact m1
    · dsimp only
      rw [← List.append_assoc, List.nodup_append]
      refine ⟨h.nd, by simp, fun a ha b hb => ?_⟩
      rw [List.mem_singleton] at hb
      subst hb
      intro e
      subst e
      rcases List.mem_append.1 ha with ha | ha
      · exact n3 ha
      · exact n2 ha
    · rcases List.mem_append.1 hk with hk | hk
      · exact h.po k hk e he hek
      · rw [List.mem_singleton] at hk
        subst hk
        rw [List.any_eq_false] at m5
        have := m5 e he
        unfold bars at this
        rw [hek] at this
        simpa using this
  rw [if_neg q2] at ha ⊢
  by_cases q3 : r.kind = 3
  · rw [if_pos (.inl q3)] at ha
    rw [if_pos q3]
    have hc : r.step ∈ s.op := by
      cases hb : s.op.contains r.step with
      | true => simpa using hb
      | false => rw [hb] at ha; simp at ha
    obtain ⟨nd1, nd2, nd3⟩ := List.nodup_append.1 h.nd
    have nin : r.step ∉ s.dn := fun hd => nd3 _ hd _ hc rfl
    refine ⟨h.n, h.m, h.e, fun k hk => ?_, ?_, fun a k b hab e he hek => ?_, fun k hk e he hek => ?_⟩
    · rcases List.mem_append.1 hk with hk | hk
      · rcases List.mem_append.1 hk with hk | hk
        · exact h.r k (List.mem_append_left _ hk)
        · rw [List.mem_singleton] at hk; subst hk; exact h.r _ (List.mem_append_right _ hc)
      · exact h.r k (List.mem_append_right _ (mem_without.1 hk).1)
    · dsimp only
      rw [List.append_assoc, List.nodup_append]
      refine ⟨nd1, ?_, fun x hx y hy => ?_⟩
      · rw [List.singleton_append, List.nodup_cons]
        exact ⟨fun hx => (mem_without.1 hx).2 rfl, nd2.filter _⟩
      · rw [List.singleton_append, List.mem_cons] at hy
        rintro rfl
        rcases hy with hy | hy
        · exact nin (hy ▸ hx)
        · exact nd3 _ hx _ (mem_without.1 hy).1 rfl
    · dsimp only at hab he
      rcases List.eq_nil_or_concat b with hb | ⟨b', x, hb⟩
      · subst hb
        have h1 := List.append_inj' hab rfl
        obtain ⟨h2, h3⟩ := h1
        have : r.step = k := by simpa using h3
        subst h2
        exact h.po r.step hc e he (hek.trans this.symm)
      · rw [List.concat_eq_append] at hb
        subst hb
        rw [show a ++ k :: (b' ++ [x]) = (a ++ k :: b') ++ [x] by simp] at hab
        have h1 := List.append_inj' hab rfl
        exact h.pd a k b' h1.1 e he hek
    · exact List.mem_append_left _ (h.po k (mem_without.1 hk).1 e he hek)
  rw [if_neg q3]
  by_cases q45 : r.kind = 4 ∨ r.kind = 5
  · rw [if_pos q45]
    exact ⟨h.n, h.m, h.e, h.r, h.nd, h.pd, h.po⟩
  rw [if_neg q45]
  by_cases q6 : r.kind = 6
  · rw [if_pos q6]
    rw [if_neg (by omega), if_pos q6] at ha
    have ht : (top s).2 = true ∧ (top s).1 = r.step := by
      cases hb : (top s).2 && (top s).1 == r.step with
      | true => simpa using hb
      | false => rw [hb] at ha; simp at ha
    obtain ⟨nd1, nd2, nd3⟩ := List.nodup_append.1 h.nd
    obtain ⟨t1, t2⟩ := ht
    unfold top at t1 t2
    split at t1
    · rename_i hp
      rw [if_pos hp] at t2
      by_cases hop : s.op ≠ []
      · rw [if_pos hop] at t2
        have hin : r.step ∈ s.op := by
          rcases List.eq_nil_or_concat s.op with hq | ⟨d', x, hq⟩
          · exact absurd hq hop
          · rw [List.concat_eq_append] at hq
            rw [hq] at t2 ⊢
            have : x = r.step := by simpa using t2
            rw [this]
            simp
        have nin : r.step ∉ s.dn := fun hd => nd3 _ hd _ hin rfl
        rw [without_not nin]
        refine ⟨h.n, h.m, h.e, fun k hk => ?_, ?_, h.pd, fun k hk e he hek => h.po k (mem_without.1 hk).1 e he hek⟩
        · rcases List.mem_append.1 hk with hk | hk
          · exact h.r k (List.mem_append_left _ hk)
          · exact h.r k (List.mem_append_right _ (mem_without.1 hk).1)
        · dsimp only
          rw [List.nodup_append]
          exact ⟨nd1, nd2.filter _, fun x hx y hy => nd3 x hx y (mem_without.1 hy).1⟩
      · have hop' : s.op = [] := by simpa using hop
        rw [if_neg hop] at t1 t2
        by_cases hdn : s.dn ≠ []
        · rw [if_pos hdn] at t2
          obtain ⟨d', x, hd⟩ : ∃ d' x, s.dn = d' ++ [x] := by
            rcases List.eq_nil_or_concat s.dn with hq | ⟨d', x, hq⟩
            · exact absurd hq hdn
            · exact ⟨d', x, by rw [hq, List.concat_eq_append]⟩
          rw [hd] at t2
          have hx : x = r.step := by simpa using t2
          rw [hd] at nd1
          obtain ⟨m1, _, m3⟩ := List.nodup_append.1 nd1
          have nin : r.step ∉ d' := fun hq => m3 _ hq r.step (by rw [hx]; simp) rfl
          have hw : without r.step s.dn = d' := by
            rw [hd, hx]
            unfold without
            rw [List.filter_append]
            have h1 := without_not nin
            unfold without at h1
            rw [h1]
            simp
          rw [hw, hop']
          refine ⟨h.n, h.m, h.e, fun k hk => ?_, ?_, fun a k b hab e he hek => ?_, fun k hk => by simp [without] at hk⟩
          · have : k ∈ d' := by simpa [without] using hk
            exact h.r k (List.mem_append_left _ (by rw [hd]; exact List.mem_append_left _ this))
          · simpa [without] using m1
          · dsimp only at hab
            exact h.pd a k (b ++ [x]) (by rw [hd, hab]; simp) e he hek
        · rw [if_neg hdn] at t1
          simp at t1
    · simp at t1
  rw [if_neg q6]
  by_cases q7 : r.kind = 7
  · rw [if_pos q7]
    exact ⟨h.n, h.m, h.e, h.r, h.nd, h.pd, h.po⟩
  rw [if_neg q7]
  rw [if_pos (by omega)]
  exact ⟨h.n, h.m, h.e, h.r, h.nd, h.pd, h.po⟩
theorem Cl.take {s : SS} {r : RR} (h : Cl s) (he : (take s r).2 = 0) : Cl (take s r).1 := by
  unfold Sg.take at he ⊢
  split
  · exact Cl.zero
  · rename_i hf
    split
    · exact Cl.zero
    · split
      · exact Cl.zero
      · rename_i ha
        have hf' : formed r = true := by simpa using hf
        unfold formed at hf'
        rw [Bool.and_eq_true, Bool.and_eq_true] at hf'
        exact h.turn (of_decide_eq_true hf'.1.1) (by simpa using ha)
/-- The set of some steps is closed if each one's predecessors are in it. -/
theorem closed_of {s : SS} (h : Cl s) (l : List Int) (hl : ∀ k ∈ l, 0 ≤ k) (hp : ∀ k ∈ l, ∀ e ∈ s.pl.2.2.2, e.2 = k → e.1 ∈ l) : closedE s.pl.2.2.2 (maskOf l) = true := by
  unfold closedE
  rw [List.all_eq_true]
  intro e he
  obtain ⟨⟨a1, a2⟩, a3, a4⟩ := h.e e he
  rw [Bool.or_eq_true, maskOf_bit l _ hl, maskOf_bit l _ hl, Int.toNat_of_nonneg a3, Int.toNat_of_nonneg a1]
  by_cases hm : e.2 ∈ l
  · right; simpa using hp e.2 hm e he rfl
  · left; simpa using hm
theorem mem_dn {s : SS} (h : Cl s) {k : Int} (hk : k ∈ s.dn) : ∀ e ∈ s.pl.2.2.2, e.2 = k → e.1 ∈ s.dn := fun e he hek => by
  obtain ⟨a, b, hab⟩ := List.append_of_mem hk
  rw [hab]
  exact List.mem_append_left _ (h.pd a k b hab e he hek)
theorem Cl.done {s : SS} (h : Cl s) : closedE s.pl.2.2.2 (maskOf s.dn) = true :=
  closed_of h _ (fun k hk => (h.r k (List.mem_append_left _ hk)).1) (fun k hk => mem_dn h hk)
theorem Cl.one {s : SS} (h : Cl s) {x : Int} (hx : x ∈ s.op) : closedE s.pl.2.2.2 (maskOf (s.dn ++ [x])) = true :=
  closed_of h _ (fun k hk => by
    rcases List.mem_append.1 hk with hk | hk
    · exact (h.r k (List.mem_append_left _ hk)).1
    · rw [List.mem_singleton] at hk; subst hk; exact (h.r _ (List.mem_append_right _ hx)).1) (fun k hk e he hek => by
    rcases List.mem_append.1 hk with hk | hk
    · exact List.mem_append_left _ (mem_dn h hk e he hek)
    · rw [List.mem_singleton] at hk; subst hk; exact List.mem_append_left _ (h.po _ hx e he hek))
theorem Cl.all {s : SS} (h : Cl s) : closedE s.pl.2.2.2 (maskOf (s.dn ++ s.op)) = true :=
  closed_of h _ (fun k hk => (h.r k hk).1) (fun k hk e he hek => by
    rcases List.mem_append.1 hk with hk | hk
    · exact List.mem_append_left _ (mem_dn h hk e he hek)
    · exact List.mem_append_left _ (h.po _ hk e he hek))
theorem Cl.reached {s : SS} (h : Cl s) : Sg.reached s = maskOf (s.dn ++ s.op) := by
  unfold Sg.reached
  apply Nat.eq_of_testBit_eq
  intro i
  rw [maskOf_bit _ _ (fun k hk => (h.r k (by rw [List.mem_append] at hk ⊢; exact hk.symm)).1), maskOf_bit _ _ (fun k hk => (h.r k hk).1)]
  simp [Bool.or_comm]
end Go.Proofs.YtplhihakeodadaaDoor.Sg
