/- saga: a plan gone through by picks, plainly; the records of SagaThrough in memory; its closure. -/
import Derived.Test.YtplhihakeodadaaDoorSgMir
namespace Go.Proofs.YtplhihakeodadaaDoor.Sg
open Go Go.RowKit Go.Proofs.YtplhihakeodadaaDoorW.PrintWords Go.Proofs.YtplhihakeodadaaDoorW.PrintLast Go.Proofs.YtplhihakeodadaaDoorW.PrintMore
set_option linter.unusedVariables false
set_option linter.unusedSimpArgs false
structure Th (p : Pln) (s : SS) : Prop where
  pl : s.pl = p
  ph : s.ph = 1 ∨ s.ph = 2 ∨ s.ph = 3
  num : s.num = 1
  cl : Cl s
  n : p.2.2.1.length ≤ 36
  ok : okPlan p = true
def mea (s : SS) : Nat := 2 * s.dn.length + s.op.length
theorem Th.len {p : Pln} {s : SS} (h : Th p s) : s.dn.length + s.op.length ≤ p.2.2.1.length := by
  have h1 := h.cl.len
  rwa [h.pl] at h1
theorem Th.bd {p : Pln} {s : SS} (h : Th p s) : Bd 100 s := ⟨by rw [h.num]; decide, by rw [h.num]; decide, by have := h.len; have := h.n; omega, by have := h.len; have := h.n; omega, by rw [h.pl]; exact h.ok⟩
theorem Th.mea {p : Pln} {s : SS} (h : Th p s) : Sg.mea s ≤ 2 * p.2.2.1.length := by have := h.len; unfold Sg.mea; omega
theorem Th.start {p : Pln} (hb : begins p = true) (ok : okPlan p = true) : Th p ⟨1, 1, p, [], []⟩ := by
  have h := Mi.start hb ok
  exact ⟨rfl, .inl rfl, rfl, h.cl, h.n, ok⟩
theorem Th.of {p : Pln} {s s' : SS} {r : RR} (h : Th p s) (ht : take s r = (s', 0)) (h1 : s'.pl = s.pl) (h2 : s'.ph = 1 ∨ s'.ph = 2 ∨ s'.ph = 3) (h3 : s'.num = s.num) : Th p s' :=
  ⟨h1.trans h.pl, h2, h3.trans h.num, by have := h.cl.take (r := r) (by rw [ht]); rwa [ht] at this, h.n, h.ok⟩
theorem Th.abort {p : Pln} {s : SS} (h : Th p s) (hp : s.ph = 1) : ∃ s', take s ⟨5, 0, pl0⟩ = (s', 0) ∧ Th p s' ∧ Sg.mea s' = Sg.mea s := by
  have e := take_abort hp
  exact ⟨_, e, h.of e rfl (.inr (.inl rfl)) rfl, rfl⟩
theorem Th.mark {p : Pln} {s : SS} (h : Th p s) (hm : marks s = true) : ∃ s', take s ⟨7, 0, pl0⟩ = (s', 0) ∧ Th p s' ∧ Sg.mea s' = Sg.mea s ∧ s'.ph = 3 := by
  have e := take_mark hm
  exact ⟨_, e, h.of e rfl (.inr (.inr rfl)) rfl, rfl, rfl⟩
/-- A record that may be taken. -/
def okR (s : SS) (q : Int × Int) : Prop := (q.1 = 2 ∧ may s q.2 = true) ∨ (q.1 = 3 ∧ q.2 ∈ s.op ∧ s.ph ≠ 2)
theorem without_one {x : Int} : ∀ {l : List Int}, l.Nodup → x ∈ l → (without x l).length + 1 = l.length
  | [], _, h => by cases h
  | y :: l, hn, h => by
    rw [List.nodup_cons] at hn
    by_cases c : y = x
    · subst c
      have := without_not hn.1
      unfold without at this ⊢
      rw [List.filter_cons_of_neg (by simp), this]
      rfl
    · have hx : x ∈ l := by
        rcases List.mem_cons.1 h with e | e
        · exact absurd e.symm c
        · exact e
      have ih := without_one hn.2 hx
      unfold without at ih ⊢
      rw [List.filter_cons_of_pos (by simp [c]), List.length_cons, List.length_cons, ih]
theorem Th.pick {p : Pln} {s : SS} {q : Int × Int} (h : Th p s) (hq : okR s q) : ∃ s', take s ⟨q.1, q.2, pl0⟩ = (s', 0) ∧ Th p s' ∧ Sg.mea s' = Sg.mea s + 1 := by
  obtain ⟨k, x⟩ := q
  rcases hq with ⟨h1, h2⟩ | ⟨h1, h2, h3⟩
  · dsimp only at h1 h2 ⊢
    subst h1
    have hp : s.ph = 1 ∨ s.ph = 3 := by
      have hm := h2
      unfold may at hm
      simp only [Bool.and_eq_true] at hm
      have := hm.1.2
      split at this
      · exact .inr (by simpa using this)
      · exact .inl (by simpa using this)
    have e := take_intent hp h2
    refine ⟨_, e, h.of e rfl h.ph rfl, ?_⟩
    unfold Sg.mea
    dsimp only
    rw [List.length_append, List.length_singleton]
    omega
  · dsimp only at h1 h2 ⊢
    subst h1
    have hp : s.ph = 1 ∨ s.ph = 3 := by
      rcases h.ph with hp | hp | hp
      · exact .inl hp
      · exact absurd hp h3
      · exact .inr hp
    have e := take_done hp h2
    refine ⟨_, e, h.of e rfl h.ph rfl, ?_⟩
    have hl := without_one (List.nodup_append.1 h.cl.nd).2.1 h2
    unfold Sg.mea
    dsimp only
    rw [List.length_append, List.length_singleton]
    omega
theorem last_mem {l : List Int} (h : l ≠ []) : l.getLastD 0 ∈ l := by
  rcases List.eq_nil_or_concat l with e | ⟨d, x, e⟩
  · exact absurd e h
  · rw [List.concat_eq_append] at e
    rw [e]
    simp
theorem Th.undo {p : Pln} {s : SS} (h : Th p s) (hp : s.ph = 2) (hl : 0 < s.op.length + s.dn.length) : ∃ x s', top s = (x, true) ∧ take s ⟨6, x, pl0⟩ = (s', 0) ∧ Th p s' ∧ s'.ph = 2 ∧ s'.op.length + s'.dn.length < s.op.length + s.dn.length := by
  obtain ⟨nd1, nd2, nd3⟩ := List.nodup_append.1 h.cl.nd
  by_cases ho : s.op = []
  · have hd : s.dn ≠ [] := fun e => by rw [ho, e] at hl; simp at hl
    have ht : top s = (s.dn.getLastD 0, true) := by unfold top; rw [if_pos hp, if_neg (by simp [ho]), if_pos hd]
    have e := take_undone hp ht
    refine ⟨_, _, ht, e, h.of e rfl (.inr (.inl hp)) rfl, hp, ?_⟩
    dsimp only
    have h1 := without_one nd1 (last_mem hd)
    have h2 := without_le (s.dn.getLastD 0) s.op
    omega
  · have ht : top s = (s.op.getLastD 0, true) := by unfold top; rw [if_pos hp, if_pos ho]
    have e := take_undone hp ht
    refine ⟨_, _, ht, e, h.of e rfl (.inr (.inl hp)) rfl, hp, ?_⟩
    dsimp only
    have h1 := without_one nd2 (last_mem ho)
    have h2 := without_le (s.op.getLastD 0) s.dn
    omega
theorem Th.fin {p : Pln} {s : SS} (h : Th p s) (he : ends s = true) : ∃ s', take s ⟨8, 0, pl0⟩ = (s', 0) ∧ s'.ph = (if s.ph = 3 then 4 else 5) ∧ (s.ph = 3 ∨ s.ph = 2) := by
  have hp : s.ph = 3 ∨ s.ph = 2 := by
    rcases h.ph with hp | hp | hp
    · unfold ends at he
      rw [if_neg (by omega), if_neg (by omega)] at he
      cases he
    · exact .inr hp
    · exact .inl hp
  refine ⟨_, take_end hp he, ?_, hp⟩
  dsimp only
  rcases hp with hp | hp
  · rw [if_pos hp, if_pos hp]
  · rw [if_neg (by omega), if_pos hp, if_neg (by omega)]
theorem Th.ends {p : Pln} {s : SS} (h : Th p s) (h1 : s.ph ≠ 1) (h2 : s.ph = 2 → s.op.length + s.dn.length = 0) (h3 : s.ph = 3 → ¬ s.dn.length < p.2.2.1.length) : Sg.ends s = true := by
  unfold Sg.ends
  rcases h.ph with hp | hp | hp
  · exact absurd hp h1
  · rw [if_neg (by omega), if_pos hp]; exact decide_eq_true (h2 hp)
  · rw [if_pos hp]
    refine decide_eq_true ?_
    have := h3 hp
    have := h.len
    rw [h.pl]
    omega
theorem Th.not_ends {p : Pln} {s : SS} (h : Th p s) (hp : s.ph = 3) (h3 : s.dn.length < p.2.2.1.length) : Sg.ends s = false := by
  unfold Sg.ends
  rw [if_pos hp, h.pl]
  exact decide_eq_false (by omega)
/-! Records without a plan, in memory. -/
def rcs (q : Int × Int) : List Value := [.int .i64 q.1, .int .i64 q.2, .slice none 0 0, .slice none 0 0, .slice none 0 0, .slice none 0 0]
def kRc : Kd (Int × Int) where
  sz := 6
  E := []
  K := fun _ x cs => cs = rcs x
  M := fun _ _ _ x cs => cs = rcs x
  K_len := fun h => by rw [h]; rfl
  K_one := fun h u hu => by
    rw [h] at hu
    unfold rcs at hu
    rcases List.mem_cons.1 hu with e | hu
    · rw [e]; rfl
    rcases List.mem_cons.1 hu with e | hu
    · rw [e]; rfl
    rcases List.mem_cons.1 hu with e | hu
    · rw [e]; rfl
    rcases List.mem_cons.1 hu with e | hu
    · rw [e]; rfl
    rcases List.mem_cons.1 hu with e | hu
    · rw [e]; rfl
    rcases List.mem_cons.1 hu with e | hu
    · rw [e]; rfl
    · cases hu
  K_below := fun _ h => h
  K_of_M := fun h => h
  M_mono := fun _ h => h
  M_bound := fun h => h
  M_move := fun _ h => h
  M_lower := fun _ h => h
theorem info_rec : (Tryd.prog.info? 39).map (fun i => (i.zero, i.size, i.bytes)) = some (some (.agg #[.int .i64 0, .int .i64 0, .slice none 0 0, .slice none 0 0, .slice none 0 0, .slice none 0 0]), 6, 112) := by kernel_rfl
theorem rc_at {w : World} {A : Option Addr} {n : Nat} {l : List (Int × Int)} (h : Kd.C kRc w A n l) (i : Nat) (h1 : i < n) : ∃ ad, A = some ad ∧ w.cell? (ad.add (i * 6)) = some (.int .i64 (l.getD i (0, 0)).1) ∧ w.cell? ⟨(ad.add (i * 6)).block, (ad.add (i * 6)).off + 1, none⟩ = some (.int .i64 (l.getD i (0, 0)).2) ∧
    w.cell? ⟨(ad.add (i * 6)).block, (ad.add (i * 6)).off + 2, none⟩ = some (.slice none 0 0) ∧ w.cell? ⟨(ad.add (i * 6)).block, (ad.add (i * 6)).off + 3, none⟩ = some (.slice none 0 0) ∧ w.cell? ⟨(ad.add (i * 6)).block, (ad.add (i * 6)).off + 4, none⟩ = some (.slice none 0 0) ∧ w.cell? ⟨(ad.add (i * 6)).block, (ad.add (i * 6)).off + 5, none⟩ = some (.slice none 0 0) := by
  obtain ⟨ad, cs, ea, hcl, hK, hcc⟩ := Kd.C_get h (0, 0) (i : Int) (by omega) (by omega)
  rw [Int.toNat_natCast] at hK hcc
  have hk : cs = rcs (l.getD i (0, 0)) := hK
  subst hk
  have hadd : ∀ j, ad.add (i * 6 + j) = (ad.add (i * 6)).add j := fun j => (Addr.add_add _ _ _).symm
  have q0 := hcc 0 _ rfl
  have q1 := hcc 1 _ rfl
  have q2 := hcc 2 _ rfl
  have q3 := hcc 3 _ rfl
  have q4 := hcc 4 _ rfl
  have q5 := hcc 5 _ rfl
  change w.cell? (ad.add (i * 6 + 1)) = _ at q1
  change w.cell? (ad.add (i * 6 + 2)) = _ at q2
  change w.cell? (ad.add (i * 6 + 3)) = _ at q3
  change w.cell? (ad.add (i * 6 + 4)) = _ at q4
  change w.cell? (ad.add (i * 6 + 5)) = _ at q5
  rw [hadd] at q1 q2 q3 q4 q5
  exact ⟨ad, ea, q0, q1, q2, q3, q4, q5⟩
theorem okR_snoc {s : SS} {ks : List (Int × Int)} {q : Int × Int} (h : ∀ x ∈ ks, okR s x) (hq : okR s q) : ∀ x ∈ ks ++ [q], okR s x := fun x hx => by
  rcases List.mem_append.1 hx with hx | hx
  · exact h x hx
  · rw [List.mem_singleton] at hx; rw [hx]; exact hq
theorem snoc_len {α : Type} (l : List α) (x : α) : (l ++ [x]).length = l.length + 1 := by simp
end Go.Proofs.YtplhihakeodadaaDoor.Sg
