/- Files are apart, in plain lists. -/
import Derived.Test.YtoimpjmoikjibaaDkO
import Derived.Test.YtoimpjmoikjibaaRead5
namespace Go.Proofs.Ytoimpjmoikjibaa.Dk
open Go Go.RowKit Go.Proofs.Ytoimpjmoikjibaa.IMap Go.Proofs.YtoimpjmoikjibaaW.PrintWords
set_option linter.unusedVariables false
set_option linter.unusedSimpArgs false
theorem stepS_MM (s : DS) : (stepS s).M = s.M := by unfold stepS; split <;> try rfl
                                                    split <;> rfl
theorem app_get (s : DS) (k : Int) (b : List Int) (j : Int) (h : Asc s.M) (hk : k ≠ j) : get (app s k b).2.M j = get s.M j := by
  unfold app
  split
  · rfl
  · split
    · rfl
    · split
      · rfl
      · dsimp only
        rw [stepS_MM]
        dsimp only
        rw [get_ins h, if_neg (fun e => hk e.symm)]
theorem syn_get (s : DS) (k : Int) (j : Int) (h : Asc s.M) (hk : k ≠ j) : get (syn s k).2.M j = get s.M j := by
  unfold syn
  split
  · rfl
  · split
    · rw [stepS_MM]
    · dsimp only
      rw [get_ins h, if_neg (fun e => hk e.symm)]
theorem rmv_get (s : DS) (k : Int) (j : Int) (h : Asc s.M) (hk : k ≠ j) : get (rmv s k).2.M j = get s.M j := by
  unfold rmv
  split
  · rfl
  · split
    · rw [stepS_MM]
    · dsimp only
      rw [get_rem, if_neg (fun e => hk e.symm)]
theorem cut_get (s : DS) (k n : Int) (j : Int) (h : Asc s.M) (hk : k ≠ j) : get (cut s k n).2.M j = get s.M j := by
  unfold cut
  split
  · rfl
  · split
    · rfl
    · split
      · rw [stepS_MM]
      · dsimp only
        rw [get_ins h, if_neg (fun e => hk e.symm)]
theorem crashF_get (j : Int) (b : List Int) : ∀ (M : Fls) (keep : List Int), get M j = some (b, b.length) → get (crashF M keep) j = some (b, b.length) := by
  intro M
  induction M with
  | nil => intro keep h; rw [get_nil] at h; cases h
  | cons p r ih =>
    intro keep h
    rw [get_cons] at h
    unfold crashF
    by_cases c : p.1 = j
    · rw [if_pos c] at h
      have h := Option.some.inj h
      rw [h, if_neg (by simp), get_cons, if_pos c]
    · rw [if_neg c] at h
      split
      · rw [get_cons, if_neg c]; exact ih _ h
      · rw [get_cons, if_neg c]; exact ih _ h
theorem bytes_get (s : DS) (j : Int) (b : List Int) (h : get s.M j = some (b, b.length)) (hd : s.down = false) : findE s j = 0 ∧ bytesOf s j = b ∧ safeOf s j = b.length := by
  have e : findE s j = 0 := by unfold findE; rw [if_neg (by rw [hd]; exact Bool.false_ne_true), h]; rfl
  refine ⟨e, ?_, ?_⟩
  · unfold bytesOf; rw [e, if_pos rfl, h]; rfl
  · unfold safeOf; rw [h]; rfl
/-- A dock whose file 500 is safe. -/
def Keeps500 (w0 w : World) (g : Nat) (b : List Int) : Prop := ∃ s, LW w0 w g s ∧ get s.M 500 = some (b, b.length)
abbrev kOp : Kd (Int × Int × Int × List Int × List Int) := Kd.pair (Kd.int .i64) (Kd.pair (Kd.int .i64) (Kd.pair (Kd.int .i64) (Kd.pair (Kd.slice 5 (Kd.int .u8)) (Kd.slice 3 (Kd.int .i64)))))
theorem elem_Op {w : World} {A : Option Addr} {l : List (Int × Int × Int × List Int × List Int)} (h : Kd.C kOp w A l.length l) (i : Nat) (k nm n : Int) (da ke : List Int) (hx : l[i]? = some (k, nm, n, da, ke)) :
    ∃ ad Ad cd Ak ck, A = some ad ∧ (∀ w1, Below w.heap.size w w1 → w1.cell? (ad.add (i * 5)) = some (.int .i64 k) ∧ w1.cell? ⟨(ad.add (i * 5)).block, (ad.add (i * 5)).off + 1, none⟩ = some (.int .i64 nm) ∧ w1.cell? ⟨(ad.add (i * 5)).block, (ad.add (i * 5)).off + 2, none⟩ = some (.int .i64 n) ∧ w1.cell? ⟨(ad.add (i * 5)).block, (ad.add (i * 5)).off + 3, none⟩ = some (.slice Ad da.length cd) ∧ w1.cell? ⟨(ad.add (i * 5)).block, (ad.add (i * 5)).off + 4, none⟩ = some (.slice Ak ke.length ck)) ∧ Kd.C (Kd.int .u8) w Ad da.length da ∧ da.length ≤ cd ∧ Kd.C (Kd.int .i64) w Ak ke.length ke ∧ ke.length ≤ ck := by
  obtain ⟨ad, e, hc⟩ := h.2.2 (by cases l with | nil => simp at hx | cons y r => simp)
  obtain ⟨cs, h1, h2, h3⟩ := hc i _ hx
  obtain ⟨y0, z0, rfl, k0, y1, z1, rfl, k1, y2, z2, rfl, k2, y3, z3, rfl, ⟨Ad, cd, rfl, hcd, hd⟩, ⟨Ak, ck, rfl, hck, hk⟩⟩ := h2
  have k0' : y0 = [Value.int .i64 k] := k0
  have k1' : y1 = [Value.int .i64 nm] := k1
  have k2' : y2 = [Value.int .i64 n] := k2
  subst k0' k1' k2'
  have q : ∀ (j : Nat) (v : Value), w.cell? (ad.add (i * 5 + (j + 1))) = some v → w.cell? ⟨(ad.add (i * 5)).block, (ad.add (i * 5)).off + (j + 1), none⟩ = some v := fun j v hv => by
    rw [show ad.add (i * 5 + (j + 1)) = (ad.add (i * 5)).add (j + 1) from (Addr.add_add _ _ _).symm] at hv
    exact hv
  have f0 : w.cell? (ad.add (i * 5)) = some (.int .i64 k) := h3 0 _ rfl
  have f1 := q 0 _ (h3 1 _ rfl)
  have f2 := q 1 _ (h3 2 _ rfl)
  have f3 := q 2 _ (h3 3 _ rfl)
  have f4 := q 3 _ (h3 4 _ rfl)
  exact ⟨ad, Ad, cd, Ak, ck, e, fun w1 hb => ⟨pw_cell_below hb f0, pw_cell_below hb f1, pw_cell_below hb f2, pw_cell_below hb f3, pw_cell_below hb f4⟩, hd, hcd, hk, hck⟩
section
variable {w0 w : World} {g : Nat} {b : List Int}
theorem Keeps500.below {w1 : World} (h : Keeps500 w0 w g b) (hb : Below w.heap.size w w1) : Keeps500 w0 w1 g b := by
  obtain ⟨s, hs, hg⟩ := h
  exact ⟨s, hs.below hb, hg⟩
theorem Keeps500.from (h : Keeps500 w0 w g b) : Below w0.heap.size w0 w := by
  obtain ⟨s, hs, hg⟩ := h
  exact hs.from
theorem K5_app (h : Keeps500 w0 w g b) (k : Int) (hk : k ≠ 500) (A : Option Addr) (c : Nat) (d : List Int) (hr : Kd.C (Kd.int .u8) w A d.length d) (hl : d.length ≤ 100000000000) : Calls Try.prog 16 #[.pointer (some ⟨g, 0, none⟩), .int .i64 k, .slice A d.length c] w fun e w' => (∃ r, e = .returned (.int .i64 r)) ∧ Keeps500 w0 w' g b := by
  obtain ⟨s, hs, hg⟩ := h
  exact (Append_L hs k A c d hr hl).mono fun e w' ⟨he, hl⟩ => ⟨⟨_, he⟩, _, hl, (app_get _ _ _ _ hs.ok.asc hk).trans hg⟩
theorem K5_syn (h : Keeps500 w0 w g b) (k : Int) (hk : k ≠ 500) : Calls Try.prog 17 #[.pointer (some ⟨g, 0, none⟩), .int .i64 k] w fun e w' => (∃ r, e = .returned (.int .i64 r)) ∧ Keeps500 w0 w' g b := by
  obtain ⟨s, hs, hg⟩ := h
  exact (Sync_L hs k).mono fun e w' ⟨he, hl⟩ => ⟨⟨_, he⟩, _, hl, (syn_get _ _ _ hs.ok.asc hk).trans hg⟩
theorem K5_rmv (h : Keeps500 w0 w g b) (k : Int) (hk : k ≠ 500) : Calls Try.prog 25 #[.pointer (some ⟨g, 0, none⟩), .int .i64 k] w fun e w' => (∃ r, e = .returned (.int .i64 r)) ∧ Keeps500 w0 w' g b := by
  obtain ⟨s, hs, hg⟩ := h
  exact (Remove_L hs k).mono fun e w' ⟨he, hl⟩ => ⟨⟨_, he⟩, _, hl, (rmv_get _ _ _ hs.ok.asc hk).trans hg⟩
theorem K5_cut (h : Keeps500 w0 w g b) (k n : Int) (hk : k ≠ 500) : Calls Try.prog 27 #[.pointer (some ⟨g, 0, none⟩), .int .i64 k, .int .i64 n] w fun e w' => (∃ r, e = .returned (.int .i64 r)) ∧ Keeps500 w0 w' g b := by
  obtain ⟨s, hs, hg⟩ := h
  exact (Cut_L hs k n).mono fun e w' ⟨he, hl⟩ => ⟨⟨_, he⟩, _, hl, (cut_get _ _ _ _ hs.ok.asc hk).trans hg⟩
theorem K5_arm (h : Keeps500 w0 w g b) (n : Int) (hn : n < 9223372036854775808) : Calls Try.prog 22 #[.pointer (some ⟨g, 0, none⟩), .int .i64 n] w fun e w' => e = .returned (.tuple #[]) ∧ Keeps500 w0 w' g b := by
  obtain ⟨s, hs, hg⟩ := h
  exact (Arm_L hs n hn).mono fun e w' ⟨he, hl⟩ => ⟨he, _, hl, hg⟩
theorem K5_crash (h : Keeps500 w0 w g b) (A : Option Addr) (c : Nat) (keep : List Int) (hr : Kd.C (Kd.int .i64) w0 A keep.length keep) (hl : keep.length ≤ 1000000000000) : Calls Try.prog 18 #[.pointer (some ⟨g, 0, none⟩), .slice A keep.length c] w fun e w' => e = .returned (.tuple #[]) ∧ ∃ s, LW w0 w' g s ∧ get s.M 500 = some (b, b.length) ∧ s.down = false := by
  obtain ⟨s, hs, hg⟩ := h
  exact (Crash_L hs A c keep hr hl).mono fun e w' ⟨he, hl⟩ => ⟨he, _, hl, crashF_get 500 b _ _ hg, rfl⟩
end
end Go.Proofs.Ytoimpjmoikjibaa.Dk
