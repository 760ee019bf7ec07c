/- A dock in a law: what it may reach lies behind the law's beginning. -/
import Derived.Test.YtoimpjmoikjibaaDkC3
import Derived.Test.YtoimpjmoikjibaaDkC6
namespace Go.Proofs.Ytoimpjmoikjibaa.Dk
open Go Go.RowKit Go.ChangeMaps Go.Proofs.Ytoimpjmoikjibaa.IMap Go.Proofs.YtoimpjmoikjibaaW.PrintWords Go.Proofs.YtoimpjmoikjibaaW.PrintLast Go.Proofs.YtoimpjmoikjibaaW.PrintMore
set_option linter.unusedVariables false
set_option linter.unusedSimpArgs false
theorem lit_C (W : World) (k : IntKind) (e : TypeId) (xs : List Int) (h : xs.length ≤ 9223372036854775807) : Kd.C (Kd.int k) (W.alloc (.cells (xs.map (Value.int k)).toArray e)) (some ⟨W.heap.size, 0, none⟩) xs.length xs := by
  have h2 := World.ownsRow_lit (base := 0) (e := e) (size := 1) W (xs.map (Value.int k)).toArray xs.length (Nat.zero_le _) (by simpa [maxLen] using h) (by simp)
  have hR : Kd.R (Kd.int k) e (W.alloc (.cells (xs.map (Value.int k)).toArray e)) 0 (fun _ => True) (.slice (some ⟨W.heap.size, 0, none⟩) xs.length xs.length) xs := Kd.R_of_own (h1 := fun _ => rfl) (by simpa [encs] using h2) (fun _ _ => trivial)
  exact (Kd.R_reads' hR).2.2
/-- A dock at work in a call that began in the world w0. -/
def LW (w0 w : World) (g : Nat) (s : DS) : Prop := ∃ S, Dk w g S s ∧ (∀ k, S k → w0.heap.size ≤ k ∧ k < w.heap.size) ∧ Below w0.heap.size w0 w
theorem LW.below {w0 w w1 : World} {g : Nat} {s : DS} (h : LW w0 w g s) (hb : Below w.heap.size w w1) : LW w0 w1 g s := by
  obtain ⟨S, h1, h2, h3⟩ := h
  exact ⟨S, h1.below hb, fun k hk => ⟨(h2 k hk).1, by have := (h2 k hk).2; have := hb.size; omega⟩, below_step h3 hb⟩
theorem LW.from {w0 w : World} {g : Nat} {s : DS} (h : LW w0 w g s) : Below w0.heap.size w0 w := by
  obtain ⟨S, _, _, h3⟩ := h
  exact h3
theorem LW.ok {w0 w : World} {g : Nat} {s : DS} (h : LW w0 w g s) : OK s := by
  obtain ⟨S, h1, _, _⟩ := h
  exact h1.ok
theorem LW.turn {w0 w w1 : World} {g : Nat} {s1 : DS} {S : Nat → Prop} (h2 : ∀ k, S k → w0.heap.size ≤ k ∧ k < w.heap.size) (h3 : Below w0.heap.size w0 w) (hd : Dk w1 g (Fr S w w1) s1) (hc : Chg S w w1) : LW w0 w1 g s1 :=
  ⟨_, hd, fun k hk => by
    have := hc.1.size
    rcases hk with hk | hk
    · exact ⟨(h2 k hk).1, by have := (h2 k hk).2; omega⟩
    · exact ⟨by have := h3.size; omega, hk.2⟩, hc.below h3 h3.size (fun k hk => (h2 k hk).1)⟩
def Did (w0 : World) (g : Nat) (r : Int × DS) (e : Ending) (w' : World) : Prop := e = .returned (.int .i64 r.1) ∧ LW w0 w' g r.2
section
variable {w0 w : World} {g : Nat} {s : DS}
theorem New_L (c : Int) (w : World) (h0 : 0 ≤ c) (h1 : c ≤ 16777216) (hb : Below w0.heap.size w0 w) : Calls Try.prog 15 #[.int .i64 c] w fun e w' => ∃ g, e = .returned (.pointer (some ⟨g, 0, none⟩)) ∧ LW w0 w' g (new c) :=
  (New_T c w h0 h1).mono fun e w' ⟨g, he, hd, hbl⟩ => ⟨g, he, _, hd, fun k hk => by
    rcases hk with hk | hk
    · exact hk.elim
    · exact ⟨by have := hb.size; omega, hk.2⟩, below_step hb hbl⟩
theorem Append_L (h : LW w0 w g s) (k : Int) (A : Option Addr) (c : Nat) (b : List Int) (hr : Kd.C (Kd.int .u8) w A b.length b) (hbl : b.length ≤ 100000000000) : Calls Try.prog 16 #[.pointer (some ⟨g, 0, none⟩), .int .i64 k, .slice A b.length c] w (Did w0 g (app s k b)) := by
  obtain ⟨S, h1, h2, h3⟩ := h
  exact (Append_T w g S s k A c b h1 hr hbl).mono fun e w' ⟨he, hd, hc⟩ => ⟨he, LW.turn h2 h3 hd hc⟩
theorem Sync_L (h : LW w0 w g s) (k : Int) : Calls Try.prog 17 #[.pointer (some ⟨g, 0, none⟩), .int .i64 k] w (Did w0 g (syn s k)) := by
  obtain ⟨S, h1, h2, h3⟩ := h
  exact (Sync_T w g S s k h1).mono fun e w' ⟨he, hd, hc⟩ => ⟨he, LW.turn h2 h3 hd hc⟩
theorem Remove_L (h : LW w0 w g s) (k : Int) : Calls Try.prog 25 #[.pointer (some ⟨g, 0, none⟩), .int .i64 k] w (Did w0 g (rmv s k)) := by
  obtain ⟨S, h1, h2, h3⟩ := h
  exact (Remove_T w g S s k h1).mono fun e w' ⟨he, hd, hc⟩ => ⟨he, LW.turn h2 h3 hd hc⟩
theorem Cut_L (h : LW w0 w g s) (k n : Int) : Calls Try.prog 27 #[.pointer (some ⟨g, 0, none⟩), .int .i64 k, .int .i64 n] w (Did w0 g (cut s k n)) := by
  obtain ⟨S, h1, h2, h3⟩ := h
  exact (Cut_T w g S s k n h1).mono fun e w' ⟨he, hd, hc⟩ => ⟨he, LW.turn h2 h3 hd hc⟩
theorem Crash_L (h : LW w0 w g s) (A : Option Addr) (c : Nat) (keep : List Int) (hr : Kd.C (Kd.int .i64) w0 A keep.length keep) (hkl : keep.length ≤ 1000000000000) : Calls Try.prog 18 #[.pointer (some ⟨g, 0, none⟩), .slice A keep.length c] w fun e w' => e = .returned (.tuple #[]) ∧ LW w0 w' g (crash s keep) := by
  obtain ⟨S, h1, h2, h3⟩ := h
  refine (Crash_T w g S s A c keep h1 (Kd.C_below hr h3) (fun ad e hne => ?_) hkl).mono fun e w' ⟨he, hd, hc⟩ => ⟨he, LW.turn h2 h3 hd hc⟩
  have hlt : ad.block < w0.heap.size := by
    obtain ⟨ad', e', hc⟩ := hr.2.2 (by cases keep with | nil => exact absurd rfl hne | cons x l => simp)
    rw [e] at e'
    cases e'
    obtain ⟨cs, h1, h2, h3⟩ := hc 0 _ (List.getElem?_eq_getElem (by cases keep with | nil => exact absurd rfl hne | cons x l => simp))
    have h2' : cs = [Value.int .i64 _] := h2
    subst h2'
    have h4 := h3 0 _ rfl
    have h5 := World.block_lt_of_cell? w0 _ h4
    have e : (ad.add (0 * (Kd.int IntKind.i64).sz + 0)).block = ad.block := by unfold Addr.add; split <;> rfl
    omega
  exact ⟨by have := h3.size; omega, fun hs => by have := (h2 _ hs).1; omega⟩
/-- A crash that keeps what a literal says. -/
theorem Crash_lit (h : LW w0 w g s) (c : Nat) (keep : List Int) (hkl : keep.length ≤ 1000000000000) :
    Calls Try.prog 18 #[.pointer (some ⟨g, 0, none⟩), .slice (some ⟨w.heap.size, 0, none⟩) keep.length c] (w.alloc (.cells (keep.map (Value.int .i64)).toArray 3)) fun e w' => e = .returned (.tuple #[]) ∧ LW w0 w' g (crash s keep) := by
  obtain ⟨S, h1, h2, h3⟩ := h
  have hbx := below_alloc (Below.refl w.heap.size w) (Obj.cells (keep.map (Value.int .i64)).toArray 3)
  have h2' : ∀ k, S k → w0.heap.size ≤ k ∧ k < (w.alloc (Obj.cells (keep.map (Value.int .i64)).toArray 3)).heap.size := fun k hk => ⟨(h2 k hk).1, by have := (h2 k hk).2; rw [World.size_alloc]; omega⟩
  exact (Crash_T _ g S s _ c keep (h1.below hbx) (lit_C w .i64 3 keep (by omega)) (fun ad e hne => by cases e; exact ⟨by rw [World.size_alloc]; show w.heap.size < _; omega, fun hs => by have := (h2 _ hs).2; dsimp only at this; omega⟩) hkl).mono fun e w' ⟨he, hd, hc⟩ => ⟨he, LW.turn h2' (below_step h3 hbx) hd hc⟩
theorem Read_L (h : LW w0 w g s) (k : Int) : Calls Try.prog 19 #[.pointer (some ⟨g, 0, none⟩), .int .i64 k] w fun e w' => ∃ v, e = .returned (.tuple #[v, .int .i64 (findE s k)]) ∧ Kd.R (Kd.int .u8) 5 w' w.heap.size (fun _ => True) v (bytesOf s k) ∧ LW w0 w' g s ∧ Below w.heap.size w w' := by
  have h' := h
  obtain ⟨S, h1, h2, h3⟩ := h'
  exact (Read_T w g S s k h1).mono fun e w' ⟨v, he, hr, hb⟩ => ⟨v, he, hr, h.below hb, hb⟩
theorem Names_L (h : LW w0 w g s) : Calls Try.prog 23 #[.pointer (some ⟨g, 0, none⟩)] w fun e w' => ∃ v, e = .returned (.tuple #[v, .int .i64 (if s.down = true then 51 else 0)]) ∧ Kd.R (Kd.int .i64) 3 w' w.heap.size (fun _ => True) v (if s.down = true then [] else keys s.M) ∧ LW w0 w' g s ∧ Below w.heap.size w w' := by
  have h' := h
  obtain ⟨S, h1, h2, h3⟩ := h'
  exact (Names_T w g S s h1).mono fun e w' ⟨v, he, hr, hb⟩ => ⟨v, he, hr, h.below hb, hb⟩
theorem Size_L (h : LW w0 w g s) : Calls Try.prog 26 #[.pointer (some ⟨g, 0, none⟩)] w fun e w' => e = .returned (.int .i64 (size s.M : Int)) ∧ LW w0 w' g s ∧ Below w.heap.size w w' := by
  have h' := h
  obtain ⟨S, h1, h2, h3⟩ := h'
  exact (Size_T w g S s h1).mono fun e w' ⟨he, hb⟩ => ⟨he, h.below hb, hb⟩
theorem Safe_L (h : LW w0 w g s) (k : Int) : Calls Try.prog 20 #[.pointer (some ⟨g, 0, none⟩), .int .i64 k] w fun e w' => e = .returned (.int .i64 (safeOf s k : Int)) ∧ w = w' := by
  obtain ⟨S, h1, h2, h3⟩ := h
  exact Safe_T w g S s k h1
theorem Down_L (h : LW w0 w g s) : Calls Try.prog 21 #[.pointer (some ⟨g, 0, none⟩)] w fun e w' => e = .returned (.bool s.down) ∧ w = w' := by
  obtain ⟨S, h1, h2, h3⟩ := h
  exact Down_T w g S s h1
theorem Arm_L (h : LW w0 w g s) (n : Int) (hn : n < 9223372036854775808) : Calls Try.prog 22 #[.pointer (some ⟨g, 0, none⟩), .int .i64 n] w fun e w' => e = .returned (.tuple #[]) ∧ LW w0 w' g (arm s n) := by
  obtain ⟨S, h1, h2, h3⟩ := h
  exact (Arm_T w g S s n h1 hn).mono fun e w' ⟨he, hd, ha⟩ => ⟨he, LW.turn h2 h3 (hd.mono Fr.of) (ha.chg h1.sg)⟩
theorem Grow_L (h : LW w0 w g s) (n : Int) : Calls Try.prog 53 #[.pointer (some ⟨g, 0, none⟩), .int .i64 n] w fun e w' => e = .returned (.tuple #[]) ∧ LW w0 w' g (grow s n) := by
  obtain ⟨S, h1, h2, h3⟩ := h
  exact (Grow_T w g S s n h1).mono fun e w' ⟨he, hd, ha⟩ => ⟨he, LW.turn h2 h3 (hd.mono Fr.of) (ha.chg h1.sg)⟩
end
end Go.Proofs.Ytoimpjmoikjibaa.Dk
