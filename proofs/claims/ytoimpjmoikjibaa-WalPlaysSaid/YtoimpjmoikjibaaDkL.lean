/- A dock in a law: what it may reach lies behind the law's beginning. -/
import Derived.Test.YtoimpjmoikjibaaDkC2
import Derived.Test.YtoimpjmoikjibaaDkC4
import Derived.Lib.SlBytesConst
namespace Go.Proofs.Ytoimpjmoikjibaa.Dk
open Go Go.RowKit Go.ChangeMaps Go.Proofs.Ytoimpjmoikjibaa.IMap Go.Proofs.YtoimpjmoikjibaaW.PrintWords Go.Proofs.YtoimpjmoikjibaaW.PrintLast Go.Proofs.YtoimpjmoikjibaaW.PrintMore
set_option linter.unusedVariables false
set_option linter.unusedSimpArgs false
theorem lit_C (W : World) (k : IntKind) (e : TypeId) (xs : List Int) (h : xs.length ≤ 9223372036854775807) : Kd.C (Kd.int k) (W.alloc (.cells (xs.map (Value.int k)).toArray e)) (some ⟨W.heap.size, 0, none⟩) xs.length xs := by
  have h2 := World.ownsRow_lit (base := 0) (e := e) (size := 1) W (xs.map (Value.int k)).toArray xs.length (Nat.zero_le _) (by simpa [maxLen] using h) (by simp)
  have hR : Kd.R (Kd.int k) e (W.alloc (.cells (xs.map (Value.int k)).toArray e)) 0 (fun _ => True) (.slice (some ⟨W.heap.size, 0, none⟩) xs.length xs.length) xs := Kd.R_of_own (h1 := fun _ => rfl) (by simpa [encs] using h2) (fun _ _ => trivial)
  exact (Kd.R_reads' hR).2.2
/-- A dock at work in a call that began in the world w0. -/
def LW (w0 w : World) (g : Nat) (s : DS) : Prop := ∃ S, Dk w g S s ∧ (∀ k, S k → w0.heap.size ≤ k ∧ k < w.heap.size) ∧ Below w0.heap.size w0 w
theorem LW.below {w0 w w1 : World} {g : Nat} {s : DS} (h : LW w0 w g s) (hb : Below w.heap.size w w1) : LW w0 w1 g s := by
  obtain ⟨S, h1, h2, h3⟩ := h
  exact ⟨S, h1.below hb, fun k hk => ⟨(h2 k hk).1, by have := (h2 k hk).2; have := hb.size; omega⟩, below_step h3 hb⟩
theorem LW.from {w0 w : World} {g : Nat} {s : DS} (h : LW w0 w g s) : Below w0.heap.size w0 w := by
  obtain ⟨S, _, _, h3⟩ := h
  exact h3
theorem LW.ok {w0 w : World} {g : Nat} {s : DS} (h : LW w0 w g s) : OK s := by
  obtain ⟨S, h1, _, _⟩ := h
  exact h1.ok
theorem LW.turn {w0 w w1 : World} {g : Nat} {s1 : DS} {S : Nat → Prop} (h2 : ∀ k, S k → w0.heap.size ≤ k ∧ k < w.heap.size) (h3 : Below w0.heap.size w0 w) (hd : Dk w1 g (Fr S w w1) s1) (hc : Chg S w w1) : LW w0 w1 g s1 :=
  ⟨_, hd, fun k hk => by
    have := hc.1.size
    rcases hk with hk | hk
    · exact ⟨(h2 k hk).1, by have := (h2 k hk).2; omega⟩
    · exact ⟨by have := h3.size; omega, hk.2⟩, hc.below h3 h3.size (fun k hk => (h2 k hk).1)⟩
def Did (w0 : World) (g : Nat) (r : Int × DS) (e : Ending) (w' : World) : Prop := e = .returned (.int .i64 r.1) ∧ LW w0 w' g r.2
section
variable {w0 w : World} {g : Nat} {s : DS}
theorem New_L (c : Int) (w : World) (h0 : 0 ≤ c) (h1 : c ≤ 16777216) (hb : Below w0.heap.size w0 w) : Calls Try.prog 15 #[.int .i64 c] w fun e w' => ∃ g, e = .returned (.pointer (some ⟨g, 0, none⟩)) ∧ LW w0 w' g (new c) :=
  (New_T c w h0 h1).mono fun e w' ⟨g, he, hd, hbl⟩ => ⟨g, he, _, hd, fun k hk => by
    rcases hk with hk | hk
    · exact hk.elim
    · exact ⟨by have := hb.size; omega, hk.2⟩, below_step hb hbl⟩
theorem Append_L (h : LW w0 w g s) (k : Int) (A : Option Addr) (c : Nat) (b : List Int) (hr : Kd.C (Kd.int .u8) w A b.length b) (hbl : b.length ≤ 100000000000) : Calls Try.prog 16 #[.pointer (some ⟨g, 0, none⟩), .int .i64 k, .slice A b.length c] w (Did w0 g (app s k b)) := by
  obtain ⟨S, h1, h2, h3⟩ := h
  exact (Append_T w g S s k A c b h1 hr hbl).mono fun e w' ⟨he, hd, hc⟩ => ⟨he, LW.turn h2 h3 hd hc⟩
theorem Sync_L (h : LW w0 w g s) (k : Int) : Calls Try.prog 17 #[.pointer (some ⟨g, 0, none⟩), .int .i64 k] w (Did w0 g (syn s k)) := by
  obtain ⟨S, h1, h2, h3⟩ := h
  exact (Sync_T w g S s k h1).mono fun e w' ⟨he, hd, hc⟩ => ⟨he, LW.turn h2 h3 hd hc⟩
theorem Remove_L (h : LW w0 w g s) (k : Int) : Calls Try.prog 25 #[.pointer (some ⟨g, 0, none⟩), .int .i64 k] w (Did w0 g (rmv s k)) := by
  obtain ⟨S, h1, h2, h3⟩ := h
  exact (Remove_T w g S s k h1).mono fun e w' ⟨he, hd, hc⟩ => ⟨he, LW.turn h2 h3 hd hc⟩
theorem Cut_L (h : LW w0 w g s) (k n : Int) : Calls Try.prog 27 #[.pointer (some ⟨g, 0, none⟩), .int .i64 k, .int .i64 n] w (Did w0 g (cut s k n)) := by
  obtain ⟨S, h1, h2, h3⟩ := h
  exact (Cut_T w g S s k n h1).mono fun e w' ⟨he, hd, hc⟩ => ⟨he, LW.turn h2 h3 hd hc⟩
theorem Crash_L (h : LW w0 w g s) (A : Option Addr) (c : Nat) (keep : List Int) (hr : Kd.C (Kd.int .i64) w0 A keep.length keep) (hkl : keep.length ≤ 1000000000000) : Calls Try.prog 18 #[.pointer (some ⟨g, 0, none⟩), .slice A keep.length c] w fun e w' => e = .returned (.tuple #[]) ∧ LW w0 w' g (crash s keep) := by
  obtain ⟨S, h1, h2, h3⟩ := h
  refine (Crash_T w g S s A c keep h1 (Kd.C_below hr h3) (fun ad e hne => ?_) hkl).mono fun e w' ⟨he, hd, hc⟩ => ⟨he, LW.turn h2 h3 hd hc⟩
  have hlt : ad.block < w0.heap.size := by
    obtain ⟨ad', e', hc⟩ := hr.2.2 (by cases keep with | nil => exact absurd rfl hne | cons x l => simp)
    rw [e] at e'
    cases e'
    obtain ⟨cs, h1, h2, h3⟩ := hc 0 _ (List.getElem?_eq_getElem (by cases keep with | nil => exact absurd rfl hne | cons x l => simp))
    have h2' : cs = [Value.int .i64 _] := h2
    subst h2'
    have h4 := h3 0 _ rfl
    have h5 := World.block_lt_of_cell? w0 _ h4
    have e : (ad.add (0 * (Kd.int IntKind.i64).sz + 0)).block = ad.block := by unfold Addr.add; split <;> rfl
    omega
  exact ⟨by have := h3.size; omega, fun hs => by have := (h2 _ hs).1; omega⟩
/-- A crash that keeps what a literal says. -/
theorem Crash_lit (h : LW w0 w g s) (c : Nat) (keep : List Int) (hkl : keep.length ≤ 1000000000000) :
    Calls Try.prog 18 #[.pointer (some ⟨g, 0, none⟩), .slice (some ⟨w.heap.size, 0, none⟩) keep.length c] (w.alloc (.cells (keep.map (Value.int .i64)).toArray 3)) fun e w' => e = .returned (.tuple #[]) ∧ LW w0 w' g (crash s keep) := by
  obtain ⟨S, h1, h2, h3⟩ := h
  have hbx := below_alloc (Below.refl w.heap.size w) (Obj.cells (keep.map (Value.int .i64)).toArray 3)
  have h2' : ∀ k, S k → w0.heap.size ≤ k ∧ k < (w.alloc (Obj.cells (keep.map (Value.int .i64)).toArray 3)).heap.size := fun k hk => ⟨(h2 k hk).1, by have := (h2 k hk).2; rw [World.size_alloc]; omega⟩
  exact (Crash_T _ g S s _ c keep (h1.below hbx) (lit_C w .i64 3 keep (by omega)) (fun ad e hne => by cases e; exact ⟨by rw [World.size_alloc]; show w.heap.size < _; omega, fun hs => by have := (h2 _ hs).2; dsimp only at this; omega⟩) hkl).mono fun e w' ⟨he, hd, hc⟩ => ⟨he, LW.turn h2' (below_step h3 hbx) hd hc⟩
theorem Read_L (h : LW w0 w g s) (k : Int) : Calls Try.prog 19 #[.pointer (some ⟨g, 0, none⟩), .int .i64 k] w fun e w' => ∃ v, e = .returned (.tuple #[v, .int .i64 (findE s k)]) ∧ Kd.R (Kd.int .u8) 5 w' w.heap.size (fun _ => True) v (bytesOf s k) ∧ LW w0 w' g s ∧ Below w.heap.size w w' := by
  have h' := h
  obtain ⟨S, h1, h2, h3⟩ := h'
  exact (Read_T w g S s k h1).mono fun e w' ⟨v, he, hr, hb⟩ => ⟨v, he, hr, h.below hb, hb⟩
theorem Names_L (h : LW w0 w g s) : Calls Try.prog 23 #[.pointer (some ⟨g, 0, none⟩)] w fun e w' => ∃ v, e = .returned (.tuple #[v, .int .i64 (if s.down = true then 51 else 0)]) ∧ Kd.R (Kd.int .i64) 3 w' w.heap.size (fun _ => True) v (if s.down = true then [] else keys s.M) ∧ LW w0 w' g s ∧ Below w.heap.size w w' := by
  have h' := h
  obtain ⟨S, h1, h2, h3⟩ := h'
  exact (Names_T w g S s h1).mono fun e w' ⟨v, he, hr, hb⟩ => ⟨v, he, hr, h.below hb, hb⟩
theorem Size_L (h : LW w0 w g s) : Calls Try.prog 26 #[.pointer (some ⟨g, 0, none⟩)] w fun e w' => e = .returned (.int .i64 (size s.M : Int)) ∧ LW w0 w' g s ∧ Below w.heap.size w w' := by
  have h' := h
  obtain ⟨S, h1, h2, h3⟩ := h'
  exact (Size_T w g S s h1).mono fun e w' ⟨he, hb⟩ => ⟨he, h.below hb, hb⟩
theorem Safe_L (h : LW w0 w g s) (k : Int) : Calls Try.prog 20 #[.pointer (some ⟨g, 0, none⟩), .int .i64 k] w fun e w' => e = .returned (.int .i64 (safeOf s k : Int)) ∧ w = w' := by
  obtain ⟨S, h1, h2, h3⟩ := h
  exact Safe_T w g S s k h1
theorem Down_L (h : LW w0 w g s) : Calls Try.prog 21 #[.pointer (some ⟨g, 0, none⟩)] w fun e w' => e = .returned (.bool s.down) ∧ w = w' := by
  obtain ⟨S, h1, h2, h3⟩ := h
  exact Down_T w g S s h1
theorem Arm_L (h : LW w0 w g s) (n : Int) (hn : n < 9223372036854775808) : Calls Try.prog 22 #[.pointer (some ⟨g, 0, none⟩), .int .i64 n] w fun e w' => e = .returned (.tuple #[]) ∧ LW w0 w' g (arm s n) := by
  obtain ⟨S, h1, h2, h3⟩ := h
  exact (Arm_T w g S s n h1 hn).mono fun e w' ⟨he, hd, ha⟩ => ⟨he, LW.turn h2 h3 (hd.mono Fr.of) (ha.chg h1.sg)⟩
theorem Grow_L (h : LW w0 w g s) (n : Int) : Calls Try.prog 53 #[.pointer (some ⟨g, 0, none⟩), .int .i64 n] w fun e w' => e = .returned (.tuple #[]) ∧ LW w0 w' g (grow s n) := by
  obtain ⟨S, h1, h2, h3⟩ := h
  exact (Grow_T w g S s n h1).mono fun e w' ⟨he, hd, ha⟩ => ⟨he, LW.turn h2 h3 (hd.mono Fr.of) (ha.chg h1.sg)⟩
end
end Go.Proofs.Ytoimpjmoikjibaa.Dk
namespace Go.Proofs.Ytoimpjmoikjibaa.Dk
open Go Go.RowKit Go.ChangeMaps Go.Proofs.Ytoimpjmoikjibaa.IMap Go.Proofs.YtoimpjmoikjibaaW.PrintWords Go.Proofs.YtoimpjmoikjibaaW.PrintLast Go.Proofs.YtoimpjmoikjibaaW.PrintMore
set_option linter.unusedVariables false
set_option linter.unusedSimpArgs false
def a1 : DS := ⟨[(3, ([97, 98, 99], 0))], 10, -1, false⟩
def a2 : DS := ⟨[(3, ([97, 98, 99], 3))], 10, -1, false⟩
def a3 : DS := ⟨[(3, ([97, 98, 99, 100, 101], 3))], 10, -1, false⟩
def a4 : DS := ⟨[(1, ([102], 0)), (3, ([97, 98, 99, 100, 101], 3))], 10, -1, false⟩
def a5 : DS := ⟨[(1, ([], 0)), (3, ([97, 98, 99, 100], 4))], 10, -1, false⟩
theorem ea1 : app (new 10) 3 [97, 98, 99] = (0, a1) := by rfl
theorem ea2 : syn a1 3 = (0, a2) := by rfl
theorem ea3 : app a2 3 [100, 101] = (0, a3) := by rfl
theorem ea4 : app a3 1 [102] = (0, a4) := by rfl
theorem ea5 : crash a4 [0, 1] = a5 := by rfl
theorem lit_Cm (W : World) (k : IntKind) (t : TypeId) (m : Nat × Nat) (xs : List Int) (hn : xs.length ≤ 9223372036854775807) :
    Kd.C (Kd.int k) (W.alloc (.cells (xs.map (Value.int k)).toArray t m)) (some ⟨W.heap.size, 0, none⟩) xs.length xs := by
  refine ⟨rfl, hn, fun _ => ⟨_, rfl, fun j p hp => ⟨[.int k p], rfl, rfl, fun i u hu => ?_⟩⟩⟩
  have hi : i = 0 := by
    cases i with
    | zero => rfl
    | succ i => simp at hu
  subst hi
  obtain rfl := Option.some.inj hu
  rw [add_plain, show j * (Kd.int k).sz + 0 = j from by simp [Kd.int, Kd.scalar]]
  have hg : (W.alloc (.cells (xs.map (Value.int k)).toArray t m)).heap[W.heap.size]? = some (.cells (xs.map (Value.int k)).toArray t m) := by show (W.heap.push _)[W.heap.size]? = _; simp
  rw [cell_of_row _ W.heap.size j _ t m hg]
  simp [hp]
/-- An append of a constant. -/
theorem App_lit {w0 w : World} {g : Nat} {s : DS} (h : LW w0 w g s) (k : Int) (b : List Int) (m : Nat × Nat) {r : Int × DS} (hr : app s k b = r) (hb : b.length ≤ 100000000000) (c : Nat) :
    Calls Try.prog 16 #[.pointer (some ⟨g, 0, none⟩), .int .i64 k, .slice (some ⟨w.heap.size, 0, none⟩) b.length c] (w.alloc (.cells (b.map (Value.int .u8)).toArray 5 m)) (Did w0 g r) := by
  subst hr
  exact Append_L (h.below (below_alloc (Below.refl w.heap.size w) _)) k _ c b (lit_Cm w .u8 5 m b (by omega)) hb
set_option maxHeartbeats 8000000 in
set_option maxRecDepth 20000 in
theorem anchor_T (w : World) : Calls Try.prog 14 #[] w fun e w' => e = .returned (.bool true) ∧ Below w.heap.size w w' := by
  have K := Aside0.mk (New_L (w0 := w) 10 w (by omega) (by omega) (Below.refl _ _))
  have kc := fun (w : World) (C : Array Value) (n c : Nat) => Lib.run_convert_bytes_const (P := Try.prog) w 22 5 C n c Try.underlying22 Try.underlying5
  go_enter Try.func14, Try.ntmps14
  go_wp2_with (fail)
  refine K.out.mono ?_
  rintro e w1 ⟨g, rfl, h1⟩
  have K1 := Aside0.mk (App_lit h1 3 [97, 98, 99] (3, 4) ea1 (by simp))
  clear h1 K
  go_wp2_with (fail)
  refine (K1.out _).mono ?_
  rintro e w2 ⟨rfl, h2⟩
  have K2 := Sync_L h2 3
  rw [show syn (0, a1).2 3 = (0, a2) from ea2] at K2
  have K2 := Aside0.mk K2
  clear h2 K1
  go_wp2_with (fail)
  refine K2.out.mono ?_
  rintro e w3 ⟨rfl, h3⟩
  have h3' : LW w w3 g a2 := h3
  have K3 := Aside0.mk (App_lit h3' 3 [100, 101] (2, 3) ea3 (by simp))
  clear h3 h3' K2
  go_wp2_with (fail)
  refine (K3.out _).mono ?_
  rintro e w4 ⟨rfl, h4⟩
  have h4' : LW w w4 g a3 := h4
  have K4 := Aside0.mk (App_lit h4' 1 [102] (1, 2) ea4 (by simp))
  clear h4 h4' K3
  go_wp2_with (fail)
  refine (K4.out _).mono ?_
  rintro e w5 ⟨rfl, h5⟩
  have h5' : LW w w5 g a4 := h5
  have K5 := Crash_lit h5' 2 [0, 1] (by simp)
  rw [ea5] at K5
  have K5 := Aside0.mk K5
  clear h5 h5' K4
  go_wp2_with (fail)
  refine K5.out.mono ?_
  rintro e w6 ⟨rfl, h6⟩
  have K6 := Read_L h6 1
  rw [show findE a5 1 = 0 from rfl, show Dk.bytesOf a5 1 = [] from rfl] at K6
  have K6 := Aside0.mk K6
  clear h6 K5
  go_wp2_with (fail)
  refine K6.out.mono ?_
  rintro e w7 ⟨v1, rfl, hr1, h7, hb7⟩
  have K7 := Read_L h7 3
  rw [show findE a5 3 = 0 from rfl, show Dk.bytesOf a5 3 = [97, 98, 99, 100] from rfl] at K7
  have K7 := Aside0.mk K7
  obtain ⟨A1, c1, rfl, _⟩ := Kd.R_reads hr1
  clear h7 K6 hr1 hb7
  go_wp2_with (fail)
  refine K7.out.mono ?_
  rintro e w8 ⟨v2, rfl, hr2, h8, hb8⟩
  obtain ⟨A2, c2, rfl, hc2, hC2⟩ := Kd.R_reads hr2
  have hstr := Kd.C_string (P := Try.prog) (src := 22) (dst := 9) (c := c2) Try.underlying22 Try.underlying5 Try.underlying9 hC2
  rw [show strOfNums [97, 98, 99, 100] = ⟨#[97, 98, 99, 100]⟩ from rfl, show ([97, 98, 99, 100] : List Int).length = 4 from rfl] at hstr
  have K8 := Size_L h8
  rw [show (size a5.M : Int) = 4 from rfl] at K8
  have K8 := Aside0.mk K8
  have HB8 := Aside0.mk h8.from
  clear K7 hr2 hb8 hC2 h8
  go_wp2_with (fail)
  refine K8.out.mono ?_
  rintro e w9 ⟨rfl, h9, hb9⟩
  have HB9 := Aside0.mk h9.from
  clear h9 hb9 K8
  go_wp2
  go_ret
  exact ⟨rfl, HB9.out⟩
end Go.Proofs.Ytoimpjmoikjibaa.Dk
namespace Go.Proofs.Ytoimpjmoikjibaa.Dk
open Go Go.Proofs.Ytoimpjmoikjibaa.IMap
set_option linter.unusedVariables false
set_option linter.unusedSimpArgs false
def one (k : Int) (b : List Int) (sf : Nat) (c : Int) : DS := ⟨[(k, (b, sf))], c, -1, false⟩
theorem get_one (k : Int) (x : List Int × Nat) : get [(k, x)] k = some x := by rw [get_cons, if_pos rfl]
theorem ins_one (k : Int) (x y : List Int × Nat) : ins [(k, x)] k y = [(k, y)] := by
  rw [ins, if_neg (by omega), if_pos rfl]
theorem step_one (M : Fls) (c : Int) : stepS ⟨M, c, -1, false⟩ = ⟨M, c, -1, false⟩ := rfl
theorem findE_one (k : Int) (b : List Int) (sf : Nat) (c : Int) : findE (one k b sf c) k = 0 := by
  unfold findE one
  rw [if_neg (by simp), get_one]
  rfl
theorem size_one (k : Int) (b : List Int) (sf : Nat) (c : Int) : size (one k b sf c).M = b.length := by
  simp [size, one]
theorem app_new (k : Int) (b : List Int) (c : Int) (h0 : 0 ≤ k) (h1 : k ≤ 999999) (hb : (b.length : Int) ≤ c) : app (new c) k b = (0, one k b 0 c) := by
  have e : size (new c).M = 0 := rfl
  unfold app
  rw [if_neg (by simp [new]), if_neg (by omega), if_neg (by rw [e]; show ¬ c < _; omega)]
  rfl
theorem app_one (k : Int) (b m : List Int) (sf : Nat) (c : Int) (h0 : 0 ≤ k) (h1 : k ≤ 999999) (hb : (b.length : Int) + m.length ≤ c) : app (one k b sf c) k m = (0, one k (b ++ m) sf c) := by
  unfold app
  rw [if_neg (by simp [one]), if_neg (by omega), if_neg (by rw [size_one]; show ¬ c < _; omega)]
  show ((if (stepS ⟨ins [(k, (b, sf))] k _, c, -1, false⟩).down = true then 51 else 0), stepS ⟨ins [(k, (b, sf))] k _, c, -1, false⟩) = _
  rw [step_one, ins_one]
  show (0, _) = _
  simp only [one, get_one, Option.getD_some]
theorem syn_one (k : Int) (b : List Int) (sf : Nat) (c : Int) : syn (one k b sf c) k = (0, one k b b.length c) := by
  unfold syn
  rw [findE_one, if_neg (by decide)]
  have e : stepS (one k b sf c) = one k b sf c := rfl
  rw [e, if_neg (by simp [one])]
  simp only [one, get_one, Option.getD_some, ins_one]
theorem cut_one (k : Int) (b : List Int) (sf : Nat) (c n : Int) (h0 : 0 ≤ n) (h1 : n ≤ b.length) : cut (one k b sf c) k n = (0, one k (b.take n.toNat) (min sf n.toNat) c) := by
  unfold cut
  rw [findE_one, if_neg (by decide)]
  have e : stepS (one k b sf c) = one k b sf c := rfl
  rw [if_neg (by simp only [one, get_one, Option.getD_some]; omega), e, if_neg (by simp [one])]
  simp only [one, get_one, Option.getD_some, ins_one]
theorem cut_one_bad (k : Int) (b : List Int) (sf : Nat) (c n : Int) (h : n < 0 ∨ (b.length : Int) < n) : cut (one k b sf c) k n = (11, one k b sf c) := by
  unfold cut
  rw [findE_one, if_neg (by decide), if_pos (by simp only [one, get_one, Option.getD_some]; exact h)]
theorem rmv_one (k : Int) (b : List Int) (sf : Nat) (c : Int) : rmv (one k b sf c) k = (0, ⟨[], c, -1, false⟩) := by
  unfold rmv
  rw [findE_one, if_neg (by decide)]
  have e : stepS (one k b sf c) = one k b sf c := rfl
  rw [e, if_neg (by simp [one])]
  simp [one, rem]
theorem bytes_one (k : Int) (b : List Int) (sf : Nat) (c : Int) : bytesOf (one k b sf c) k = b := by
  unfold bytesOf
  rw [findE_one, if_pos rfl]
  simp [one, get_one]
theorem safe_one (k : Int) (b : List Int) (sf : Nat) (c : Int) (h : 0 ≤ k) : safeOf (one k b sf c) k = sf := by
  unfold safeOf one
  simp [get_one]
theorem crash_one (k : Int) (b : List Int) (sf : Nat) (c : Int) (n : Int) (h : sf ≤ b.length) : crash (one k b sf c) [n] = one k (b.take (sf + min n.toNat (b.length - sf))) (min b.length (sf + min n.toNat (b.length - sf))) c := by
  unfold crash one
  simp only [crashF, kept]
  split
  · simp [List.headD, Nat.min_comm]
  · have e : sf = b.length := by omega
    subst e
    simp
theorem strOfNums_app (a b : List Int) : strOfNums (a ++ b) = strOfNums a ++ strOfNums b := by
  apply ByteArray.ext
  simp [strOfNums]
theorem infoU8 : (Try.prog.info? 5).map (fun i => (i.zero, i.size, i.bytes)) = some (some (.int .u8 0), 1, 1) := by kernel_rfl
theorem strOfNums_sz (xs : List Int) : (strOfNums xs).size = xs.length := by simp [strOfNums, ByteArray.size]
end Go.Proofs.Ytoimpjmoikjibaa.Dk
