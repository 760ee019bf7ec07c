/- The document's example of the dock, walked. -/
import Derived.Test.YtoimpjmoikjibaaDkL
import Derived.Lib.SlBytesConst
namespace Go.Proofs.Ytoimpjmoikjibaa.Dk
open Go Go.RowKit Go.ChangeMaps Go.Proofs.Ytoimpjmoikjibaa.IMap Go.Proofs.YtoimpjmoikjibaaW.PrintWords Go.Proofs.YtoimpjmoikjibaaW.PrintLast Go.Proofs.YtoimpjmoikjibaaW.PrintMore
set_option linter.unusedVariables false
set_option linter.unusedSimpArgs false
def a1 : DS := ⟨[(3, ([97, 98, 99], 0))], 10, -1, false⟩
def a2 : DS := ⟨[(3, ([97, 98, 99], 3))], 10, -1, false⟩
def a3 : DS := ⟨[(3, ([97, 98, 99, 100, 101], 3))], 10, -1, false⟩
def a4 : DS := ⟨[(1, ([102], 0)), (3, ([97, 98, 99, 100, 101], 3))], 10, -1, false⟩
def a5 : DS := ⟨[(1, ([], 0)), (3, ([97, 98, 99, 100], 4))], 10, -1, false⟩
theorem ea1 : app (new 10) 3 [97, 98, 99] = (0, a1) := by rfl
theorem ea2 : syn a1 3 = (0, a2) := by rfl
theorem ea3 : app a2 3 [100, 101] = (0, a3) := by rfl
theorem ea4 : app a3 1 [102] = (0, a4) := by rfl
theorem ea5 : crash a4 [0, 1] = a5 := by rfl
theorem lit_Cm (W : World) (k : IntKind) (t : TypeId) (m : Nat × Nat) (xs : List Int) (hn : xs.length ≤ 9223372036854775807) :
    Kd.C (Kd.int k) (W.alloc (.cells (xs.map (Value.int k)).toArray t m)) (some ⟨W.heap.size, 0, none⟩) xs.length xs := by
  refine ⟨rfl, hn, fun _ => ⟨_, rfl, fun j p hp => ⟨[.int k p], rfl, rfl, fun i u hu => ?_⟩⟩⟩
  have hi : i = 0 := by
    cases i with
    | zero => rfl
    | succ i => simp at hu
  subst hi
  obtain rfl := Option.some.inj hu
  rw [add_plain, show j * (Kd.int k).sz + 0 = j from by simp [Kd.int, Kd.scalar]]
  have hg : (W.alloc (.cells (xs.map (Value.int k)).toArray t m)).heap[W.heap.size]? = some (.cells (xs.map (Value.int k)).toArray t m) := by show (W.heap.push _)[W.heap.size]? = _; simp
  rw [cell_of_row _ W.heap.size j _ t m hg]
  simp [hp]
/-- An append of a constant. -/
theorem App_lit {w0 w : World} {g : Nat} {s : DS} (h : LW w0 w g s) (k : Int) (b : List Int) (m : Nat × Nat) {r : Int × DS} (hr : app s k b = r) (hb : b.length ≤ 100000000000) (c : Nat) :
    Calls Try.prog 16 #[.pointer (some ⟨g, 0, none⟩), .int .i64 k, .slice (some ⟨w.heap.size, 0, none⟩) b.length c] (w.alloc (.cells (b.map (Value.int .u8)).toArray 5 m)) (Did w0 g r) := by
  subst hr
  exact Append_L (h.below (below_alloc (Below.refl w.heap.size w) _)) k _ c b (lit_Cm w .u8 5 m b (by omega)) hb
set_option maxHeartbeats 8000000 in
set_option maxRecDepth 20000 in
theorem anchor_T (w : World) : Calls Try.prog 14 #[] w fun e w' => e = .returned (.bool true) ∧ Below w.heap.size w w' := by
  have K := Aside0.mk (New_L (w0 := w) 10 w (by omega) (by omega) (Below.refl _ _))
  have kc := fun (w : World) (C : Array Value) (n c : Nat) => Lib.run_convert_bytes_const (P := Try.prog) w 22 5 C n c Try.underlying22 Try.underlying5
  go_enter Try.func14, Try.ntmps14
  go_wp2_with (fail)
  refine K.out.mono ?_
  rintro e w1 ⟨g, rfl, h1⟩
  have K1 := Aside0.mk (App_lit h1 3 [97, 98, 99] (3, 4) ea1 (by simp))
  clear h1 K
  go_wp2_with (fail)
  refine (K1.out _).mono ?_
  rintro e w2 ⟨rfl, h2⟩
  have K2 := Sync_L h2 3
  rw [show syn (0, a1).2 3 = (0, a2) from ea2] at K2
  have K2 := Aside0.mk K2
  clear h2 K1
  go_wp2_with (fail)
  refine K2.out.mono ?_
  rintro e w3 ⟨rfl, h3⟩
  have h3' : LW w w3 g a2 := h3
  have K3 := Aside0.mk (App_lit h3' 3 [100, 101] (2, 3) ea3 (by simp))
  clear h3 h3' K2
  go_wp2_with (fail)
  refine (K3.out _).mono ?_
  rintro e w4 ⟨rfl, h4⟩
  have h4' : LW w w4 g a3 := h4
  have K4 := Aside0.mk (App_lit h4' 1 [102] (1, 2) ea4 (by simp))
  clear h4 h4' K3
  go_wp2_with (fail)
  refine (K4.out _).mono ?_
  rintro e w5 ⟨rfl, h5⟩
  have h5' : LW w w5 g a4 := h5
  have K5 := Crash_lit h5' 2 [0, 1] (by simp)
  rw [ea5] at K5
  have K5 := Aside0.mk K5
  clear h5 h5' K4
  go_wp2_with (fail)
  refine K5.out.mono ?_
  rintro e w6 ⟨rfl, h6⟩
  have K6 := Read_L h6 1
  rw [show findE a5 1 = 0 from rfl, show Dk.bytesOf a5 1 = [] from rfl] at K6
  have K6 := Aside0.mk K6
  clear h6 K5
  go_wp2_with (fail)
  refine K6.out.mono ?_
  rintro e w7 ⟨v1, rfl, hr1, h7, hb7⟩
  have K7 := Read_L h7 3
  rw [show findE a5 3 = 0 from rfl, show Dk.bytesOf a5 3 = [97, 98, 99, 100] from rfl] at K7
  have K7 := Aside0.mk K7
  obtain ⟨A1, c1, rfl, _⟩ := Kd.R_reads hr1
  clear h7 K6 hr1 hb7
  go_wp2_with (fail)
  refine K7.out.mono ?_
  rintro e w8 ⟨v2, rfl, hr2, h8, hb8⟩
  obtain ⟨A2, c2, rfl, hc2, hC2⟩ := Kd.R_reads hr2
  have hstr := Kd.C_string (P := Try.prog) (src := 22) (dst := 9) (c := c2) Try.underlying22 Try.underlying5 Try.underlying9 hC2
  rw [show strOfNums [97, 98, 99, 100] = ⟨#[97, 98, 99, 100]⟩ from rfl, show ([97, 98, 99, 100] : List Int).length = 4 from rfl] at hstr
  have K8 := Size_L h8
  rw [show (size a5.M : Int) = 4 from rfl] at K8
  have K8 := Aside0.mk K8
  have HB8 := Aside0.mk h8.from
  clear K7 hr2 hb8 hC2 h8
  go_wp2_with (fail)
  refine K8.out.mono ?_
  rintro e w9 ⟨rfl, h9, hb9⟩
  have HB9 := Aside0.mk h9.from
  clear h9 hb9 K8
  go_wp2
  go_ret
  exact ⟨rfl, HB9.out⟩
end Go.Proofs.Ytoimpjmoikjibaa.Dk
