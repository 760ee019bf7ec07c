import Derived.Test.YthefbeekcjchcaaLawPlans
import Derived.Test.YthefbeekcjchcaaRead
namespace Go.Proofs.Ythefbeekcjchcaa.P
open Go Go.RowKit Go.Proofs.YthefbeekcjchcaaW.PrintWords Go.Proofs.YthefbeekcjchcaaW.PrintLast Go.Proofs.YthefbeekcjchcaaW.PrintMore Go.Proofs.Ythefbeekcjchcaa.Pure
set_option linter.unusedVariables false
set_option linter.unusedSimpArgs false
def byteB (l : List Int) : Bool := l.all fun x => decide (0 ≤ x) && decide (x < 256)
theorem byteB_of {l : List Int} (h : byteB l = true) : Bytes l := fun x hx => by
  have := List.all_eq_true.1 h x hx
  simpa using this
abbrev kPlnA : Kd Pln := Kd.pair (Kd.slice 3 (Kd.int .i64)) (Kd.pair (Kd.slice 3 (Kd.int .i64)) (Kd.pair (Kd.slice 51 (Kd.pair (Kd.int .i64) (Kd.int .i64))) (Kd.slice 100 (Kd.pair (Kd.int .i64) (Kd.int .i64)))))
def slipwaylaw12_CodePlans.f (_k : Nat) (p : Pln) (l : List Int) : Option Bool := if byteB l = true then some true else none
theorem slipwaylaw12_CodePlans.calls (k : Nat) (cs : Array Value) (p : Pln) (A1 : Option Addr) (c1 : Nat) (l1 : List Int) (r : Bool) (w : World) (hK : kPlnA.K w p cs.toList) (hr1 : Kd.C (Kd.int .u8) w A1 l1.length l1) (hc1 : l1.length ≤ c1) (h : slipwaylaw12_CodePlans.f k p l1 = some r) :
    Calls Try.prog 5 #[.agg cs, .slice A1 l1.length c1] w fun e w' => e = .returned (.bool r) ∧ Below w.heap.size w w' := by
  unfold slipwaylaw12_CodePlans.f at h
  split at h
  · rename_i hb
    obtain rfl := Option.some.inj h
    obtain ⟨z0, z1, hz, ⟨A0, k0, rfl, _, h0⟩, z2, z3, rfl, ⟨A1', k1, rfl, _, h1⟩, z4, z5, rfl, ⟨A2, k2, rfl, _, h2⟩, ⟨A3, k3, rfl, _, h3⟩⟩ := hK
    obtain rfl : cs = #[.slice A0 p.1.length k0, .slice A1' p.2.1.length k1, .slice A2 p.2.2.1.length k2, .slice A3 p.2.2.2.length k3] := by
      apply Array.ext'
      exact hz
    by_cases hbig : 50 < p.1.length ∨ 50 < p.2.1.length ∨ 100 < p.2.2.1.length ∨ 200 < p.2.2.2.length ∨ 1000 < l1.length
    · exact CodePlans_big p A0 A1' A2 A3 A1 k0 k1 k2 k3 c1 l1 w h0 h1 h2 h3 hr1 hc1 (byteB_of hb) hbig
    · exact CodePlans_main p A0 A1' A2 A3 A1 k0 k1 k2 k3 c1 l1 w h0 h1 h2 h3 hr1 hc1 (byteB_of hb) (by omega) (by omega) (by omega) (by omega) (by omega)
  · cases h
end Go.Proofs.Ythefbeekcjchcaa.P
namespace Go.Proofs.Ythefbeekcjchcaa.Pure
open Go Go.Proofs.Ythefbeekcjchcaa.P Go.Proofs.Ythefbeekcjchcaa.Read
set_option linter.unusedVariables false
theorem CodePlans (p : Pln) {G : Prop} (gp : G) (l : List Int) (g : goodList (fun x => (Lit.int .u8 x).wf = true) l) : ∃ k, slipwaylaw12_CodePlans.f k p l = some true := by
  refine ⟨0, if_pos (List.all_eq_true.2 fun x hx => ?_)⟩
  have h := g.2 x hx
  simp only [Lit.wf, decide_eq_true_eq, Bool.and_eq_true] at h
  rw [show IntKind.u8.min = 0 from rfl, show IntKind.u8.max = 255 from rfl] at h
  simp
  omega
end Go.Proofs.Ythefbeekcjchcaa.Pure
