/- The law 'CodeCatalogs': for every input the call returns true, and each argument reads afterwards as it read before. No condition. -/
import Derived.Test.YthefbeekcjchcaaRows
import Derived.Test.YthefbeekcjchcaaRead
import Derived.Test.YthefbeekcjchcaaLawCats
import Derived.WalkKit
import Derived.ProofKit
import Derived.OpenShut
import Derived.ShutString
import Derived.ChangeOld
import Derived.Below
import Derived.SizedLaws
namespace Go.Proofs.Ythefbeekcjchcaa.codeCatalogs
open Go.ChangeShapes Go.WideShapes Go.ChangeAt Go.RowKit Go.Proofs.Ythefbeekcjchcaa.Read Go.Proofs.YthefbeekcjchcaaW.PrintWords
open Go.ChangeMaps (open_string shut_string)
set_option linter.unusedVariables false
theorem own : ownKnob Try.prog.godebug = none := by kernel_rfl
theorem laidOut : laidOutB Try.prog = true := by kernel_rfl
set_option maxRecDepth 100000 in
theorem lifted (os : Os) (started : os.Started) (H : Type) (enc : TypeId × Value → H) :
    ReturnsInHanded {} Try.checked os 8 .any (Rows.codeCatalogsSpec.pre6 enc Try.prog Try.f8 Rows.codeCatalogsRow.domain false) (Rows.codeCatalogsSpec.post enc Try.prog Try.f8 false true false false) := by
  refine returnsInHanded_of_change_sized (C := Try.checked) own started (by kernel_rfl) Try.func8
    (ChangeSpec.witness6 (enc := enc) (C := Try.checked) false ⟨#[], #[.agg #[.slice none 0 0]], []⟩ 8 (by kernel_rfl) (by kernel_rfl) (by kernel_rfl) (by kernel_rfl)) ?_
  intro W base args ds gs before hval0 hW hcnd hsz0 _
  have hval : ∀ (j : Nat) t v, Try.f8.params[j]? = some t → args[j]? = some v → Value.okWide Try.prog W .any base t v := hval0
  have hW' := hW
  obtain ⟨p, q, hA0, hV, rfl, hfz, hnd⟩ := hW
  have hA : DataW.TrodAll enc Try.prog W 0 (fun _ => true) true Try.f8.params.toList args.toList ds p := hA0
  rw [Try.params8] at hA hval
  obtain ⟨v0, vs0, d0, ds0, p0, q0, hargs, rfl, rfl, h0, r0⟩ := trodAll_cons hA
  obtain ⟨rfl, rfl, rfl⟩ := trodAll_nil r0
  obtain rfl : args = #[v0] := by cases args; simp_all
  obtain ⟨rfl, rfl⟩ := trodVars_none hV
  obtain ⟨cs0, rfl, hsz0⟩ := okWide_struct Try.underlying61 (hval 0 61 v0 rfl rfl)
  have k0 := h0
  have lt0 : ∀ x ∈ p0, x.block < W.heap.size := by obtain ⟨m, hm⟩ := k0; exact DataW.trod_lt m _ _ _ hm
  obtain ⟨fuel0, hf0⟩ := h0
  obtain ⟨l0, hr0, g0⟩ := (Rd.one (ht := Try.underlying61) (r0 := by exact (Rd.slice (Rd.two (ht := Try.underlying113) (r0 := by exact (Rd.string Try.underlying9 (by kernel_rfl))) (r1 := by exact (Rd.slice (Rd.three (ht := Try.underlying121) (r0 := by exact (Rd.four (ht := Try.underlying118) (r0 := by exact (Rd.int Try.underlying3 (by kernel_rfl))) (r1 := by exact (Rd.int Try.underlying3 (by kernel_rfl))) (r2 := by exact (Rd.int Try.underlying3 (by kernel_rfl))) (r3 := by exact (Rd.string Try.underlying9 (by kernel_rfl))) rfl rfl rfl rfl (by kernel_rfl))) (r1 := by exact (Rd.int Try.underlying3 (by kernel_rfl))) (r2 := by exact (Rd.slice (Rd.two (ht := Try.underlying130) (r0 := by exact (Rd.int Try.underlying3 (by kernel_rfl))) (r1 := by exact (Rd.one (ht := Try.underlying128) (r0 := by exact (Rd.slice (Rd.slice (Rd.two (ht := Try.underlying177) (r0 := by exact (Rd.int Try.underlying3 (by kernel_rfl))) (r1 := by exact (Rd.four (ht := Try.underlying118) (r0 := by exact (Rd.int Try.underlying3 (by kernel_rfl))) (r1 := by exact (Rd.int Try.underlying3 (by kernel_rfl))) (r2 := by exact (Rd.int Try.underlying3 (by kernel_rfl))) (r3 := by exact (Rd.string Try.underlying9 (by kernel_rfl))) rfl rfl rfl rfl (by kernel_rfl))) rfl rfl (by kernel_rfl)) Try.underlying174 (by kernel_rfl)) Try.underlying126 (by kernel_rfl))) rfl (by kernel_rfl))) rfl rfl (by kernel_rfl)) Try.underlying119 (by kernel_rfl))) rfl rfl rfl (by kernel_rfl)) Try.underlying111 (by kernel_rfl))) rfl rfl (by kernel_rfl)) Try.underlying59 (by kernel_rfl))) rfl (by kernel_rfl)).read hf0
  clear hA0 hval0 hsz0
  obtain ⟨k, h⟩ := Pure.CodeCatalogs l0 g0
  refine (P.slipwaylaw12_CodeCatalogs.calls k _ l0 true W hr0 h).mono fun e W' ⟨he, bel⟩ => ?_
  subst he
  exact ⟨_, rfl, _, _, _, [], _, [], hW', trodAll_mk1 (shut_bool Try.underlying4 _), (trodAll_cons_mk (Below.trod laidOut (by kernel_rfl) (of_decide_eq_true (by kernel_rfl)) k0 bel lt0) trodAll_mk0), rfl, bel.frame _, fun h => by cases h⟩
theorem over : Rows.codeCatalogsRow.holds Try.pinned (OpenSpec.ofChange Rows.codeCatalogsSpec) :=
  OpenClaim.holds_of_wide 8 Try.f8 rfl rfl rfl rfl rfl rfl rfl ⟨rfl, rfl, rfl, rfl, rfl⟩ rfl rfl rfl rfl rfl (by kernel_rfl) Try.func8 (by kernel_rfl)
    (of_decide_eq_true (by kernel_rfl)) (by unfold Func.isWrapper; first | (rw [if_pos (by decide +kernel)]; kernel_rfl) | (rw [if_neg (by decide +kernel)]; exact ⟨rfl, rfl⟩))
    (fun os started H enc _ => lifted os started H enc)
theorem proved : Rows.CodeCatalogsSaid := over
#print axioms proved
end Go.Proofs.Ythefbeekcjchcaa.codeCatalogs
namespace Go.Proofs.Ythefbeekcjchcaa
/-- The row, under a short name, for the claim. -/
theorem codeCatalogs_holds : Rows.CodeCatalogsSaid := codeCatalogs.proved
end Go.Proofs.Ythefbeekcjchcaa
