/- The law 'SagaOwn': for every input the call returns true, and each argument reads afterwards as it read before. No condition beyond the card's own (the library's table lies as its initialiser lays it). (written by card.py) -/
import Derived.Test.YtplhihakeodadaaDoorCards
import Derived.Test.YtplhihakeodadaaDoorTie
import Derived.Test.YtplhihakeodadaaDoorSgOwnL
import Derived.Test.YtplhihakeodadaaDoorRead
import Derived.WalkKit
import Derived.ProofKit
import Derived.OpenShut
import Derived.ShutString
import Derived.Deep.DeepHandedRow
import Derived.Lib.LaidTab
import Derived.ChangeOld
import Derived.Below
import Derived.SizedLaws
namespace Go.Proofs.YtplhihakeodadaaDoor.sagaOwn
open Go.ChangeShapes Go.WideShapes Go.ChangeAt Go.RowKit Go.Proofs.YtplhihakeodadaaDoor.Read Go.Proofs.YtplhihakeodadaaDoorW.PrintWords Go.Proofs.YtplhihakeodadaaDoor.Sg
set_option linter.unusedVariables false
theorem own : ownKnob Tryd.prog.godebug = none := by kernel_rfl
theorem laidOut : laidOutB Tryd.prog = true := by kernel_rfl
theorem gTab : Tryd.prog.globalNamed "math/bits.deBruijn64tab" = some 0 := by kernel_rfl
def tabZ : List Int := Lib.deBruijn64tab.map Int.ofNat
theorem table {W : World} (h : laidMetH Tryd.prog Rows.sagaOwnRow.laid W) : Lib.TabIs Tryd.prog W "math/bits.deBruijn64tab" .u8 tabZ :=
  Lib.tabIs_of_head (rest := []) (t := 138) (e := 5) (n := 64) gTab (by kernel_rfl) (by kernel_rfl) (by kernel_rfl) (by kernel_rfl) (by kernel_rfl) h
theorem tabW {W : World} (h : laidMetH Tryd.prog Rows.sagaOwnRow.laid W) : TabW W := fun j hj => by
  have h1 := (table h).cell gTab j (by unfold tabZ; rw [List.length_map]; exact hj)
  rw [h1]
  unfold tabZ
  simp [List.getD_eq_getElem?_getD, hj]
abbrev kPln : Kd Pln := Kd.pair (Kd.slice 3 kI) (Kd.pair (Kd.slice 3 kI) (Kd.pair (Kd.slice 50 kP) (Kd.slice 74 kP)))
abbrev kRec : Kd (Int × Int × Pln) := Kd.pair kI (Kd.pair kI kPln)
def toRR (x : Int × Int × Pln) : RR := ⟨x.1, x.2.1, x.2.2⟩
theorem recs_of {w : World} {A : Option Addr} {l : List (Int × Int × Pln)} (h : Kd.C kRec w A l.length l) : Recs w A (l.map toRR) := by
  intro i hi
  rw [List.length_map] at hi
  obtain ⟨ad, cs, ea, hcl, hK, hcc⟩ := Kd.C_get h (0, 0, pl0) (i : Int) (by omega) (by omega)
  rw [Int.toNat_natCast] at hK hcc
  refine ⟨ad, ea, ?_⟩
  have hg : (l.map toRR).getD i rr0 = toRR (l.getD i (0, 0, pl0)) := by simp [List.getD_eq_getElem?_getD, hi]
  rw [hg]
  obtain ⟨x, hx⟩ : ∃ x, l.getD i (0, 0, pl0) = x := ⟨_, rfl⟩
  rw [hx] at hK ⊢
  obtain ⟨k, st, p⟩ := x
  obtain ⟨z0, z1, rfl, rfl, z2, z3, rfl, rfl, z4, z5, rfl, ⟨A0, c0, rfl, l0, h0⟩, z6, z7, rfl, ⟨A1, c1, rfl, l1, h1⟩, z8, z9, rfl, ⟨A2, c2, rfl, l2, h2⟩, ⟨A3, c3, rfl, l3, h3⟩⟩ := hK
  have hadd : ∀ j, ad.add (i * 6 + j) = (ad.add (i * 6)).add j := fun j => (Addr.add_add _ _ _).symm
  have q0 := hcc 0 _ rfl
  have q1 := hcc 1 _ rfl
  have q2 := hcc 2 _ rfl
  have q3 := hcc 3 _ rfl
  have q4 := hcc 4 _ rfl
  have q5 := hcc 5 _ rfl
  change w.cell? (ad.add (i * 6 + 1)) = _ at q1
  change w.cell? (ad.add (i * 6 + 2)) = _ at q2
  change w.cell? (ad.add (i * 6 + 3)) = _ at q3
  change w.cell? (ad.add (i * 6 + 4)) = _ at q4
  change w.cell? (ad.add (i * 6 + 5)) = _ at q5
  rw [hadd] at q1 q2 q3 q4 q5
  exact ⟨⟨_, _, _, _⟩, ⟨⟨A0, c0, rfl, l0, h0⟩, ⟨A1, c1, rfl, l1, h1⟩, ⟨A2, c2, rfl, l2, h2⟩, ⟨A3, c3, rfl, l3, h3⟩⟩, q0, q1, q2, q3, q4, q5⟩
set_option maxRecDepth 100000 in
theorem contract (H : Type) (enc : TypeId × Value → H) (W : World) (base : Nat) (args : Array Value) (ds gs : List (DataW H)) (before : List MemPlace)
    (hval : ∀ (j : Nat) t v, Tryd.f4.params[j]? = some t → args[j]? = some v → Value.okWide Tryd.prog W .any base t v)
    (hW : DataW.Whole enc Tryd.prog Tryd.f4.params.toList Rows.sagaOwnSpec.vars false W args.toList ds gs before) (hL : laidMetH Tryd.prog Rows.sagaOwnRow.laid W) :
    Calls Tryd.prog 4 args W fun e W' => ∃ v, e = .returned v ∧ Rows.sagaOwnSpec.post enc Tryd.prog Tryd.f4 false true false false W args v W' := by
  have hW' := hW
  obtain ⟨p, q, hA0, hV, rfl, hfz, hnd⟩ := hW
  have hA : DataW.TrodAll enc Tryd.prog W 0 (fun _ => true) true Tryd.f4.params.toList args.toList ds p := hA0
  rw [Tryd.params4] at hA hval
  obtain ⟨v0, vs0, d0, ds0, p0, q0, hargs, rfl, rfl, h0, r0⟩ := trodAll_cons hA
  obtain ⟨rfl, rfl, rfl⟩ := trodAll_nil r0
  obtain rfl : args = #[v0] := by cases args; simp_all
  obtain ⟨rfl, rfl⟩ := trodVars_none hV
  obtain ⟨a0, len0, cap0, rfl⟩ := okWide_slice Tryd.underlying41 (hval 0 41 v0 rfl rfl)
  have k0 := h0
  have lt0 : ∀ x ∈ p0, x.block < W.heap.size := by obtain ⟨m, hm⟩ := k0; exact DataW.trod_lt m _ _ _ hm
  obtain ⟨fuel0, hf0⟩ := h0
  obtain ⟨l0, ⟨A0, c0, e0, hc0, hr0⟩, g0⟩ := (Rd.slice (d := kRec) (Rd.three (ht := Tryd.underlying39) (r0 := by exact (Rd.int Tryd.underlying3 (by kernel_rfl))) (r1 := by exact (Rd.int Tryd.underlying3 (by kernel_rfl))) (r2 := by exact (Rd.four (ht := Tryd.underlying26) (r0 := by exact (Rd.slice (Rd.int Tryd.underlying3 (by kernel_rfl)) Tryd.underlying22 (by kernel_rfl))) (r1 := by exact (Rd.slice (Rd.int Tryd.underlying3 (by kernel_rfl)) Tryd.underlying22 (by kernel_rfl))) (r2 := by exact (Rd.slice (Rd.two (ht := Tryd.underlying50) (r0 := by exact (Rd.int Tryd.underlying3 (by kernel_rfl))) (r1 := by exact (Rd.int Tryd.underlying3 (by kernel_rfl))) rfl rfl (by kernel_rfl)) Tryd.underlying23 (by kernel_rfl))) (r3 := by exact (Rd.slice (Rd.arr2 (by decide) (Rd.int Tryd.underlying3 (by kernel_rfl)) Tryd.underlying74 (by kernel_rfl)) Tryd.underlying24 (by kernel_rfl))) rfl rfl rfl rfl (by kernel_rfl))) rfl rfl rfl (by kernel_rfl)) Tryd.underlying41 (by kernel_rfl)).read hf0
  simp only [Value.cells, List.cons.injEq, Value.slice.injEq, and_true] at e0
  obtain ⟨rfl, rfl, rfl⟩ := e0
  clear hA0
  have walk := SagaOwn_main (l0.map toRR) a0 cap0 W (tabW hL) (recs_of hr0) (by rw [List.length_map]; exact hc0) (by rw [List.length_map]; have := g0.1; unfold maxLen at this; omega)
  rw [List.length_map] at walk
  refine walk.mono fun e W' ⟨he, bel⟩ => ?_
  subst he
  exact ⟨_, rfl, _, _, _, [], _, [], hW', trodAll_mk1 (shut_bool Tryd.underlying4 _), (trodAll_cons_mk (Below.trod laidOut (by kernel_rfl) (of_decide_eq_true (by kernel_rfl)) k0 bel lt0) trodAll_mk0), rfl, bel.frame _, fun h => by cases h⟩
/-- A world for the witness: the settled one, the table (block 0) holding what its initialiser lays. -/
noncomputable def laidWorld (os : Os) : World :=
  { World.holding Tryd.prog os ⟨#[], #[], []⟩ with heap := (World.holding Tryd.prog os ⟨#[], #[], []⟩).heap.modify 0 fun
      | .cells _ t frozen => .cells (tabZ.map fun z => Value.int .u8 z).toArray t frozen
      | o => o }
theorem laid_met (os : Os) : laidMet Tryd.prog Rows.sagaOwnRow.laid ((laidWorld os).forCall (fun _ _ => 0) ⟨#[], #[.slice none 0 0], []⟩).memory :=
  laidMet_of_run' 8 (by kernel_rfl) (by kernel_rfl)
theorem reads (os : Os) {H : Type} (enc : TypeId × Value → H) : ∃ places, DataW.whole enc Tryd.prog ((laidWorld os).forCall (fun _ _ => 0) ⟨#[], #[.slice none 0 0], []⟩).memory Tryd.f4.params.toList Rows.sagaOwnSpec.vars false #[Value.slice none 0 0].toList 8 = some ([.nil], [], places) :=
  ⟨[], by kernel_rfl⟩
set_option maxRecDepth 100000 in
theorem lifted (os : Os) (started : os.Started) (H : Type) (enc : TypeId × Value → H) (F : Stop.Interp) :
    ReturnsInHanded {} Tryd.checked os 4 .any ((OpenSpec.ofChange Rows.sagaOwnSpec).preRow enc Tryd.prog Tryd.f4 Rows.sagaOwnRow.domain false Rows.sagaOwnRow.laid) (((OpenSpec.ofChange Rows.sagaOwnSpec).at F).post enc Tryd.prog Tryd.f4 false true false false) := by
  obtain ⟨places, hx⟩ := reads os enc
  refine returnsInHanded_of_row (C := Tryd.checked) (s := OpenSpec.ofChange Rows.sagaOwnSpec) own started (by kernel_rfl) Tryd.func4
    (witness_row_at (enc := enc) (C := Tryd.checked) false (laidWorld os) #[.slice none 0 0] rfl (by kernel_rfl) (by kernel_rfl) (by kernel_rfl)
      (OpenSpec.preRow_of_cond 8 hx (by kernel_rfl) (fun k hk => by cases hk) (by kernel_rfl) (laid_met os))) ?_
  intro W base args ds gs before hval hW _ _ _ hL _ _
  exact contract H enc W base args ds gs before hval hW hL
theorem said : Rows.SagaOwnSaid :=
  OpenClaim.holds_of_cond 4 Tryd.f4 rfl rfl rfl rfl rfl rfl rfl ⟨rfl, rfl, rfl, rfl, rfl⟩ rfl rfl rfl rfl rfl (by kernel_rfl) Tryd.func4 (by kernel_rfl)
    (of_decide_eq_true (by kernel_rfl)) (by unfold Func.isWrapper; first | (rw [if_pos (by decide +kernel)]; kernel_rfl) | (rw [if_neg (by decide +kernel)]; exact ⟨rfl, rfl⟩))
    (fun os started H enc _ F => by rw [OpenClaim.pre_eq_preRow]; exact lifted os started H enc F)
theorem plain (f : FuncId) (fn : Func) (hf : Tryd.pinned.checked.prog.funcNamed "slipway/slipwaylaw17.SagaOwn" = some f) (hfn : Tryd.pinned.checked.prog.funcs[f]? = some fn) :
    false = Tryd.pinned.checked.prog.looks [] ∧ ∀ (j : Nat) t, fn.params[j]? = some t → Tryd.pinned.checked.prog.wantsStandIn t = false := by
  obtain rfl : f = 4 := Option.some.inj ((show Tryd.prog.funcNamed "slipway/slipwaylaw17.SagaOwn" = some 4 by kernel_rfl).symm.trans hf) |>.symm
  obtain rfl : fn = Tryd.f4 := (Option.some.inj (Tryd.func4.symm.trans hfn)).symm
  refine ⟨by kernel_rfl, fun j t ht => ?_⟩
  rw [Tryd.params4] at ht
  obtain rfl : t = 41 := by simpa using Array.mem_of_getElem? ht
  exact (show Tryd.prog.wantsStandIn 41 = false by kernel_rfl)
/-- The card. -/
theorem card : Rows.SagaOwnCardSaid :=
  Claim7.holds_tied_plain_at .later [] _ _ _ _ said (fun _ h => by cases h) (by kernel_rfl) (fun _ h => by cases h) sagaOwn_row_tie rfl ⟨rfl, rfl⟩ (by kernel_rfl) rfl plain (by kernel_rfl)
end Go.Proofs.YtplhihakeodadaaDoor.sagaOwn
namespace Go.Proofs.YtplhihakeodadaaDoor
/-- The card, under a short name, for the claim. -/
theorem sagaOwn_holds : Rows.SagaOwnCardSaid := sagaOwn.card
end Go.Proofs.YtplhihakeodadaaDoor
