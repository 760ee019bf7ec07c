/- lattice: Ways. -/
import Derived.Test.YtplhihakeodadaaDoorLtAll
namespace Go.Proofs.YtplhihakeodadaaDoor.Sg
open Go Go.RowKit Go.MapKept Go.Proofs Go.Proofs.YtplhihakeodadaaDoor.IMap Go.Proofs.YtplhihakeodadaaDoorW.PrintWords Go.Proofs.YtplhihakeodadaaDoorW.PrintLast Go.Proofs.YtplhihakeodadaaDoorW.PrintMore
set_option linter.unusedVariables false
set_option linter.unusedSimpArgs false
section
variable {P : Program} {q : IntKind} {w : World} {b : Nat} {l : List (Int × Value)} {ops : Array Oper} {rest : List Oper} {o : Oper} {a : Act} {Q : Exit → Act → World → Prop}
theorem pl_look (hg : o.guard = none) (m x : Operand) (t : TypeId) (c : Bool) (hop : o.op = Op.lookup t m x c) {kt et : TypeId} (ht : P.underlying t = some (.map kt et)) (hk : P.underlying kt = some (.int q)) {z : Value} (hz : (zeroValue et).run P w = .ok z w)
    (hm : a.eval m = .map (some b)) (h : IM q w b l) (k : Int) (hx : a.eval x = .int q k)
    (hK : wpList P ops Q rest (a.put o.dst (if c then .tuple #[(IMap.get l k).getD z, .bool (IMap.get l k).isSome] else (IMap.get l k).getD z)) w) : wpList P ops Q (o :: rest) a w := by
  refine wpList_plain hg fun K' hK' => ?_
  unfold Oper.wp
  simp [execOp, hop, hm, hx, h.lookup ht hk hz k c, Result.andThen]
  exact hK' _ _ hK
end
theorem predPow (N : Nat) (h : N ≤ 60) : IntKind.u64.wrap ((2 : Int) ^ N - 1) = ((2 ^ N - 1 : Nat) : Int) := by
  have h1 : (2 : Nat) ^ N ≤ 2 ^ 60 := Nat.pow_le_pow_right (by decide) h
  have h2 : 0 < (2 : Nat) ^ N := Nat.two_pow_pos N
  have e : ((2 : Int) ^ N) = (((2 : Nat) ^ N : Nat) : Int) := by simp
  rw [e]
  generalize (2 : Nat) ^ N = z at h1 h2
  have : (2 : Nat) ^ 60 = 1152921504606846976 := by decide
  simp only [IntKind.wrap, IntKind.bits, IntKind.signed]
  simp
  omega
set_option maxHeartbeats 8000000 in
set_option maxRecDepth 100000 in
theorem Ways_T (N : Nat) (E : List Stp) (A : Option Addr) (c : Nat) (w : World) (hT : TabW w) (h : Kd.C kP w A E.length E) (hR : rightG N E = true) (ho : orderErr N E = 0) (hg : okCount E N = true) (hN : N ≤ 60) (hway : wayOf (countM E N) ((2 ^ N - 1 : Nat) : Int) ≤ 1152921504606846976) :
    Calls Tryd.prog 33 #[.agg #[.int .i64 (N : Int), .slice A E.length c]] w fun e w' => e = .returned (.tuple #[.int .i64 (wayOf (countM E N) ((2 ^ N - 1 : Nat) : Int)), .int .i64 0]) ∧ Below w.heap.size w w' := by
  have hb0 := below_alloc (Below.refl w.heap.size w) (.cells #[.int .i64 (N : Int), .slice A E.length c] 62)
  have HX := Aside0.mk (heap_last w (.cells #[.int .i64 (N : Int), .slice A E.length c] 62))
  have K := Aside0.mk (Count_T N E A c (w.alloc (.cells #[.int .i64 (N : Int), .slice A E.length c] 62)) (hT.below hb0) (Kd.C_below h hb0) hR ho hg)
  have HB := Aside0.mk hb0
  have h0 := (blk_cell HX.out) 0
  have h1 := (blk_cell HX.out) 1
  have s0 : min N 64 = N := by omega
  have s1 := shlU N (by omega)
  have s2 := predPow N hN
  obtain ⟨M, hM⟩ : ∃ M, countM E N = M := ⟨_, rfl⟩
  obtain ⟨K2, hK2⟩ : ∃ K, ((2 ^ N - 1 : Nat) : Int) = K := ⟨_, rfl⟩
  rw [hM] at K hway ⊢
  rw [hK2] at s2 hway ⊢
  obtain ⟨V, hV⟩ : ∃ V, wayOf M K2 = V := ⟨_, rfl⟩
  rw [hV] at hway ⊢
  have HV := Aside0.mk hV
  have e1 : decide (V > 1152921504606846976) = false := decide_eq_false (by omega)
  clear hb0 h hT hR ho hg hM hK2 hN hV
  go_enter Tryd.func33, Tryd.ntmps33
  go_wp2_with (fail)
  refine K.out.mono ?_
  rintro e w1 ⟨m, rfl, him, hml, hb⟩
  have HM := Aside0.mk him
  have HB1 := Aside0.mk (below_step HB.out hb)
  have HX1 := Aside0.mk (blk_below HX.out hb)
  have g0 := (blk_cell HX1.out) 0
  clear K hb him hml h0 h1
  go_wp2_with (first | (at_lookup; refine pl_look rfl (.tmp 15) (.tmp 19) 93 false rfl Tryd.underlying93 Tryd.underlying56 (z := .int .i64 0) (by go_simp) rfl HM.out K2 (by simp [Act.eval, s2]) ?_; rw [look_way, HV.out]))
  refine bodyPost_ret (v := .tuple #[.int .i64 V, .int .i64 0]) (by simp [results, Tryd.results33, go_sem]) rfl ?_
  exact ⟨rfl, HB1.out⟩
end Go.Proofs.YtplhihakeodadaaDoor.Sg
