/- lattice: members, the nodes of a set one by one. -/
import Derived.Test.YtplhihakeodadaaDoorLtRange
namespace Go.Proofs.YtplhihakeodadaaDoor.Sg
open Go Go.RowKit Go.Shelf Go.Proofs.YtplhihakeodadaaDoorW.PrintWords Go.Proofs.YtplhihakeodadaaDoorW.PrintLast Go.Proofs.YtplhihakeodadaaDoorW.PrintMore
set_option linter.unusedVariables false
set_option linter.unusedSimpArgs false
attribute [local go_sem] Oper.semAt_some
theorem predU (y : Nat) (h0 : y ≠ 0) (h : y < 2 ^ 64) : IntKind.u64.wrap ((y : Int) - 1) = ((y - 1 : Nat) : Int) := by
  simp only [IntKind.wrap, IntKind.bits, IntKind.signed]
  simp
  omega
theorem members_T (x : Int) (w : World) : Calls Tryd.prog 60 #[.int .u64 x] w fun e w' => e = .returned (.func (.func 80) #[] #[.pointer (some ⟨w.heap.size, 0, none⟩)]) ∧ w' = w.alloc (.cells #[.int .u64 x] 56) := by
  go_enter Tryd.func60, Tryd.ntmps60
  go_wp2
  go_ret
  exact ⟨rfl, rfl⟩
set_option maxRecDepth 100000 in
set_option maxHeartbeats 4000000 in
theorem members_seq (n : Nat) (hn : 2 ≤ n) (b x : Nat) (hx : x < 2 ^ 64) (w : World) (hb : w.heap[b]? = some (.cells #[.int .u64 (x : Int)] 56 (0, 0))) :
    SeqBox Tryd.prog n 80 #[.pointer (some ⟨b, 0, none⟩)] b TabW (nodes x) w := by
  intro l J W hW hJs hJT hY h0
  have HB := Aside0.mk (hW.trans hb)
  have HJS := Aside0.mk hJs
  have HJT := Aside0.mk hJT
  have HY := Aside0.mk hY
  have H0 := Aside0.mk h0
  have HX := Aside0.mk hx
  clear hJs hJT hY h0 hW hb hx
  refine callsIn_of_wp Tryd.func80 rfl trivial ?_ rfl
  simp only [Tryd.ntmps80, List.size_toArray, List.length_cons, List.length_nil, Nat.reduceAdd, Nat.reduceSub, Array.replicate_succ, Array.replicate_zero, List.push_toArray, List.append_toArray, List.nil_append, List.cons_append]
  gi_wp2
  gi_loopg [] (nodes x).length (fun kq w' => ∃ (pre : List Nat) (y : Nat), Aside0 ((nodes y).length = kq) ∧ Aside0 (pre ++ nodes y = nodes x) ∧ Aside0 (y < 2 ^ 64) ∧ Aside0 (w'.heap[b]? = some (.cells #[.int .u64 (y : Int)] 56 (0, 0))) ∧ Aside0 (J pre w'))
  case atStart => exact ⟨[], x, ⟨rfl⟩, ⟨rfl⟩, HX, HB, H0⟩
  case round =>
    clear HB H0
    obtain ⟨pre, y, HK, HP, HL, HB, HJ⟩ := hrel
    have hc0 := (blk_cell HB.out) 0
    by_cases c1 : y = 0
    · have e1 : ((y : Int) != 0) = false := by rw [c1]; rfl
      gi_wp2
      go_end0
      have hp := HP.out
      rw [c1, nodes_zero, List.append_nil] at hp
      exact ⟨⟨_, rfl⟩, hp ▸ HJ.out⟩
    · have e1 : ((y : Int) != 0) = true := by rw [bne_iff_ne]; omega
      have hst := nodes_step y c1 HL.out
      obtain ⟨_, h64, _⟩ := ctz_bit y c1 HL.out
      have K := Aside0.mk (callsIn_wide.2 (TZ_T y (by have := HL.out; simpa using this) c1 wr (HJT.out _ _ HJ.out)) : CallsIn Fence.wide (n - 1) Tryd.prog 77 #[.int .u64 (y : Int)] wr _)
      have hand := and_pred_bit y c1 HL.out
      have hlt : y &&& (y - 1) < 2 ^ 64 := Nat.and_lt_two_pow _ (by have := HL.out; omega)
      have h1 := predU y c1 HL.out
      have h2 := andU y (y - 1) HL.out (by have := HL.out; omega)
      have hlen : (nodes (y &&& (y - 1))).length < gk := by have := HK.out; rw [hst] at this; simp at this; omega
      obtain ⟨i, hi⟩ : ∃ i, Lib.ctz 64 y = i := ⟨_, rfl⟩
      rw [hi] at hst K
      have hp2 : (pre ++ [i]) ++ nodes (y &&& (y - 1)) = nodes x := by rw [← HP.out, hst]; simp
      obtain ⟨fn, tmps, assign, body, hy, hR⟩ := HY.out pre i (nodes (y &&& (y - 1))) wr (by rw [← HP.out, hst]) HJ.out
      obtain ⟨y', hy'⟩ : ∃ y', y &&& (y - 1) = y' := ⟨_, rfl⟩
      rw [hy'] at hlt h2 hlen hp2
      have HLN := Aside0.mk hlen
      have HP2 := Aside0.mk hp2
      have HLT := Aside0.mk hlt
      have HRR := Aside0.mk hR
      clear hst h64 hand hi hlen hp2 hlt hy' hR c1
      gi_wp2_with (fail)
      refine ⟨trivial, fun h => (by cases h), ?_⟩
      refine K.out.mono ?_
      rintro e w' ⟨rfl, rfl⟩
      gi_wp2_with (fail)
      refine ⟨fun h => (by cases h), ?_⟩
      refine HRR.out.mono ?_
      rintro e W3 ⟨rfl, hj3, hb3⟩
      have HB3 := Aside0.mk (hb3.trans HB.out)
      have HJ3 := Aside0.mk hj3
      have hc3 := (blk_cell HB3.out) 0
      have hf3 := free_of HB3.out 0
      clear hj3 hb3 hc0
      gi_wp2
      gi_roundg (nodes y').length
      case measure => exact HLN.out
      case rel => exact ⟨pre ++ [i], y', ⟨rfl⟩, HP2, HLT, ⟨box_set HB3.out _⟩, ⟨HJS.out _ _ _ HJ3.out⟩⟩
end Go.Proofs.YtplhihakeodadaaDoor.Sg
