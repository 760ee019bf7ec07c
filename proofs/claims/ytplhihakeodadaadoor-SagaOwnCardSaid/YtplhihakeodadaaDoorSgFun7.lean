/- slices.Concat of two lists of ints; Reached, walked. -/
import Derived.Test.YtplhihakeodadaaDoorSgFun6
import Derived.Test.YtplhihakeodadaaDoorSgFun3
namespace Go.Proofs.YtplhihakeodadaaDoor.Sg
open Go Go.RowKit Go.Proofs.YtplhihakeodadaaDoorW.PrintWords Go.Proofs.YtplhihakeodadaaDoorW.PrintLast Go.Proofs.YtplhihakeodadaaDoorW.PrintMore
set_option linter.unusedVariables false
set_option linter.unusedSimpArgs false
/-- The first of two lists, then both. -/
def firsts (a b : List Int) : Nat → List Int
  | 0 => []
  | 1 => a
  | _ => a ++ b
set_option maxHeartbeats 8000000 in
set_option maxRecDepth 20000 in
theorem Concat_T (a b : List Int) (Aa Ab : Option Addr) (ca cb l : Nat) (w : World) (h0 : w.cell? ⟨l, 0, none⟩ = some (.slice Aa a.length ca)) (h1 : w.cell? ⟨l, 1, none⟩ = some (.slice Ab b.length cb)) (hA : Kd.C kI w Aa a.length a) (hB : Kd.C kI w Ab b.length b) (ha : a.length ≤ 1000000000) (hb : b.length ≤ 1000000000) :
    Calls Tryd.prog 51 #[.slice (some ⟨l, 0, none⟩) 2 2] w fun e w' => ∃ A c, e = .returned (.slice A (a ++ b).length c) ∧ Kd.C kI w' A (a ++ b).length (a ++ b) ∧ Below w.heap.size w w' := by
  have H0 := Aside0.mk h0
  have H1 := Aside0.mk h1
  have HA := Aside0.mk hA
  have HBB := Aside0.mk hB
  have La := Aside0.mk ha
  have Lb := Aside0.mk hb
  have K := Aside0.mk (Grow_T (a.length + b.length) (by omega) w)
  clear h0 h1 hA hB ha hb
  go_enter Tryd.func51, Tryd.ntmps51
  go_wp2
  go_loopg [3, 5, 11] 2 (fun kq v3 v5 v11 w' => ∃ (i : Nat), v11 = .int .i64 (i : Int) ∧ v3 = .int .i64 ((firsts a b i).length : Int) ∧ Aside0 (i + kq = 2) ∧ w' = w)
  case atStart => exact ⟨0, rfl, rfl, ⟨rfl⟩, rfl⟩
  case round =>
    obtain ⟨i, rfl, rfl, HJ, rfl⟩ := hrel
    have hi : i = 0 ∨ i = 1 ∨ i = 2 := by have := HJ.out; omega
    rcases hi with rfl | rfl | rfl
    · have h0 := H0.out
      have la := La.out
      simp only [firsts]
      go_wp2
      go_roundg (gk - 1)
      case measure => have := HJ.out; omega
      case rel => exact ⟨1, rfl, (by first | rfl | simp [firsts]), ⟨by have := HJ.out; omega⟩, rfl⟩
    · have h1 := H1.out
      have la := La.out
      have lb := Lb.out
      simp only [firsts]
      go_wp2
      go_roundg (gk - 1)
      case measure => have := HJ.out; omega
      case rel => exact ⟨2, rfl, (by first | rfl | simp [firsts]), ⟨by have := HJ.out; omega⟩, rfl⟩
    · simp only [firsts]
      rw [List.length_append]
      go_wp2_with (fail)
      refine K.out.mono ?_
      rintro e w1 ⟨v, rfl, hr, hb⟩
      obtain ⟨A1, c1, rfl⟩ := Kd.R_slice hr
      have HR := Aside0.mk hr
      have HB := Aside0.mk hb
      clear hr hb K
      go_wp2
      obtain ⟨wo, hwo⟩ : ∃ wo : World, wo = wr := ⟨_, rfl⟩
      subst hwo
      go_loopg [6, 8, 27] 2 (fun kq v6 v8 v27 w' => ∃ (i : Nat), v27 = .int .i64 (i : Int) ∧ Aside0 (i + kq = 2) ∧ Aside0 (Kd.R kI 3 w' wo.heap.size (fun _ => True) v6 (firsts a b i)) ∧ Aside0 (Below wo.heap.size wo w'))
      case atStart => exact ⟨0, rfl, ⟨rfl⟩, HR, HB⟩
      case round =>
        obtain ⟨i, rfl, HJ2, HR2, HB2⟩ := hrel
        have hi : i = 0 ∨ i = 1 ∨ i = 2 := by have := HJ2.out; omega
        rcases hi with rfl | rfl | rfl
        · have hc := pw_cell_below HB2.out H0.out
          have HC2 := Aside0.mk (Kd.C_below HA.out HB2.out)
          obtain ⟨A6, c6, rfl⟩ := Kd.R_slice HR2.out
          have la := La.out
          have lb := Lb.out
          simp only [firsts]
          go_wp2_with (first | ((with_reducible refine gate_builtin (b := .append) (xs := #[.tmp 31, .tmp 32]) rfl ?_); at_builtin; refine Kd.R_append_rows kI (w0 := wo) wo.heap.size rfl (.tmp 31) (.tmp 32) 22 3 (.int .i64 0) 8 rfl Tryd.underlying22 info_int rfl (by decide) (by omega) _ (firsts a b 0) a _ _ _ (fun _ => True) (fun _ => False) rfl rfl ?aO ?aR (fun _ _ h => h) (fun _ h => h.elim) ?aF ?aB ?aS ?aL ?_; (case aR => exact HC2.out); (case aB => exact HB2.out); (case aF => exact (fun _ _ => trivial)); (case aO => exact HR2.out); (case aS => exact below_size HB2.out); (case aL => simp only [firsts, List.length_nil]; omega); intro v140 w5 ho hb hg hat; have HR3 := Aside0.mk ho; have HB3 := Aside0.mk hb; obtain ⟨A7, c7, rfl⟩ := Kd.R_slice ho; clear ho hb hg hat))
          go_roundg (gk - 1)
          case measure => have := HJ2.out; omega
          case rel => exact ⟨1, rfl, ⟨by have := HJ2.out; omega⟩, ⟨by have := HR3.out; rw [List.length_append] at this; exact this⟩, HB3⟩
        · have hc := pw_cell_below HB2.out H1.out
          have HC2 := Aside0.mk (Kd.C_below HBB.out HB2.out)
          obtain ⟨A6, c6, rfl⟩ := Kd.R_slice HR2.out
          have la := La.out
          have lb := Lb.out
          simp only [firsts]
          go_wp2_with (first | ((with_reducible refine gate_builtin (b := .append) (xs := #[.tmp 31, .tmp 32]) rfl ?_); at_builtin; refine Kd.R_append_rows kI (w0 := wo) wo.heap.size rfl (.tmp 31) (.tmp 32) 22 3 (.int .i64 0) 8 rfl Tryd.underlying22 info_int rfl (by decide) (by omega) _ (firsts a b 1) b _ _ _ (fun _ => True) (fun _ => False) rfl rfl ?aO ?aR (fun _ _ h => h) (fun _ h => h.elim) ?aF ?aB ?aS ?aL ?_; (case aR => exact HC2.out); (case aB => exact HB2.out); (case aF => exact (fun _ _ => trivial)); (case aO => exact HR2.out); (case aS => exact below_size HB2.out); (case aL => simp only [firsts, List.length_nil]; omega); intro v140 w5 ho hb hg hat; have HR3 := Aside0.mk ho; have HB3 := Aside0.mk hb; obtain ⟨A7, c7, rfl⟩ := Kd.R_slice ho; clear ho hb hg hat))
          go_roundg (gk - 1)
          case measure => have := HJ2.out; omega
          case rel => exact ⟨2, rfl, ⟨by have := HJ2.out; omega⟩, ⟨by have := HR3.out; rw [List.length_append] at this; exact this⟩, HB3⟩
        · obtain ⟨A6, c6, rfl⟩ := Kd.R_slice HR2.out
          go_wp2
          go_ret
          exact ⟨A6, c6, rfl, (Kd.R_reads' HR2.out).2.2, HB2.out⟩
set_option maxHeartbeats 8000000 in
set_option maxRecDepth 20000 in
theorem Reached_T (V : SV) (s : SS) (w : World) (h : StC w V s) (ho : s.op.length ≤ 1000000000) (hd : s.dn.length ≤ 1000000000) (hr : ∀ k ∈ s.op ++ s.dn, 0 ≤ k ∧ k < 64) :
    Calls Tryd.prog 29 #[.agg (stv V s)] w fun e w' => e = .returned (.int .u64 ((reached s : Nat) : Int)) ∧ Below w.heap.size w w' := by
  obtain ⟨Af, cf, At, ct, As, cs, Ab, cb, Ao, co, Ad, cd, hst, _, _, hop, hdn, _⟩ := h.opened
  rw [hst]
  obtain ⟨num, ph, p, op, dn⟩ := s
  dsimp only at ho hd hop hdn hr ⊢
  clear hst h
  obtain ⟨o, hO⟩ : ∃ o, Obj.cells #[.int .i64 num, .int .i64 ph, .slice Af p.1.length cf, .slice At p.2.1.length ct, .slice As p.2.2.1.length cs, .slice Ab p.2.2.2.length cb, .slice Ao op.length co, .slice Ad dn.length cd] 34 = o := ⟨_, rfl⟩
  have hb := below_alloc (below_alloc (Below.refl w.heap.size w) o) (.cells #[.slice Ao op.length co, .slice Ad dn.length cd] 22)
  have hl := heap_last (w.alloc o) (.cells #[.slice Ao op.length co, .slice Ad dn.length cd] 22)
  rw [World.size_alloc] at hl
  obtain ⟨W, hW⟩ : ∃ W, (w.alloc o).alloc (.cells #[.slice Ao op.length co, .slice Ad dn.length cd] 22) = W := ⟨_, rfl⟩
  rw [hW] at hb hl
  subst hO
  have HB := Aside0.mk hb
  have K := Aside0.mk (Concat_T op dn Ao Ad co cd (w.heap.size + 1) W ((blk_cell hl) 0) ((blk_cell hl) 1) (Kd.C_below hop hb) (Kd.C_below hdn hb) ho hd)
  have HLO := Aside0.mk ho
  have HLD := Aside0.mk hd
  have HR := Aside0.mk hr
  obtain ⟨ks, hks⟩ : ∃ ks, op ++ dn = ks := ⟨_, rfl⟩
  have HLK : Aside0 (ks.length ≤ 2000000000) := ⟨by rw [← hks, List.length_append]; omega⟩
  rw [hks] at K HR
  have HKS := Aside0.mk hks
  clear hb hl hop hdn ho hd hr hks
  go_enter Tryd.func29, Tryd.ntmps29
  go_wp2_with (fail)
  refine K.out.mono ?_
  rintro e w1 ⟨A1, c1, rfl, hC, hb⟩
  have HC := Aside0.mk hC
  have HB1 := Aside0.mk (below_step HB.out hb)
  clear hC hb hW K
  go_wp2
  go_loopg [3, 5, 13] ks.length (fun kq v3 v5 v13 w' => ∃ (i : Nat), v13 = .int .i64 (i : Int) ∧ v3 = .int .u64 ((maskOf (ks.take i) : Nat) : Int) ∧ Aside0 (i + kq = ks.length) ∧ w' = w1)
  case atStart => exact ⟨0, rfl, rfl, ⟨by omega⟩, rfl⟩
  case round =>
    obtain ⟨i, rfl, rfl, HJ, rfl⟩ := hrel
    by_cases c2 : i < ks.length
    · have e1 : decide (i < ks.length) = true := decide_eq_true c2
      have HE5 : Aside0 (wrap64 ((i : Int) + 1) = ((i + 1 : Nat) : Int)) := ⟨by have := HLK.out; unfold wrap64; omega⟩
      obtain ⟨ad, ea, hx⟩ := at_int HC.out i c2
      cases ea
      obtain ⟨x, hxx⟩ : ∃ x, ks.getD i 0 = x := ⟨_, rfl⟩
      have hm : x ∈ ks := by rw [← hxx]; exact getD_mem c2 _
      obtain ⟨p1, p2⟩ := HR.out x hm
      rw [hxx] at hx
      have HX := Aside0.mk hxx
      have HI := Aside0.mk c2
      obtain ⟨x, rfl⟩ := Int.eq_ofNat_of_zero_le p1
      have hx64 : x < 64 := by omega
      have hml := maskOf_lt (ks.take i) 64 (fun k hk => by have := HR.out k (List.mem_of_mem_take hk); omega)
      have s0 : min x 64 = x := by omega
      have s1 := shlU x hx64
      have s2 := orPow (maskOf (ks.take i)) x hml hx64
      obtain ⟨m, hmm⟩ : ∃ m, maskOf (ks.take i) = m := ⟨_, rfl⟩
      rw [hmm] at s2 ⊢
      have HM : Aside0 (maskOf (ks.take (i + 1)) = m ||| 2 ^ x) := ⟨by rw [take_snoc' c2 0, maskOf_snoc, hmm, hxx, Int.toNat_natCast]⟩
      clear hxx hm p1 p2 hml hmm
      go_wp2
      go_roundg (gk - 1)
      case measure => have := HJ.out; have := HI.out; omega
      case rel => exact ⟨i + 1, (by first | exact congrArg _ HE5.out | rfl), by rw [HM.out], ⟨by have := HJ.out; have := HI.out; omega⟩, rfl⟩
    · have e1 : decide (i < ks.length) = false := decide_eq_false c2
      have HI := Aside0.mk c2
      go_wp2
      go_ret
      refine ⟨?_, HB1.out⟩
      unfold reached
      dsimp only
      have hm : maskOf (ks.take i) = maskOf ks := by rw [List.take_of_length_le (by have := HI.out; omega)]
      rw [HKS.out, ← hm]
      rfl
end Go.Proofs.YtplhihakeodadaaDoor.Sg
