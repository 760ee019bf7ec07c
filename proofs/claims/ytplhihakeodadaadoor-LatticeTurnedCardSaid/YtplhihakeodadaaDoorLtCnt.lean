/- lattice: count, walked. -/
import Derived.Test.YtplhihakeodadaaDoorLtCntI
import Derived.Sort.CutIn
import Derived.Test.YtplhihakeodadaaDoorWRepsOne
namespace Go.Proofs.YtplhihakeodadaaDoor.Sg
open Go Go.RowKit Go.MapKept Go.ChangeMaps Go.Shelf Go.Proofs.YtplhihakeodadaaDoor.IMap Go.Proofs.YtplhihakeodadaaDoorW.PrintWords Go.Proofs.YtplhihakeodadaaDoorW.PrintLast Go.Proofs.YtplhihakeodadaaDoorW.PrintMore
set_option linter.unusedVariables false
set_option linter.unusedSimpArgs false
attribute [local go_sem] Oper.semAt_some
set_option maxHeartbeats 32000000 in
set_option maxRecDepth 20000 in
theorem Count_T (N : Nat) (E : List Stp) (A : Option Addr) (c : Nat) (w : World) (hT : TabW w) (h : Kd.C kP w A E.length E) (hR : rightG N E = true) (ho : orderErr N E = 0) (hg : okCount E N = true) :
    Calls Tryd.prog 52 #[.agg #[.int .i64 (N : Int), .slice A E.length c]] w fun e w' => ∃ m, e = .returned (.tuple #[.map (some m), .int .i64 0]) ∧ IM .u64 w' m (encW (countM E N)) ∧ w.heap.size ≤ m ∧ Below w.heap.size w w' := by
  obtain ⟨_, hNN, hEl, _⟩ := rightG_in hR
  have hb0 := below_alloc (Below.refl w.heap.size w) (.cells #[.int .i64 (N : Int), .slice A E.length c] 62)
  have HX := Aside0.mk (heap_last w (.cells #[.int .i64 (N : Int), .slice A E.length c] 62))
  have K := Aside0.mk (Order_T (N : Int) E A c (w.alloc (.cells #[.int .i64 (N : Int), .slice A E.length c] 62)) (hT.below hb0) (Kd.C_below h hb0) (by omega) (by omega))
  rw [ho] at K
  have HB := Aside0.mk hb0
  have HT := Aside0.mk hT
  have HC0 := Aside0.mk h
  have HRG := Aside0.mk hR
  have HN : Aside0 (N ≤ 64) := ⟨by omega⟩
  have HG := Aside0.mk hg
  have h0 := (blk_cell HX.out) 0
  have h1 := (blk_cell HX.out) 1
  clear hb0 h hT hR hNN hEl ho hg
  refine callsIn_wide.1 (callsIn_of_wp_marks (n := 9) Tryd.func52 rfl trivial ?_ rfl)
  simp only [Tryd.ntmps52, List.size_toArray, List.length_cons, List.length_nil, Nat.reduceAdd, Nat.reduceSub, Array.replicate_succ, Array.replicate_zero, List.push_toArray, List.append_toArray, List.nil_append, List.cons_append]
  refine wpIn_wide.2 ?_
  go_wp2_with (fail)
  refine K.out.mono ?_
  rintro e w1 ⟨v1, rfl, hb⟩
  have HB1 := Aside0.mk (below_step HB.out hb)
  have HX1 := Aside0.mk (blk_below HX.out hb)
  clear K hb h0 h1
  have hmm := @run_makeMap Tryd.prog
  have HM0 := Aside0.mk (IMap.IM.made (q := .u64) w1)
  have HBA := Aside0.mk (below_alloc HB1.out (.map #[] 0))
  have HXA := Aside0.mk (blk_alloc HX1.out (.map #[] 0))
  have HSZ : Aside0 (w.heap.size < w1.heap.size) := ⟨blk_lt HX1.out⟩
  go_wp2_with (first
    | (refine at_ins (P := Tryd.prog) (q := .u64) rfl (.tmp 26) (.const (.int .u64 0)) (.const (.int .i64 1)) 93 rfl Tryd.underlying93 Tryd.underlying56 rfl HM0.out 0 (.int .i64 1) rfl rfl ?_; intro ob1 h1; refine Halt.out ?_))
  unfold Halt
  have HM1 := Aside0.mk h1
  have HX1' := Aside0.mk ((IMap.heap_set_other ob1 (Nat.ne_of_lt HSZ.out) _).trans HXA.out)
  have HB1' := Aside0.mk (IMap.below_set HBA.out (Nat.le_of_lt HSZ.out) ob1)
  have HZ1 : Aside0 ((ChangeMaps.setBlock (w1.alloc (.map #[] 0)) w1.heap.size ob1).heap.size = w1.heap.size + 1) := ⟨by rw [IMap.size_set, World.size_alloc]⟩
  obtain ⟨W1, hW1⟩ : ∃ W, ChangeMaps.setBlock (w1.alloc (.map #[] 0)) w1.heap.size ob1 = W := ⟨_, rfl⟩
  rw [hW1] at HM1 HX1' HB1' HZ1 ⊢
  clear h1 hW1 HM0 hmm
  go_upto_region 5 with (fail)
  obtain ⟨m, hm⟩ : ∃ m, w1.heap.size = m := ⟨_, rfl⟩
  rw [hm] at HM1 HZ1 HSZ ⊢
  have hb2 := below_alloc (Below.refl W1.heap.size W1) (.cells #[.map (some m)] 93)
  have HM2 := Aside0.mk (HM1.out.below hb2)
  have HB2 := Aside0.mk (below_step HB1'.out hb2)
  have HX2 := Aside0.mk (blk_below HX1'.out hb2)
  have HW2 := Aside0.mk (heap_last W1 (.cells #[.map (some m)] 93))
  obtain ⟨W2, hW2⟩ : ∃ W, W1.alloc (.cells #[.map (some m)] 93) = W := ⟨_, rfl⟩
  obtain ⟨mb, hmb⟩ : ∃ k, W1.heap.size = k := ⟨_, rfl⟩
  rw [hW2] at HM2 HB2 HX2 HW2 ⊢
  have HSW := Aside0.mk HB2.out.size
  rw [hmb] at HW2 ⊢
  clear hb2 HM1 HB1' HX1' HZ1 hW2 hmb hm
  go_wp2_with (first
    | ((with_reducible refine gate_dst (N := 28) rfl ?_); refine Kd.R_lit kU W2.heap.size 56 ?hg (N := 28) ?hd (xs := [(0 : Int)]) (inner := [.int .u64 0]) (ok := fun _ => True) (okp := fun _ => True) ?hr ?hp (fun _ hk => hk) trivial (Below.refl _ _) (Nat.le_refl _) (by simp) ?_; (case hd => rfl); (case hg => rfl); (case hr => first | (go_simp; done) | (go_simp; rfl)); (case hp => exact (Reps.one (show Kd.M kU _ _ _ (0 : Int) [.int .u64 0] from rfl) (Reps.none _ _))); intro v43 w7 ho hb hg_ hnew_; refine Halt.out ?_))
  unfold Halt
  have HR7 := Aside0.mk ho
  have HM7 := Aside0.mk (HM2.out.below hb)
  have HB7 := Aside0.mk (below_step HB2.out hb)
  have HX7 := Aside0.mk (blk_below HX2.out hb)
  have HW7 := Aside0.mk (blk_below HW2.out hb)
  clear ho hb hg_ hnew_ HM2 HB2 HX2 HW2
  go_upto_region 7 with (fail)
  have hb2 := below_alloc (Below.refl w7.heap.size w7) (.cells #[.bool false] 4)
  have HM8 := Aside0.mk (HM7.out.below hb2)
  have HB8 := Aside0.mk (below_step HB7.out hb2)
  have HX8 := Aside0.mk (blk_below HX7.out hb2)
  have HW8 := Aside0.mk (blk_below HW7.out hb2)
  have HR8 := Aside0.mk (Kd.R_below HR7.out hb2)
  have HY8 := Aside0.mk (heap_last w7 (.cells #[.bool false] 4))
  obtain ⟨W8, hW8⟩ : ∃ W, w7.alloc (.cells #[.bool false] 4) = W := ⟨_, rfl⟩
  obtain ⟨bb, hbb⟩ : ∃ k, w7.heap.size = k := ⟨_, rfl⟩
  rw [hW8] at HM8 HB8 HX8 HW8 HR8 HY8 ⊢
  rw [hbb] at HY8 ⊢
  have h0 := (blk_cell HX8.out) 0
  clear hb2 HM7 HB7 HX7 HW7 HR7 hW8 hbb
  obtain ⟨A28, c28, rfl⟩ := Kd.R_slice HR8.out
  go_wp2_with (fail)
  obtain ⟨v28, hv28⟩ : ∃ v, Value.slice A28 [(0 : Int)].length c28 = v := ⟨_, rfl⟩
  refine wp_loop_ghost_k (fun kq a' w' => ∃ (ds : List Deferred) (u7 u9 u11 u12 u13 u31 u32 u33 u34 u35 u36 u37 u38 u39 u40 u41 u42 u43 u44 u45 u46 u77 u78 u79 u80 u81 u82 : Value), (∃ (i : Nat) (L : Ent) (row : List Int) (A7 : Option Addr) (c7 : Nat), u7 = .slice A7 row.length c7 ∧ u31 = .int .i64 (i : Int) ∧ Aside0 (i + kq = N) ∧ Aside0 (Mk w.heap.size w'.heap.size ds w') ∧ Aside0 (IM .u64 w' m (encW L)) ∧ Aside0 (Below w.heap.size w w') ∧ Aside0 (w'.heap[w.heap.size]? = some (.cells #[.int .i64 (N : Int), .slice A E.length c] 62 (0, 0))) ∧ Aside0 (w'.heap[mb]? = some (.cells #[.map (some m)] 93 (0, 0))) ∧ Aside0 (w'.heap[bb]? = some (.cells #[.bool false] 4 (0, 0))) ∧ Aside0 (Kd.R kU 56 w' w.heap.size (fun _ => True) (.slice A7 row.length c7) row) ∧ Aside0 (okRun E N kq L row = true) ∧ Aside0 (runC E N kq L row = runC E N N [(0, 1)] [0])) ∧ a' = ({ tmps := #[(.agg #[.int .i64 (N : Int), .slice A E.length c]), (.pointer (some ⟨w.heap.size, 0, none⟩)), (.map none), (.int .i64 0), (v1), (.int .i64 0), (.pointer (some ⟨mb, 0, none⟩)), (u7), (.pointer (some ⟨bb, 0, none⟩)), (u9), undef, (u11), (u12), (u13), undef, undef, undef, undef, (.tuple #[v1, .int .i64 0]), (.agg #[.int .i64 (N : Int), .slice A E.length c]), (.tuple #[v1, .int .i64 0]), (v1), (.int .i64 0), (.int .i64 0), (.bool false), undef, (.map (some m)), (.map (some m)), (v28), (.pointer (some ⟨w.heap.size, 0, none⟩)), (.int .i64 (N : Int)), (u31), (u32), (u33), (u34), (u35), (u36), (u37), (u38), (u39), (u40), (u41), (u42), (u43), (u44), (u45), (u46), undef, undef, undef, undef, undef, undef, undef, undef, undef, undef, undef, undef, undef, undef, undef, undef, undef, undef, undef, undef, undef, undef, undef, undef, undef, undef, undef, undef, undef, undef, (u77), (u78), (u79), (u80), (u81), (u82), undef, undef, undef, undef, undef, undef, undef], defers := ds } : Act)) N ?start ?round
  case start =>
    (repeat apply Exists.intro)
    refine ⟨⟨0, [(0, 1)], [0], A28, c28, rfl, rfl, ⟨by omega⟩, ⟨Mk.nil⟩, HM8, HB8, HX8, HW8, HY8, ⟨Kd.R_lower HR8.out HSW.out⟩, HG, ⟨rfl⟩⟩, ?_⟩
    rw [← hv28]
    rfl
  case round =>
    clear HM8 HB8 HX8 HW8 HY8 HR8 h0 HG hv28
    rintro gk a wr ⟨ds, u7, u9, u11, u12, u13, u31, u32, u33, u34, u35, u36, u37, u38, u39, u40, u41, u42, u43, u44, u45, u46, u77, u78, u79, u80, u81, u82, ⟨i, L, row, A7, c7, rfl, rfl, HI, HK, HM, HB, HX, HW, HY, HR, HO, HC⟩, rfl⟩
    intro _ _ _ _
    by_cases ck : gk = 0
    · subst ck
      have e1 : ¬ i < N := by have := HI.out; omega
      have hy0 := (blk_cell HY.out) 0
      have hw0 := (blk_cell HW.out) 0
      have hL : L = countM E N := congrArg Prod.fst HC.out
      have HL := Aside0.mk hL
      clear hL
      go_wp2_with (fail)
      refine leaves_marks (v := .tuple #[.map (some m), .int .i64 0]) w.heap.size (fun W => IM .u64 W m (encW (countM E N)) ∧ Below w.heap.size w W) ?_ ?_ ?_ ds _ wr HK.out ⟨HL.out ▸ HM.out, HB.out⟩
      · rintro r W o hr ho ⟨g1, g2⟩
        refine ⟨g1.move (World.putObj_heap_other (fun e => ?_)), g2.grown (grownBy_putObj' W r _) g2.size (fun k e => by cases e; exact hr)⟩
        obtain ⟨es, clock, hb, _⟩ := g1
        rw [e, ho] at hb
        cases hb
      · intro W _
        simp [results, Tryd.results52, go_sem]
      · rintro W ⟨g1, g2⟩
        exact ⟨m, rfl, g1, Nat.le_of_lt HSZ.out, g2⟩
    · have e1 : i < N := by have := HI.out; omega
      have HK0 : Aside0 (0 < gk) := ⟨by omega⟩
      clear ck
      have hb2 := below_alloc (Below.refl wr.heap.size wr) (.cells #[.slice none 0 0] 60)
      have HM9 := Aside0.mk (HM.out.below hb2)
      have HB9 := Aside0.mk (below_step HB.out hb2)
      have HX9 := Aside0.mk (blk_below HX.out hb2)
      have HW9 := Aside0.mk (blk_below HW.out hb2)
      have HY9 := Aside0.mk (blk_below HY.out hb2)
      have HN9 := Aside0.mk (heap_last wr (.cells #[.slice none 0 0] 60))
      have HK9 := Aside0.mk ((HK.out.below hb2).mono hb2.size)
      have HR9 := Aside0.mk (Kd.R_below (Kd.R_mono (Kd.R_bound HR.out) (fun k hk => hk.2.2.1)) hb2)
      have HXL := Aside0.mk (blk_lt HX.out)
      have HWL := Aside0.mk (blk_lt HW.out)
      have HYL := Aside0.mk (blk_lt HY.out)
      have HML := Aside0.mk HM.out.lt
      clear hb2
      go_wp2_with (fail)
      obtain ⟨W9, hW9⟩ : ∃ W, wr.alloc (.cells #[.slice none 0 0] 60) = W := ⟨_, rfl⟩
      obtain ⟨bn, hbn⟩ : ∃ k, wr.heap.size = k := ⟨_, rfl⟩
      have HBN : Aside0 (w.heap.size ≤ bn) := ⟨hbn ▸ HB.out.size⟩
      rw [hW9] at HM9 HB9 HX9 HW9 HY9 HN9 HK9 HR9 ⊢
      rw [hbn] at HN9 HR9 HXL HWL HYL HML ⊢
      clear HM HB HX HW HY HK HR hW9 hbn
      refine wp_loop_ghost_k (fun kq a' w' => ∃ (ds : List Deferred) (u11 u12 u13 u35 u36 u37 u38 u39 u40 u41 u42 u43 u44 u45 u46 u77 u78 u79 u80 : Value), (∃ (j : Nat) (st : Ent × List Int) (A9 : Option Addr) (c9 : Nat), u35 = .int .i64 (j : Int) ∧ Aside0 (j + kq = row.length) ∧ Aside0 (Mk w.heap.size w'.heap.size ds w') ∧ Aside0 (IM .u64 w' m (encW st.1)) ∧ Aside0 (Kp m bn W9 w') ∧ Aside0 (Below w.heap.size w w') ∧ Aside0 (w'.heap[bn]? = some (.cells #[.slice A9 st.2.length c9] 60 (0, 0))) ∧ Aside0 (Kd.R kU 56 w' w.heap.size (fun k => bn < k) (.slice A9 st.2.length c9) st.2) ∧ Aside0 (okRow E N (row.drop j) st = true) ∧ Aside0 ((row.drop j).foldl (rowS E N) st = levelS E N L row) ∧ Aside0 (st.2.length ≤ st.1.length)) ∧ a' = ({ tmps := #[(.agg #[.int .i64 (N : Int), .slice A E.length c]), (.pointer (some ⟨w.heap.size, 0, none⟩)), (.map none), (.int .i64 0), (v1), (.int .i64 0), (.pointer (some ⟨mb, 0, none⟩)), (.slice A7 row.length c7), (.pointer (some ⟨bb, 0, none⟩)), (.pointer (some ⟨bn, 0, none⟩)), undef, (u11), (u12), (u13), undef, undef, undef, undef, (.tuple #[v1, .int .i64 0]), (.agg #[.int .i64 (N : Int), .slice A E.length c]), (.tuple #[v1, .int .i64 0]), (v1), (.int .i64 0), (.int .i64 0), (.bool false), undef, (.map (some m)), (.map (some m)), (v28), (.pointer (some ⟨w.heap.size, 0, none⟩)), (.int .i64 (N : Int)), (.int .i64 (i : Int)), (.bool true), (.slice A7 row.length c7), (.int .i64 (row.length : Int)), (u35), (u36), (u37), (u38), (u39), (u40), (u41), (u42), (u43), (u44), (u45), (u46), undef, undef, undef, undef, undef, undef, undef, undef, undef, undef, undef, undef, undef, undef, undef, undef, undef, undef, undef, undef, undef, undef, undef, undef, undef, undef, undef, undef, undef, undef, (u77), (u78), (u79), (u80), (u81), (u82), undef, undef, undef, undef, undef, undef, undef], defers := ds } : Act)) row.length ?startI ?roundI
      case startI =>
        (repeat apply Exists.intro)
        refine ⟨⟨0, (L, []), none, 0, rfl, ⟨by omega⟩, HK9, HM9, ⟨Kp.refl⟩, HB9, HN9, ⟨Kd.R_nil _ _ _ _ _⟩, ⟨?_⟩, ⟨rfl⟩, ⟨Nat.zero_le _⟩⟩, rfl⟩
        have ho := HO.out
        obtain ⟨k, rfl⟩ : ∃ k, gk = k + 1 := ⟨gk - 1, by have := HK0.out; omega⟩
        simp only [okRun, Bool.and_eq_true] at ho
        exact ho.1
      case roundI =>
        rename_i J0 K0 hJ0 hK0
        rintro hk a wi ⟨ds, u11, u12, u13, u35, u36, u37, u38, u39, u40, u41, u42, u43, u44, u45, u46, u77, u78, u79, u80, ⟨j, st, A9, c9, rfl, HJ, HK, HM, HP, HB, HQ, HR, HOR, HF, HSL⟩, rfl⟩
        intro _ _ _ _
        by_cases cj : hk = 0
        · subst cj
          have e2 : ¬ j < row.length := by have := HJ.out; omega
          have hn0 := (blk_cell HQ.out) 0
          have HE5 : Aside0 (wrap64 ((i : Int) + 1) = ((i + 1 : Nat) : Int)) := ⟨by have := HI.out; have := HN.out; unfold wrap64; omega⟩
          have hst : st = levelS E N L row := by
            have := HF.out
            have e3 : row.drop j = [] := List.drop_eq_nil_of_le (by omega)
            rw [e3] at this
            exact this
          have HST := Aside0.mk hst
          clear hst
          go_wp2_with (fail)
          go_roundg (gk - 1)
          case measure => have := HK0.out; omega
          case rel =>
            obtain ⟨k, hk⟩ : ∃ k, gk = k + 1 := ⟨gk - 1, by have := HK0.out; omega⟩
            subst hk
            refine ⟨i + 1, st.1, st.2, A9, c9, rfl, (by first | exact congrArg _ HE5.out | rfl), ⟨by have := HI.out; omega⟩, ⟨HK.out⟩, HM, HB, ⟨HP.out.cells HM9.out HX9.out HXL.out⟩, ⟨HP.out.cells HM9.out HW9.out HWL.out⟩, ⟨HP.out.cells HM9.out HY9.out HYL.out⟩, ⟨Kd.R_mono HR.out (fun _ _ => trivial)⟩, ⟨?_⟩, ⟨?_⟩⟩
            · have ho := HO.out
              simp only [okRun, Bool.and_eq_true] at ho
              rw [HST.out]
              exact ho.2
            · have hc := HC.out
              rw [HST.out]
              exact hc
        · have e2 : j < row.length := by have := HJ.out; omega
          have HKJ : Aside0 (0 < hk) := ⟨by omega⟩
          clear cj
          obtain ⟨_, _, hC⟩ := Kd.R_reads' (HP.out.R HM9.out HR9.out (fun k h _ => h))
          have HLR := Aside0.mk hC.2.1
          obtain ⟨ad, ea, hx⟩ := at_u64 hC j e2
          cases ea
          have hdr : row.drop j = row.getD j 0 :: row.drop (j + 1) := by
            rw [List.drop_eq_getElem_cons e2]
            simp [e2]
          obtain ⟨s0, hs0⟩ : ∃ s, row.getD j 0 = s := ⟨_, rfl⟩
          rw [hs0] at hx hdr
          have ho := HOR.out
          have hf := HF.out
          rw [hdr] at ho hf
          rw [List.foldl_cons] at hf
          simp only [okRow, Bool.and_eq_true, decide_eq_true_eq] at ho
          obtain ⟨⟨⟨⟨hs1, hs2⟩, hon⟩, hol⟩, hor⟩ := ho
          obtain ⟨s, rfl⟩ : ∃ s : Nat, s0 = (s : Int) := ⟨s0.toNat, by omega⟩
          rw [Int.toNat_natCast] at hon
          have hsN : s < 2 ^ N := by exact_mod_cast hs2
          have hs64 : s < 2 ^ 64 := Nat.lt_of_lt_of_le hsN (Nat.pow_le_pow_right (by decide) HN.out)
          have hin : insideE N E s = 0 := by
            unfold insideE
            rw [HRG.out, if_pos rfl, if_neg]
            have := Lib.bitLen_le s N HN.out hsN
            omega
          have hxx := Aside0.mk hx
          have hb3 := below_alloc (Below.refl wi.heap.size wi) (.cells #[.int .u64 (s : Int)] 56)
          have HMA := Aside0.mk (HM.out.below hb3)
          have HBA := Aside0.mk (below_step HB.out hb3)
          have HPA := Aside0.mk (HP.out.below hb3 (Nat.le_trans (Nat.le_of_lt (blk_lt HN9.out)) HP.out.1))
          have HQA := Aside0.mk (blk_below HQ.out hb3)
          have HRA := Aside0.mk (Kd.R_below (Kd.R_bound HR.out) hb3)
          have HKA := Aside0.mk (HK.out.below hb3)
          have HSA := Aside0.mk (heap_last wi (.cells #[.int .u64 (s : Int)] 56))
          have HXA := Aside0.mk (HPA.out.cells HM9.out HX9.out HXL.out)
          have K := Aside0.mk (Ready_T N E A c s (wi.alloc (.cells #[.int .u64 (s : Int)] 56)) hs64 (Kd.C_below HC0.out HBA.out) HRG.out hin)
          have g0 := (blk_cell HXA.out) 0
          have g1 := (blk_cell HXA.out) 1
          have g2 := (blk_cell HSA.out) 0
          have HON := Aside0.mk hon
          have HOL := Aside0.mk hol
          have HOR2 := Aside0.mk hor
          have HF2 := Aside0.mk hf
          have HSN := Aside0.mk hsN
          have HSLL := Aside0.mk hs64
          clear hon hol hor hf hsN hs64 hb3 hC hs0 hdr hs1 hs2 hin HOR HF HM HB HP HQ HR HK
          go_wp2_with (fail)
          refine K.out.mono ?_
          rintro e wb ⟨rfl, hb⟩
          obtain ⟨bs, hbs⟩ : ∃ b, wi.heap.size = b := ⟨_, rfl⟩
          have HBS : Aside0 (bn < bs) := ⟨hbs ▸ (blk_lt HQA.out |> fun h => by rw [World.size_alloc] at h; exact Nat.lt_of_le_of_ne (Nat.le_of_lt_succ h) (fun e => by have h1 := HQA.out; rw [e, HSA.out] at h1; cases h1))⟩
          have hra := HRA.out
          have hsa := HSA.out
          rw [hbs] at hra hsa
          have HMB := Aside0.mk (HMA.out.below hb)
          have HBB := Aside0.mk (below_step HBA.out hb)
          have HQB := Aside0.mk (blk_below HQA.out hb)
          have HSB := Aside0.mk (blk_below hsa hb)
          have HRB := Aside0.mk (Kd.R_below hra hb)
          have HKB := Aside0.mk (HKA.out.below hb)
          have HPB := Aside0.mk (HPA.out.below hb (Nat.le_of_lt (blk_lt HQA.out)))
          have HSZB := Aside0.mk hb.size
          clear K hb HMA HBA HQA HSA HRA HKA HPA HXA g0 g1 g2 hra hsa
          go_wp2_with (fail)
          refine (members_T _ _).mono ?_
          rintro e wc ⟨rfl, rfl⟩
          have hxl : accR E s N < 2 ^ 64 := Nat.lt_of_lt_of_le (accR_lt E s N) (Nat.pow_le_pow_right (by decide) HN.out)
          have hrs : rowS E N st (s : Int) = (nodes (accR E s N)).foldl (addT s) st := rfl
          obtain ⟨x, hx1⟩ : ∃ x, accR E s N = x := ⟨_, rfl⟩
          have hon := HON.out
          have hol := HOL.out
          have hf := HF2.out
          have hor := HOR2.out
          rw [hrs] at hol hf hor
          rw [hx1] at hon hol hf hor hxl ⊢
          have HOR3 := Aside0.mk hor
          clear hor HOR2
          have hb4 := below_alloc (Below.refl wb.heap.size wb) (.cells #[.int .u64 (x : Int)] 56)
          have HMC := Aside0.mk (HMB.out.below hb4)
          have HBC := Aside0.mk (below_step HBB.out hb4)
          have HQC := Aside0.mk (blk_below HQB.out hb4)
          have HSC := Aside0.mk (blk_below HSB.out hb4)
          have HRC := Aside0.mk (Kd.R_below (Kd.R_bound HRB.out) hb4)
          have HKC := Aside0.mk (HKB.out.bound.below hb4)
          have HPC := Aside0.mk (HPB.out.below hb4 (Nat.le_of_lt (blk_lt HQB.out)))
          have HIC := Aside0.mk (heap_last wb (.cells #[.int .u64 (x : Int)] 56))
          have HSB2 := Aside0.mk (blk_lt HSB.out)
          have HON2 := Aside0.mk hon
          have HOL2 := Aside0.mk hol
          have HF3 := Aside0.mk hf
          have HXL2 := Aside0.mk hxl
          clear hon hol hf hxl hrs hx1 hb4 HON HOL HF2 HMB HBB HQB HSB HRB HKB HPB
          go_wp2_with (fail)
          obtain ⟨b, hb⟩ : ∃ k, wb.heap.size = k := ⟨_, rfl⟩
          obtain ⟨WC, hWC⟩ : ∃ W, wb.alloc (.cells #[.int .u64 (x : Int)] 56) = W := ⟨_, rfl⟩
          have HWZ : WC.heap.size = b + 1 := by rw [← hWC, World.size_alloc, hb]
          rw [hWC] at HMC HBC HQC HSC HRC HKC HPC HIC ⊢
          rw [hb] at HRC HIC HSB2 HKC ⊢
          clear hWC hb
          have HWL2 : Aside0 (WC.heap.size = b + 1) := ⟨HWZ⟩
          have HMN : Aside0 (m ≠ b) := ⟨fun e => HMC.out.ne HIC.out e⟩
          have HML2 : Aside0 (m < WC.heap.size) := ⟨HMC.out.lt⟩
          refine (wpIn_wide (n := 9)).1 ?_
          refine wp_rangeBox (by decide) (gf := 80) (lb := #[.pointer (some ⟨b, 0, none⟩)]) rfl ?eg (b := b) (G := TabW) (xs := nodes x) (members_seq 8 (by decide) b x HXL2.out WC HIC.out) (by rw [HWL2.out]; exact Nat.lt_succ_self _) rfl
            (RI w W9 m bn bs b b ds s st) (RI.own HML2.out (by rw [HWL2.out]; have := HBS.out; have := HSB2.out; omega) (by rw [HWL2.out]; have := HSB2.out; omega) (by rw [HWL2.out]; have := HSB2.out; have := HBS.out; have := HBN.out; omega) (by rw [HWL2.out]; omega))
            (fun pre W v h => RI.setB (Ne.symm HMN.out) (Nat.lt_trans HBS.out HSB2.out) (Nat.ne_of_gt HSB2.out) (by have := HSB2.out; have := HBS.out; have := HBN.out; omega) (Nat.le_refl _) pre W v h)
            (fun pre W h => HT.out.below (h.choose_spec.choose_spec.2.2.1)) ⟨A9, c9, HMC.out, HPC.out, HBC.out, HQC.out, Kd.R_mono HRC.out (fun k hk => ⟨hk.1.1, Nat.ne_of_lt hk.1.2.2.1, Nat.ne_of_lt hk.2.2.1⟩), HSC.out, HKC.out, HSL.out, (by rw [HWL2.out]; exact Nat.lt_succ_self _)⟩ (fun (y : Nat) => ({ tmps := #[(.agg #[.int .i64 (N : Int), .slice A E.length c]), (.pointer (some ⟨w.heap.size, 0, none⟩)), (.map none), (.int .i64 0), (v1), (.int .i64 0), (.pointer (some ⟨mb, 0, none⟩)), (.slice (some ad) row.length c7), (.pointer (some ⟨bb, 0, none⟩)), (.pointer (some ⟨bn, 0, none⟩)), undef, (.pointer (some ⟨bs, 0, none⟩)), (.int .u64 (x : Int)), (.int .i64 0), (.int .i64 (y : Int)), undef, undef, undef, (.tuple #[v1, .int .i64 0]), (.agg #[.int .i64 (N : Int), .slice A E.length c]), (.tuple #[v1, .int .i64 0]), (v1), (.int .i64 0), (.int .i64 0), (.bool false), undef, (.map (some m)), (.map (some m)), (v28), (.pointer (some ⟨w.heap.size, 0, none⟩)), (.int .i64 (N : Int)), (.int .i64 (i : Int)), (.bool true), (.slice (some ad) row.length c7), (.int .i64 (row.length : Int)), (.int .i64 (j : Int)), (.bool true), (.pointer (some (ad.add j))), (.int .u64 (s : Int)), (.tuple #[.int .u64 (x : Int), .int .i64 0]), (.agg #[.int .i64 (N : Int), .slice A E.length c]), (.int .u64 (s : Int)), (.tuple #[.int .u64 (x : Int), .int .i64 0]), (.int .u64 (x : Int)), (.int .i64 0), (.int .u64 (x : Int)), (.func (.func 80) #[] #[.pointer (some ⟨b, 0, none⟩)]), (.int .i64 (y : Int)), undef, undef, undef, undef, undef, undef, undef, undef, undef, undef, undef, undef, undef, undef, undef, undef, undef, undef, undef, undef, undef, undef, undef, undef, undef, undef, undef, undef, undef, (u77), (u78), (u79), (u80), (u81), (u82), undef, undef, undef, undef, undef, undef, undef], defers := [] } : Act)) ?assign ?body ?done
          case eg =>
            intro args w
            exact enters_ Tryd.func80 (by kernel_rfl) (by kernel_rfl) args w
          case assign =>
            intro l y W K hk
            gi_wp2_with (fail)
            exact hk
          case done =>
            intro D W hD hI hd
            obtain ⟨A9', c9', hm', hp', hb', hq', hr', hs', hk', hl', _⟩ := hI
            have hol := HOL2.out
            have hf := HF3.out
            have hor := HOR3.out
            obtain ⟨st', hst'⟩ : ∃ st', (nodes x).foldl (addT s) st = st' := ⟨_, rfl⟩
            rw [hst'] at hm' hq' hr' hl' hol hf hor
            have hw0 := (blk_cell (hp'.cells HM9.out HW9.out HWL.out)) 0
            have HM' := Aside0.mk hm'
            obtain ⟨es, clock, hbm, _, he⟩ := hm'
            have hsz : es.size ≤ 65536 := by
              have h1 := ents_len he
              have h2 : (encW st'.1).length = st'.1.length := by simp [encW, IMap.vals]
              have h3 : es.toList.length = es.size := by simp
              omega
            have e3 : ¬ (65536 : Int) < (es.size : Int) := by omega
            have hlen := run_len_map (P := Tryd.prog) (w := W) 93 3 m es clock (by kernel_rfl) hbm
            have HE6 : Aside0 (wrap64 ((j : Int) + 1) = ((j + 1 : Nat) : Int)) := ⟨by have hl := HLR.out; unfold wrap64; omega⟩
            have HF4 := Aside0.mk hf
            have HOR4 := Aside0.mk hor
            have HP' := Aside0.mk hp'
            have HB' := Aside0.mk hb'
            have HQ' := Aside0.mk hq'
            have HR' := Aside0.mk hr'
            have HK' := Aside0.mk hk'
            have HL' := Aside0.mk hl'
            have HD' := Aside0.mk hd
            have HDS := Aside0.mk hD
            clear hf hor hol hp' hb' hq' hr' hs' hk' hl' hst' he hd hD
            go_wp2_with (fail)
            go_roundg (hk - 1)
            case measure => have := HKJ.out; omega
            case rel =>
              have hDl := (Array.getElem?_eq_some_iff.1 HD'.out).1
              exact ⟨j + 1, st', A9', c9', (by first | exact congrArg _ HE6.out | rfl), ⟨by have := HJ.out; have := HKJ.out; omega⟩, ⟨(HK'.out.cons (by have := HDS.out; rw [HWL2.out] at this; omega) (by have := HDS.out; rw [HWL2.out] at this; have := HSB2.out; have := HBS.out; have := HBN.out; omega) HD'.out).bound⟩, HM', HP', HB', HQ', ⟨Kd.R_mono HR'.out (fun k hk => hk.1)⟩, HOR4, HF4, HL'⟩
          case body =>
            intro l pre y rest W hx hI
            have hok : okNodes s (y :: rest) (pre.foldl (addT s) st) = true := by
              have := HON2.out
              rw [← hx, okNodes_append, Bool.and_eq_true] at this
              exact this.2
            have hlen : (pre.foldl (addT s) st).1.length ≤ 65536 := by
              have := HOL2.out
              rw [← hx, List.foldl_append] at this
              exact Nat.le_trans (fold_len s _ _) this
            have hy64 : y < 64 := List.mem_range.1 (List.mem_filter.1 (show y ∈ nodes x by rw [← hx]; simp)).1
            obtain ⟨A9', c9', hrs, hl'⟩ := RS.begin hI
            obtain ⟨st', hst'⟩ : ∃ st', pre.foldl (addT s) st = st' := ⟨_, rfl⟩
            have HFO : Aside0 ((pre ++ [y]).foldl (addT s) st = addT s st' y) := ⟨by rw [List.foldl_append, hst']; rfl⟩
            rw [hst'] at hrs hl' hok hlen
            simp only [okNodes, okAdd, Bool.and_eq_true, decide_eq_true_eq] at hok
            obtain ⟨⟨ha1, ha2, ha3⟩, _⟩ := hok
            have HLEN := Aside0.mk hlen
            have s0 : min y 64 = y := by omega
            have s1 := shlU y hy64
            have s2 := orPow s y HSLL.out hy64
            have hs0 := (blk_cell (show W.heap[bs]? = _ from hrs.sb)) 0
            have HLW := Aside0.mk hl'
            have HWR : Aside0 (wrap64 (wayOf st'.1 ((s ||| 2 ^ y : Nat) : Int) + wayOf st'.1 (s : Int)) = wayOf st'.1 ((s ||| 2 ^ y : Nat) : Int) + wayOf st'.1 (s : Int)) := ⟨by unfold wrap64; omega⟩
            have hle : ¬ (1152921504606846976 : Int) < wayOf st'.1 ((s ||| 2 ^ y : Nat) : Int) + wayOf st'.1 (s : Int) := by omega
            have HRS := Aside0.mk hrs
            have HMG : Aside0 (w.heap.size ≤ m) := ⟨Nat.le_of_lt HSZ.out⟩
            have HMB2 : Aside0 (m < b) := ⟨by have h1 := HML2.out; have h2 := HMN.out; rw [HWL2.out] at h1; omega⟩
            clear hrs hl' ha1 ha2 ha3 hst' hlen hx hI
            gi_wp2_with (fail)
            gi_cut [15] from 90 (fun v15 w' => v15 = .int .u64 ((s ||| 2 ^ y : Nat) : Int) ∧ w' = W.drew)
            case first =>
              rename_i Jc Kc hJc hKc
              gi_region
              all_goals
                show Kc _ _
                refine hKc _ _ (Met.intro (hJc _ _ ?_))
                (repeat apply Exists.intro)
                exact ⟨⟨rfl, rfl⟩, rfl⟩
            case rest =>
              obtain ⟨rfl, rfl⟩ := hcut
              obtain ⟨V, hV⟩ : ∃ V, W.drew = V := ⟨_, rfl⟩
              rw [hV] at HRS ⊢
              clear hV hs0
              have hw0 := (blk_cell (HRS.out.kp.cells HM9.out HW9.out HWL.out)) 0
              have hn0 := (blk_cell HRS.out.nx) 0
              have hs0 := (blk_cell HRS.out.sb) 0
              obtain ⟨gt, hgt⟩ : ∃ g, (IMap.get st'.1 ((s ||| 2 ^ y : Nat) : Int)).isSome = g := ⟨_, rfl⟩
              cases gt with
              | true =>
                gi_wp2_with (first
                  | (refine in_look (P := Tryd.prog) (q := .u64) rfl (.tmp 53) (.tmp 54) 93 true rfl Tryd.underlying93 Tryd.underlying56 (z := .int .i64 0) (by go_simp) rfl HRS.out.im ((s ||| 2 ^ y : Nat) : Int) rfl ?_; rw [look_has, hgt, look_way])
                  | (refine in_look (P := Tryd.prog) (q := .u64) rfl (.tmp 64) (.tmp 65) 93 false rfl Tryd.underlying93 Tryd.underlying56 (z := .int .i64 0) (by go_simp) rfl HRS.out.im ((s ||| 2 ^ y : Nat) : Int) rfl ?_; rw [look_way])
                  | (refine in_look (P := Tryd.prog) (q := .u64) rfl (.tmp 67) (.tmp 68) 93 false rfl Tryd.underlying93 Tryd.underlying56 (z := .int .i64 0) (by go_simp) rfl HRS.out.im (s : Int) rfl ?_; rw [look_way])
                  | (refine in_put (P := Tryd.prog) (q := .u64) rfl (.tmp 64) (.tmp 65) (.tmp 70) 93 rfl Tryd.underlying93 Tryd.underlying56 rfl HRS.out.im ((s ||| 2 ^ y : Nat) : Int) (.int .i64 (wrap64 (wayOf st'.1 ((s ||| 2 ^ y : Nat) : Int) + wayOf st'.1 (s : Int)))) rfl rfl ?_; intro ob h1; refine Halt.out ?_))
                unfold Halt
                rw [HWR.out] at h1
                have hpv : IMap.put (encW st'.1) ((s ||| 2 ^ y : Nat) : Int) (.int .i64 (wayOf st'.1 ((s ||| 2 ^ y : Nat) : Int) + wayOf st'.1 (s : Int))) = encW (IMap.put st'.1 ((s ||| 2 ^ y : Nat) : Int) (wayOf st'.1 ((s ||| 2 ^ y : Nat) : Int) + wayOf st'.1 (s : Int))) := put_vals _ _ _ _
                rw [hpv] at h1
                have HE := Aside0.mk (HRS.out.put ob HMG.out HMB2.out h1)
                obtain ⟨VE, hVE⟩ : ∃ VE', ChangeMaps.setBlock V m ob = VE' := ⟨_, rfl⟩
                rw [hVE] at HE ⊢
                clear h1 hVE hpv
                have hwE := (blk_cell (HE.out.kp.cells HM9.out HW9.out HWL.out)) 0
                have hway : wayOf (IMap.put st'.1 ((s ||| 2 ^ y : Nat) : Int) (wayOf st'.1 ((s ||| 2 ^ y : Nat) : Int) + wayOf st'.1 (s : Int))) ((s ||| 2 ^ y : Nat) : Int) = wayOf st'.1 ((s ||| 2 ^ y : Nat) : Int) + wayOf st'.1 (s : Int) := by
                  conv => lhs; unfold wayOf
                  rw [get_put, if_pos rfl]
                  rfl
                gi_wp2_with (first
                  | (refine in_look (P := Tryd.prog) (q := .u64) rfl (.tmp 71) (.tmp 72) 93 false rfl Tryd.underlying93 Tryd.underlying56 (z := .int .i64 0) (by go_simp) rfl HE.out.im ((s ||| 2 ^ y : Nat) : Int) rfl ?_; rw [look_way, hway]))
                refine ⟨by first | exact HE.out.kf | (rw [HWL2.out]; exact HE.out.kf), HE.out.bb, RS.done (W := W) (st := st) (pre := pre ++ [y]) (v := .slice A9' st'.2.length c9') ?_ ?_⟩
                rotate_left
                · rw [HFO.out]; exact (addT_len s st' y).2 HLW.out
                · rw [HFO.out, show addT s st' y = (IMap.put st'.1 ((s ||| 2 ^ y : Nat) : Int) (wayOf st'.1 ((s ||| 2 ^ y : Nat) : Int) + wayOf st'.1 (s : Int)), st'.2) by unfold addT; rw [hgt]; rfl]
                  exact HE.out
                
              | false =>
                have hb5 := below_alloc (Below.refl V.heap.size V) (.cells #[.int .u64 ((s ||| 2 ^ y : Nat) : Int)] 56)
                have HB5 := Aside0.mk hb5
                have HR1 := Aside0.mk (Kd.R_below HRS.out.rw hb5)
                have HC1 := Aside0.mk ((blk_cell (heap_last V (.cells #[.int .u64 ((s ||| 2 ^ y : Nat) : Int)] 56))) 0)
                have HB1 := Aside0.mk (HRS.out.bl.alloc HRS.out.bl.size (.cells #[.int .u64 ((s ||| 2 ^ y : Nat) : Int)] 56))
                have HF1 : Aside0 (∀ k, (V.alloc (.cells #[.int .u64 ((s ||| 2 ^ y : Nat) : Int)] 56)).heap.size ≤ k → bn < k ∧ k ≠ bs ∧ k ≠ b) := ⟨fun k hk => by
                  have h1 := hb5.size
                  have h2 := HRS.out.lt
                  have h3 := HBS.out
                  have h4 := HSB2.out
                  omega⟩
                clear hb5
                gi_wp2_with (first
                  | (refine in_look (P := Tryd.prog) (q := .u64) rfl (.tmp 53) (.tmp 54) 93 true rfl Tryd.underlying93 Tryd.underlying56 (z := .int .i64 0) (by go_simp) rfl HRS.out.im ((s ||| 2 ^ y : Nat) : Int) rfl ?_; rw [look_has, hgt, look_way])
                  | ((with_reducible refine wpListIn_plain_halt ?_)))
                unfold HaltIn
                refine in_append (P := Tryd.prog) w.heap.size rfl (.tmp 60) (.tmp 62) 60 56 .u64 8 rfl Tryd.underlying60 info_u64 (.slice A9' st'.2.length c9') st'.2 ((s ||| 2 ^ y : Nat) : Int) V.heap.size 1 (fun k => bn < k ∧ k ≠ bs ∧ k ≠ b) w rfl rfl HF1.out HR1.out HC1.out HB1.out HB1.out.size (by decide) (by decide) (by have := HLW.out; have := HLEN.out; omega) ?_
                intro v1 V2 ho hbl hg
                obtain ⟨A8, c8, rfl⟩ := Kd.R_slice ho
                obtain ⟨n8, hn8⟩ : ∃ n, (st'.2 ++ [((s ||| 2 ^ y : Nat) : Int)]).length = n := ⟨_, rfl⟩
                rw [hn8] at ho ⊢
                clear hn8
                have HF := Aside0.mk (RS.grow HRS.out HB5.out hg hbl HBN.out (Nat.ne_of_lt HBS.out) (Nat.lt_trans HBS.out HSB2.out) ho)
                have hq0 := (blk_cell (RS.nx2 HRS.out HB5.out hg)) 0
                have hf0 := free_of (RS.nx2 HRS.out HB5.out hg) 0
                have hwF := (blk_cell (HF.out.kp.cells HM9.out HW9.out HWL.out)) 0
                have hsF := (blk_cell HF.out.sb) 0
                clear ho hbl hg hw0 hn0 hs0
                gi_wp2_with (first
                  | (refine in_look (P := Tryd.prog) (q := .u64) rfl (.tmp 64) (.tmp 65) 93 false rfl Tryd.underlying93 Tryd.underlying56 (z := .int .i64 0) (by go_simp) rfl HF.out.im ((s ||| 2 ^ y : Nat) : Int) rfl ?_; rw [look_way])
                  | (refine in_look (P := Tryd.prog) (q := .u64) rfl (.tmp 67) (.tmp 68) 93 false rfl Tryd.underlying93 Tryd.underlying56 (z := .int .i64 0) (by go_simp) rfl HF.out.im (s : Int) rfl ?_; rw [look_way])
                  | (refine in_put (P := Tryd.prog) (q := .u64) rfl (.tmp 64) (.tmp 65) (.tmp 70) 93 rfl Tryd.underlying93 Tryd.underlying56 rfl HF.out.im ((s ||| 2 ^ y : Nat) : Int) (.int .i64 (wrap64 (wayOf st'.1 ((s ||| 2 ^ y : Nat) : Int) + wayOf st'.1 (s : Int)))) rfl rfl ?_; intro ob h1; refine Halt.out ?_))
                unfold Halt
                rw [HWR.out] at h1
                have hpv : IMap.put (encW st'.1) ((s ||| 2 ^ y : Nat) : Int) (.int .i64 (wayOf st'.1 ((s ||| 2 ^ y : Nat) : Int) + wayOf st'.1 (s : Int))) = encW (IMap.put st'.1 ((s ||| 2 ^ y : Nat) : Int) (wayOf st'.1 ((s ||| 2 ^ y : Nat) : Int) + wayOf st'.1 (s : Int))) := put_vals _ _ _ _
                rw [hpv] at h1
                have HE := Aside0.mk (HF.out.put ob HMG.out HMB2.out h1)
                obtain ⟨VE, hVE⟩ : ∃ VE', ChangeMaps.setBlock (V2.setCell ⟨bn, 0, none⟩ (.slice A8 n8 c8)) m ob = VE' := ⟨_, rfl⟩
                rw [hVE] at HE ⊢
                clear h1 hVE hpv
                have hwE := (blk_cell (HE.out.kp.cells HM9.out HW9.out HWL.out)) 0
                have hway : wayOf (IMap.put st'.1 ((s ||| 2 ^ y : Nat) : Int) (wayOf st'.1 ((s ||| 2 ^ y : Nat) : Int) + wayOf st'.1 (s : Int))) ((s ||| 2 ^ y : Nat) : Int) = wayOf st'.1 ((s ||| 2 ^ y : Nat) : Int) + wayOf st'.1 (s : Int) := by
                  conv => lhs; unfold wayOf
                  rw [get_put, if_pos rfl]
                  rfl
                gi_wp2_with (first
                  | (refine in_look (P := Tryd.prog) (q := .u64) rfl (.tmp 71) (.tmp 72) 93 false rfl Tryd.underlying93 Tryd.underlying56 (z := .int .i64 0) (by go_simp) rfl HE.out.im ((s ||| 2 ^ y : Nat) : Int) rfl ?_; rw [look_way, hway]))
                refine ⟨by first | exact HE.out.kf | (rw [HWL2.out]; exact HE.out.kf), HE.out.bb, RS.done (W := W) (st := st) (pre := pre ++ [y]) (v := .slice A8 n8 c8) ?_ ?_⟩
                rotate_left
                · rw [HFO.out]; exact (addT_len s st' y).2 HLW.out
                · rw [HFO.out, show addT s st' y = (IMap.put st'.1 ((s ||| 2 ^ y : Nat) : Int) (wayOf st'.1 ((s ||| 2 ^ y : Nat) : Int) + wayOf st'.1 (s : Int)), st'.2 ++ [((s ||| 2 ^ y : Nat) : Int)]) by unfold addT; rw [hgt]; rfl]
                  exact HE.out
                
end Go.Proofs.YtplhihakeodadaaDoor.Sg
