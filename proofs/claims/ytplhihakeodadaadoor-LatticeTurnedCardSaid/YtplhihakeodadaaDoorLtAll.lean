/- lattice: All. -/
import Derived.Test.YtplhihakeodadaaDoorLtSm
import Derived.Test.YtplhihakeodadaaDoorLtRg
import Derived.Test.YtplhihakeodadaaDoorLtCnt
namespace Go.Proofs.YtplhihakeodadaaDoor.Sg
open Go Go.RowKit Go.MapKept Go.Proofs Go.Proofs.YtplhihakeodadaaDoor.IMap Go.Proofs.YtplhihakeodadaaDoorW.PrintWords Go.Proofs.YtplhihakeodadaaDoorW.PrintLast Go.Proofs.YtplhihakeodadaaDoorW.PrintMore
set_option linter.unusedVariables false
set_option linter.unusedSimpArgs false
theorem msort_perm {l l' : List Int} (h : l.Perm l') : l.mergeSort (fun x y => decide (x ≤ y)) = l'.mergeSort (fun x y => decide (x ≤ y)) := by
  have tr : ∀ a b c : Int, decide (a ≤ b) = true → decide (b ≤ c) = true → decide (a ≤ c) = true := fun a b c h1 h2 => by simp only [decide_eq_true_eq] at *; omega
  have tot : ∀ a b : Int, (decide (a ≤ b) || decide (b ≤ a)) = true := fun a b => by simp only [Bool.or_eq_true, decide_eq_true_eq]; omega
  refine List.Perm.eq_of_pairwise (le := fun a b => decide (a ≤ b) = true) (fun a b _ _ h1 h2 => ?_) (List.pairwise_mergeSort tr tot l) (List.pairwise_mergeSort tr tot l') (((List.mergeSort_perm l _).trans h).trans (List.mergeSort_perm l' _).symm)
  simp only [decide_eq_true_eq] at h1 h2
  omega
theorem nodup_sub : ∀ {l m : List Int}, l.Nodup → (∀ x ∈ l, x ∈ m) → l.length ≤ m.length
  | [], m, _, _ => Nat.zero_le _
  | a :: l, m, hl, h => by
    obtain ⟨h1, h2⟩ := List.nodup_cons.1 hl
    have ha : a ∈ m := h a (by simp)
    have hr := nodup_sub (m := m.erase a) h2 fun x hx => (List.mem_erase_of_ne (fun e : x = a => h1 (e ▸ hx))).2 (h x (by simp [hx]))
    rw [List.length_erase_of_mem ha] at hr
    have := List.length_pos_of_mem ha
    simp only [List.length_cons]
    omega
/-- slices.Sort does its work at n numbers. -/
def SortOK (n : Nat) : Prop := ∀ (w : World) (bk c : Nat) (d : Array Int), d.size = n → RU w bk d →
  Calls Tryd.prog 53 #[.slice (some ⟨bk, 0, none⟩) d.size c] w fun e w' => e = .returned (.tuple #[]) ∧ SU w bk (Sort.sort Sort.ltInt d) w'
theorem SortOK_small {n : Nat} (h : n ≤ 12) : SortOK n := fun w bk c d hn R => SortS_T w bk c d d w R rfl (SW.start R.hH) (by omega)
theorem sort_list (l : List Int) : (Sort.sort Sort.ltInt l.toArray).toList = l.mergeSort (fun x y => decide (x ≤ y)) := Sort.sortInt l
theorem R_cellU {w : World} {base g n cap : Nat} {ok : Nat → Prop} {xs : List Int} (h : Kd.R kU 56 w base ok (.slice (some ⟨g, 0, none⟩) n cap) xs) (i : Nat) (hi : i < xs.length) : w.cell? ⟨g, i, none⟩ = some (.int .u64 (xs.getD i 0)) ∧ w.frozen? ⟨g, i, none⟩ = false := by
  obtain ⟨hn, _⟩ := Kd.R_reads' h
  subst hn
  have := Kd.R_cell (0 : Int) h (i : Int) (by omega) (by omega)
  rw [Int.toNat_natCast] at this
  exact this
theorem getD_arr (xs : List Int) (i : Nat) (h : i < xs.length) : xs.toArray[i]! = xs.getD i 0 := by
  rw [getElem!_pos _ i (by simpa using h)]
  simp [List.getD_eq_getElem?_getD, h]
theorem RU_of_R {w : World} {base n cap : Nat} {A : Option Addr} {ok : Nat → Prop} {xs : List Int} (h : Kd.R kU 56 w base ok (.slice A n cap) xs) (hne : xs ≠ []) : ∃ g, A = some ⟨g, 0, none⟩ ∧ RU w g xs.toArray ∧ base ≤ g := by
  have hA : ∃ g, A = some ⟨g, 0, none⟩ ∧ g < w.heap.size ∧ base ≤ g := by
    obtain ⟨inner, hz, ho⟩ := Kd.R_own h
    rcases ho with ⟨hv, hn⟩ | ⟨g, cap, cur, hv, hb, hg, _⟩
    · exact absurd (List.length_eq_zero_iff.1 hn) hne
    · injection hv with h1
      exact ⟨g, h1, (Array.getElem?_eq_some_iff.1 hg).1, hb⟩
  obtain ⟨g, rfl, hlt, hb⟩ := hA
  refine ⟨g, rfl, ⟨fun x => rfl, fun j hj => ?_, hlt⟩, hb⟩
  have hj' : j < xs.length := by simpa using hj
  have := R_cellU h j hj'
  rw [Nat.zero_add, getD_arr xs j hj']
  exact this
theorem C_of_SU {w w' : World} {g : Nat} {d d0 : Array Int} (h : SU w g d w') (R : RU w g d0) (hs : d.size = d0.size) (hl : d.size ≤ 1000000000) : Kd.C kU w' (some ⟨g, 0, none⟩) d.toList.length d.toList := by
  refine ⟨rfl, by rw [Array.length_toList]; omega, fun _ => ⟨_, rfl, fun j p hj => ?_⟩⟩
  have hj' : j < d.size := by
    have := (List.getElem?_eq_some_iff.1 hj).1
    simpa using this
  have hp : d[j]! = p := by
    rw [getElem!_pos d j hj']
    have := (List.getElem?_eq_some_iff.1 hj).2
    simpa using this
  refine ⟨[.int .u64 p], rfl, rfl, fun i u hu => ?_⟩
  match i with
  | 0 =>
    cases hu
    have := SW.c1 h R hs j hj'
    rw [Nat.zero_add, hp] at this
    have e : (⟨g, 0, none⟩ : Addr).add (j * kU.sz + 0) = ⟨g, j, none⟩ := by
      rw [show j * kU.sz + 0 = j from Nat.mul_one j]
      unfold Addr.add
      split <;> simp_all
    rw [e]
    exact this
  | i + 1 => simp at hu
theorem Below_of_SU {w0 w w' : World} {g base : Nat} {d : Array Int} (h : SU w g d w') (hg : g < w.heap.size) (hb : base ≤ g) (hB : Below base w0 w) : Below base w0 w' := by
  have hlt := h.le
  obtain ⟨n, os, rfl⟩ := h
  refine hB.trans ⟨rfl, rfl, rfl, hlt, fun k hk => ?_⟩
  unfold sortWorld
  have hk' : k < w.heap.size := Nat.lt_of_lt_of_le hk (Nat.le_trans hb (Nat.le_of_lt hg))
  rw [Go.Sort.heap_grow_old _ _ (by simpa using hk')]
  have hne : g ≠ k := by omega
  simp [Go.Sort.putRow, Go.Sort.mapBlock, Go.Sort.ahead, Array.getElem?_modify, hne]
set_option maxHeartbeats 8000000 in
set_option maxRecDepth 100000 in
theorem AllG_T (N : Nat) (E : List Stp) (A : Option Addr) (c : Nat) (w : World) (hT : TabW w) (h : Kd.C kP w A E.length E) (hR : rightG N E = true) (ho : orderErr N E = 0) (hg : okCount E N = true) (hne : keys (countM E N) ≠ []) (hlen : (countM E N).length ≤ 1000000) (hS : SortOK (countM E N).length) :
    Calls Tryd.prog 32 #[.agg #[.int .i64 (N : Int), .slice A E.length c]] w fun e w' => ∃ g c', e = .returned (.tuple #[.slice (some ⟨g, 0, none⟩) (countM E N).length c', .int .i64 0]) ∧ Kd.C kU w' (some ⟨g, 0, none⟩) (countM E N).length ((keys (countM E N)).mergeSort (fun x y => decide (x ≤ y))) ∧ Below w.heap.size w w' := by
  have hb0 := below_alloc (Below.refl w.heap.size w) (.cells #[.int .i64 (N : Int), .slice A E.length c] 62)
  have HX := Aside0.mk (heap_last w (.cells #[.int .i64 (N : Int), .slice A E.length c] 62))
  have K := Aside0.mk (Count_T N E A c (w.alloc (.cells #[.int .i64 (N : Int), .slice A E.length c] 62)) (hT.below hb0) (Kd.C_below h hb0) hR ho hg)
  have HB := Aside0.mk hb0
  have h0 := (blk_cell HX.out) 0
  have h1 := (blk_cell HX.out) 1
  obtain ⟨M, hM⟩ : ∃ M, countM E N = M := ⟨_, rfl⟩
  rw [hM] at K hne hlen hS ⊢
  have HS := Aside0.mk hS
  have HNE := Aside0.mk hne
  have HLN := Aside0.mk hlen
  clear hb0 h hT hR ho hg hM hS hne hlen
  go_enter Tryd.func32, Tryd.ntmps32
  go_wp2_with (fail)
  refine K.out.mono ?_
  rintro e w1 ⟨m, rfl, him, hml, hb⟩
  have HM := Aside0.mk him
  have HB1 := Aside0.mk (below_step HB.out hb)
  have HML := Aside0.mk hml
  clear K hb him hml h0 h1
  go_wp2_with (first | (at_range; refine wpList_range_rg rfl (.tmp 16) 93 rfl 56 3 Tryd.underlying93 rfl HM.out ?_; intro w2 hrg hgr hsz; refine Halt.out ?_))
  unfold Halt
  obtain ⟨r, hr⟩ : ∃ r, w1.heap.size = r := ⟨_, rfl⟩
  have hB2 : Below w.heap.size w w2 := below_step HB1.out ⟨hgr.os, hgr.tape, hgr.output, hgr.size, fun k hk => hgr.block k hk (by simp)⟩
  rw [hr] at hrg ⊢
  have HRG := Aside0.mk hrg
  have HB2 := Aside0.mk hB2
  have HMR : Aside0 (m < r) := ⟨by rw [← hr]; exact HM.out.lt⟩
  have HWR : Aside0 (w.heap.size ≤ r) := ⟨by rw [← hr]; exact below_size HB1.out⟩
  clear hrg hB2 hgr hsz hr
  go_wp2
  go_loopg [6, 7] M.length (fun kq v6 v7 w' => ∃ (A6 : Option Addr) (dn : List Int) (c6 : Nat), v6 = .slice A6 dn.length c6 ∧ Aside0 (dn.length + kq = M.length) ∧ Aside0 (RG .u64 w' m r (encW M) dn) ∧ Aside0 (Kd.R kU 56 w' w.heap.size (fun k => r < k) v6 dn) ∧ Aside0 (Below w.heap.size w w'))
  case atStart => exact ⟨none, [], 0, rfl, ⟨by simp⟩, HRG, ⟨Kd.R_nil _ _ _ _ _⟩, HB2⟩
  case round =>
    clear HRG HB2
    obtain ⟨A6, dn, c6, rfl, HJ, HRG, HO, HB2⟩ := hrel
    obtain ⟨n6, hn6⟩ : ∃ n, dn.length = n := ⟨_, rfl⟩
    rw [hn6] at HO ⊢
    have HN6 := Aside0.mk hn6
    clear hn6
    go_wp2_with (first | (at_next; refine wpList_next_rg rfl (.tmp 17) rfl rfl HRG.out (fun hp => Halt.out ?_) (fun k v w3 hkv hkd hrg hgr hsz hen => Halt.out ?_)))
    · unfold Halt
      rw [encW, keys_vals] at hp
      have hdn : dn ≠ [] := fun e => HNE.out (List.Perm.nil_eq (e ▸ hp)).symm
      have hnl : dn.length = M.length := by rw [hp.length_eq, keys, List.length_map]
      have hnm : n6 = M.length := by rw [← HN6.out, hnl]
      obtain ⟨g, rfl, hRU, hbg⟩ := RU_of_R HO.out hdn
      have hK := HS.out wr g c6 dn.toArray (by rw [List.size_toArray, hnl]) hRU
      have hsz : dn.toArray.size = M.length := by rw [List.size_toArray, hnl]
      rw [hsz] at hK
      have K := Aside0.mk hK
      have HRU := Aside0.mk hRU
      have HBG := Aside0.mk hbg
      have HSZ := Aside0.mk hsz
      have HPE := Aside0.mk (msort_perm hp)
      rw [hnm]
      clear hp hdn hnl hRU hbg hK hsz hnm HRG
      go_wp2_with (fail)
      refine K.out.mono ?_
      rintro e w4 ⟨rfl, hS⟩
      have hsl := sort_list dn
      have hss : (Sort.sort Sort.ltInt dn.toArray).size = dn.toArray.size := by rw [← Array.length_toList, hsl, List.length_mergeSort, List.size_toArray]
      have HC := Aside0.mk (C_of_SU hS HRU.out hss (by rw [hss, HSZ.out]; have := HLN.out; omega))
      have HB4 := Aside0.mk (Below_of_SU hS HRU.out.hblk HBG.out HB2.out)
      have hsl2 : (Sort.sort Sort.ltInt dn.toArray).toList.length = M.length := by rw [Array.length_toList, hss, HSZ.out]
      have HSL := Aside0.mk hsl
      have HSL2 := Aside0.mk hsl2
      clear K hS hsl hss hsl2
      go_wp2
      refine bodyPost_ret (v := .tuple #[.slice (some ⟨g, 0, none⟩) M.length c6, .int .i64 0]) (by simp [results, Tryd.results32, go_sem]) rfl ?_
      refine ⟨_, _, rfl, ?_, HB4.out⟩
      have h := HC.out
      rw [HSL2.out, HSL.out, HPE.out] at h
      exact h
    · unfold Halt
      have HRG3 := Aside0.mk hrg
      have hB3 : Below w.heap.size w w3 := ⟨hgr.os.trans HB2.out.os, hgr.tape.trans HB2.out.tape, hgr.output.trans HB2.out.output, Nat.le_trans HB2.out.size hgr.size, fun j hj => (hgr.block j (Nat.lt_of_lt_of_le hj HB2.out.size) (by have := HWR.out; intro e; injection e with e; omega)).trans (HB2.out.block j hj)⟩
      have HO3 := Aside0.mk (Kd.R_alloc (Kd.R_grown HO.out hgr (fun k hk e => by injection e with e; omega)) (.cells #[.int .u64 k] 56))
      have HRG4 := Aside0.mk (RG.alloc hrg (.cells #[.int .u64 k] 56))
      have HB4 := Aside0.mk (hB3.alloc (hB3.size) (.cells #[.int .u64 k] 56))
      have HL4 := Aside0.mk (lit_rr .u64 (w3.alloc (.cells #[.int .u64 k] 56)) w3.heap.size k ((blk_cell (heap_last w3 (.cells #[.int .u64 k] 56))) 0))
      have HF4 : Aside0 (∀ j, (w3.alloc (.cells #[.int .u64 k] 56)).heap.size ≤ j → r < j) := ⟨fun j hj => by have h1 := RG.lt hrg; rw [World.size_alloc] at hj; omega⟩
      have hdl : dn.length < M.length := by
        have h2 := nodup_sub hrg.nd hrg.sub
        rw [List.length_append, encW, keys_vals, keys, List.length_map] at h2
        rw [List.length_singleton] at h2
        omega
      have HDL := Aside0.mk hdl
      clear hB3 hkv hkd hrg hgr hsz hdl HB2 HO HRG HRG3
      go_wp2_with (first | ((with_reducible refine gate_builtin (b := .append) (xs := #[.tmp 22, .tmp 24]) rfl ?_); at_builtin; refine Kd.R_append_rows kU (w0 := w) w.heap.size rfl (.tmp 22) (.tmp 24) 60 56 (.int .u64 0) 8 rfl Tryd.underlying60 info_u64 rfl (by decide) (by decide) (.slice A6 n6 c6) dn [k] (some ⟨w3.heap.size, 0, none⟩) 1 _ (fun j => r < j) (fun j => r < j ∧ some j ≠ (Value.slice A6 n6 c6).ownBlock) rfl rfl HO3.out HL4.out (fun p cs hp => hp) (fun j hj => hj) HF4.out HB4.out HB4.out.size (by have := HDL.out; have := HLN.out; omega) ?_; intro v1 w5 ho hbl hg hat; refine Halt.out ?_))
      unfold Halt
      obtain ⟨A7, c7, rfl⟩ := Kd.R_slice ho
      have HO5 := Aside0.mk ho
      have HB5 := Aside0.mk hbl
      have HRG5 := Aside0.mk (RG.grown HRG4.out hg (by
        have h1 := HMR.out
        intro e
        have := HO3.out.1 m e.symm
        omega) (fun e => by have := HO3.out.1 r e.symm; omega))
      clear ho hbl hg hat hen
      go_wp2
      go_roundg (gk - 1)
      case measure => have := HJ.out; have := HDL.out; omega
      case rel => exact ⟨A7, dn ++ [k], c7, rfl, ⟨by have := HJ.out; have := HDL.out; rw [List.length_append]; simp; omega⟩, HRG5, HO5, HB5⟩
theorem All_T (N : Nat) (E : List Stp) (A : Option Addr) (c : Nat) (w : World) (hT : TabW w) (h : Kd.C kP w A E.length E) (hR : rightG N E = true) (ho : orderErr N E = 0) (hg : okCount E N = true) (hne : keys (countM E N) ≠ []) (hlen : (countM E N).length ≤ 1000000) (hS : SortOK (countM E N).length) :
    Calls Tryd.prog 32 #[.agg #[.int .i64 (N : Int), .slice A E.length c]] w fun e w' => ∃ A' c', e = .returned (.tuple #[.slice A' (countM E N).length c', .int .i64 0]) ∧ Kd.C kU w' A' (countM E N).length ((keys (countM E N)).mergeSort (fun x y => decide (x ≤ y))) ∧ Below w.heap.size w w' :=
  (AllG_T N E A c w hT h hR ho hg hne hlen hS).mono fun e w' ⟨g, c', h1, h2⟩ => ⟨some ⟨g, 0, none⟩, c', h1, h2⟩
end Go.Proofs.YtplhihakeodadaaDoor.Sg
