/- The law CodePlans: the walk of the law. -/
import Derived.Test.YthefbeekcjchcaaCodeP2
import Derived.Test.YthefbeekcjchcaaRefPlan
import Derived.Test.YthefbeekcjchcaaRefRP
import Derived.Test.YthefbeekcjchcaaAnchor
namespace Go.Proofs.Ythefbeekcjchcaa.P
open Go Go.RowKit Go.Proofs.YthefbeekcjchcaaW.PrintWords Go.Proofs.YthefbeekcjchcaaW.PrintLast Go.Proofs.YthefbeekcjchcaaW.PrintMore Go.Proofs.Ythefbeekcjchcaa.Pure
set_option linter.unusedVariables false
set_option linter.unusedSimpArgs false

set_option maxHeartbeats 8000000 in
set_option maxRecDepth 20000 in
theorem CodePlans_big (p : Pln) (A0 A1 A2 A3 AO : Option Addr) (k0 k1 k2 k3 kO : Nat) (odd : List Int) (w : World) (h0 : Kd.C (Kd.int .i64) w A0 p.1.length p.1) (h1 : Kd.C (Kd.int .i64) w A1 p.2.1.length p.2.1) (h2 : Kd.C (Kd.pair (Kd.int .i64) (Kd.int .i64)) w A2 p.2.2.1.length p.2.2.1) (h3 : Kd.C (Kd.pair (Kd.int .i64) (Kd.int .i64)) w A3 p.2.2.2.length p.2.2.2) (hO : Kd.C (Kd.int .u8) w AO odd.length odd) (hcO : odd.length ≤ kO) (hby : Bytes odd) (hbig : 50 < p.1.length ∨ 50 < p.2.1.length ∨ 100 < p.2.2.1.length ∨ 200 < p.2.2.2.length ∨ 1000 < odd.length) :
    Calls Try.prog 5 #[.agg #[.slice A0 p.1.length k0, .slice A1 p.2.1.length k1, .slice A2 p.2.2.1.length k2, .slice A3 p.2.2.2.length k3], .slice AO odd.length kO] w fun e w' => e = .returned (.bool true) ∧ Below w.heap.size w w' := by
  by_cases q0 : 50 < p.1.length
  · have d0 : decide (50 < (p.1.length : Int)) = true := decide_eq_true (by omega)
    clear hbig q0
    have hbx := below_alloc (Below.refl w.heap.size w) (Obj.cells #[.slice A0 p.1.length k0, .slice A1 p.2.1.length k1, .slice A2 p.2.2.1.length k2, .slice A3 p.2.2.2.length k3] 46)
    have hbox := heap_last w (Obj.cells #[.slice A0 p.1.length k0, .slice A1 p.2.1.length k1, .slice A2 p.2.2.1.length k2, .slice A3 p.2.2.2.length k3] 46)
    have HBX := Aside0.mk hbx
    have HBOX := Aside0.mk hbox
    clear h0 h1 h2 h3 hO hcO hby hbx hbox
    go_enter Try.func5, Try.ntmps5
    go_wp2_with (fail)
    refine (anchor_calls _).mono ?_
    rintro e w1 ⟨rfl, hb⟩
    have HB := Aside0.mk (below_step HBX.out hb)
    have HP := Aside0.mk ((hb.block _ (blk_lt HBOX.out)).trans HBOX.out)
    clear hb HBX HBOX
    have hp0 := (blk_cell HP.out) 0
    have hp1 := (blk_cell HP.out) 1
    have hp2 := (blk_cell HP.out) 2
    have hp3 := (blk_cell HP.out) 3
    go_wp2
    go_ret
    exact ⟨rfl, HB.out⟩
  · have d0 : decide (50 < (p.1.length : Int)) = false := decide_eq_false (by omega)
    by_cases q1 : 50 < p.2.1.length
    · have d1 : decide (50 < (p.2.1.length : Int)) = true := decide_eq_true (by omega)
      clear hbig q0 q1
      have hbx := below_alloc (Below.refl w.heap.size w) (Obj.cells #[.slice A0 p.1.length k0, .slice A1 p.2.1.length k1, .slice A2 p.2.2.1.length k2, .slice A3 p.2.2.2.length k3] 46)
      have hbox := heap_last w (Obj.cells #[.slice A0 p.1.length k0, .slice A1 p.2.1.length k1, .slice A2 p.2.2.1.length k2, .slice A3 p.2.2.2.length k3] 46)
      have HBX := Aside0.mk hbx
      have HBOX := Aside0.mk hbox
      clear h0 h1 h2 h3 hO hcO hby hbx hbox
      go_enter Try.func5, Try.ntmps5
      go_wp2_with (fail)
      refine (anchor_calls _).mono ?_
      rintro e w1 ⟨rfl, hb⟩
      have HB := Aside0.mk (below_step HBX.out hb)
      have HP := Aside0.mk ((hb.block _ (blk_lt HBOX.out)).trans HBOX.out)
      clear hb HBX HBOX
      have hp0 := (blk_cell HP.out) 0
      have hp1 := (blk_cell HP.out) 1
      have hp2 := (blk_cell HP.out) 2
      have hp3 := (blk_cell HP.out) 3
      go_wp2
      go_ret
      exact ⟨rfl, HB.out⟩
    · have d1 : decide (50 < (p.2.1.length : Int)) = false := decide_eq_false (by omega)
      by_cases q2 : 100 < p.2.2.1.length
      · have d2 : decide (100 < (p.2.2.1.length : Int)) = true := decide_eq_true (by omega)
        clear hbig q0 q1 q2
        have hbx := below_alloc (Below.refl w.heap.size w) (Obj.cells #[.slice A0 p.1.length k0, .slice A1 p.2.1.length k1, .slice A2 p.2.2.1.length k2, .slice A3 p.2.2.2.length k3] 46)
        have hbox := heap_last w (Obj.cells #[.slice A0 p.1.length k0, .slice A1 p.2.1.length k1, .slice A2 p.2.2.1.length k2, .slice A3 p.2.2.2.length k3] 46)
        have HBX := Aside0.mk hbx
        have HBOX := Aside0.mk hbox
        clear h0 h1 h2 h3 hO hcO hby hbx hbox
        go_enter Try.func5, Try.ntmps5
        go_wp2_with (fail)
        refine (anchor_calls _).mono ?_
        rintro e w1 ⟨rfl, hb⟩
        have HB := Aside0.mk (below_step HBX.out hb)
        have HP := Aside0.mk ((hb.block _ (blk_lt HBOX.out)).trans HBOX.out)
        clear hb HBX HBOX
        have hp0 := (blk_cell HP.out) 0
        have hp1 := (blk_cell HP.out) 1
        have hp2 := (blk_cell HP.out) 2
        have hp3 := (blk_cell HP.out) 3
        go_wp2
        go_ret
        exact ⟨rfl, HB.out⟩
      · have d2 : decide (100 < (p.2.2.1.length : Int)) = false := decide_eq_false (by omega)
        by_cases q3 : 200 < p.2.2.2.length
        · have d3 : decide (200 < (p.2.2.2.length : Int)) = true := decide_eq_true (by omega)
          clear hbig q0 q1 q2 q3
          have hbx := below_alloc (Below.refl w.heap.size w) (Obj.cells #[.slice A0 p.1.length k0, .slice A1 p.2.1.length k1, .slice A2 p.2.2.1.length k2, .slice A3 p.2.2.2.length k3] 46)
          have hbox := heap_last w (Obj.cells #[.slice A0 p.1.length k0, .slice A1 p.2.1.length k1, .slice A2 p.2.2.1.length k2, .slice A3 p.2.2.2.length k3] 46)
          have HBX := Aside0.mk hbx
          have HBOX := Aside0.mk hbox
          clear h0 h1 h2 h3 hO hcO hby hbx hbox
          go_enter Try.func5, Try.ntmps5
          go_wp2_with (fail)
          refine (anchor_calls _).mono ?_
          rintro e w1 ⟨rfl, hb⟩
          have HB := Aside0.mk (below_step HBX.out hb)
          have HP := Aside0.mk ((hb.block _ (blk_lt HBOX.out)).trans HBOX.out)
          clear hb HBX HBOX
          have hp0 := (blk_cell HP.out) 0
          have hp1 := (blk_cell HP.out) 1
          have hp2 := (blk_cell HP.out) 2
          have hp3 := (blk_cell HP.out) 3
          go_wp2
          go_ret
          exact ⟨rfl, HB.out⟩
        · have d3 : decide (200 < (p.2.2.2.length : Int)) = false := decide_eq_false (by omega)
          by_cases q4 : 1000 < odd.length
          · have d4 : decide (1000 < (odd.length : Int)) = true := decide_eq_true (by omega)
            clear hbig q0 q1 q2 q3 q4
            have hbx := below_alloc (Below.refl w.heap.size w) (Obj.cells #[.slice A0 p.1.length k0, .slice A1 p.2.1.length k1, .slice A2 p.2.2.1.length k2, .slice A3 p.2.2.2.length k3] 46)
            have hbox := heap_last w (Obj.cells #[.slice A0 p.1.length k0, .slice A1 p.2.1.length k1, .slice A2 p.2.2.1.length k2, .slice A3 p.2.2.2.length k3] 46)
            have HBX := Aside0.mk hbx
            have HBOX := Aside0.mk hbox
            clear h0 h1 h2 h3 hO hcO hby hbx hbox
            go_enter Try.func5, Try.ntmps5
            go_wp2_with (fail)
            refine (anchor_calls _).mono ?_
            rintro e w1 ⟨rfl, hb⟩
            have HB := Aside0.mk (below_step HBX.out hb)
            have HP := Aside0.mk ((hb.block _ (blk_lt HBOX.out)).trans HBOX.out)
            clear hb HBX HBOX
            have hp0 := (blk_cell HP.out) 0
            have hp1 := (blk_cell HP.out) 1
            have hp2 := (blk_cell HP.out) 2
            have hp3 := (blk_cell HP.out) 3
            go_wp2
            go_ret
            exact ⟨rfl, HB.out⟩
          · have d4 : decide (1000 < (odd.length : Int)) = false := decide_eq_false (by omega)
            omega
theorem lit_row2 (W : World) (x : Stp) (T : TypeId) : ReadsRow (fun (p : Stp) cs => cs = [.int .i64 p.1, .int .i64 p.2]) 2 (W.alloc (.cells #[.int .i64 x.1, .int .i64 x.2] T)) (some ⟨W.heap.size, 0, none⟩) 1 [x] := lit_stp W x.1 x.2 T
set_option maxHeartbeats 8000000 in
set_option maxRecDepth 20000 in
theorem CodePlans_main (p : Pln) (A0 A1 A2 A3 AO : Option Addr) (k0 k1 k2 k3 kO : Nat) (odd : List Int) (w : World) (h0 : Kd.C (Kd.int .i64) w A0 p.1.length p.1) (h1 : Kd.C (Kd.int .i64) w A1 p.2.1.length p.2.1) (h2 : Kd.C (Kd.pair (Kd.int .i64) (Kd.int .i64)) w A2 p.2.2.1.length p.2.2.1) (h3 : Kd.C (Kd.pair (Kd.int .i64) (Kd.int .i64)) w A3 p.2.2.2.length p.2.2.2) (hO : Kd.C (Kd.int .u8) w AO odd.length odd) (hcO : odd.length ≤ kO) (hby : Bytes odd) (q0 : p.1.length ≤ 50) (q1 : p.2.1.length ≤ 50) (q2 : p.2.2.1.length ≤ 100) (q3 : p.2.2.2.length ≤ 200) (q4 : odd.length ≤ 1000) :
    Calls Try.prog 5 #[.agg #[.slice A0 p.1.length k0, .slice A1 p.2.1.length k1, .slice A2 p.2.2.1.length k2, .slice A3 p.2.2.2.length k3], .slice AO odd.length kO] w fun e w' => e = .returned (.bool true) ∧ Below w.heap.size w w' := by
  have hcost : costT (tPln p) ≤ 10000 := by rw [cost_pln]; omega
  have hbk := fin_back fit_pln p
  have hBY := pln_bytes p
  have hOL := outT_cost (tPln p)
  obtain ⟨us, hus⟩ : ∃ us, tPln p = us := ⟨_, rfl⟩
  rw [hus] at hcost hbk hBY hOL
  obtain ⟨l0, l1, l2, l3⟩ := p
  dsimp only at h0 h1 h2 h3 q0 q1 q2 q3 ⊢
  have d0 : decide (50 < (l0.length : Int)) = false := decide_eq_false (by omega)
  have d1 : decide (50 < (l1.length : Int)) = false := decide_eq_false (by omega)
  have d2 : decide (100 < (l2.length : Int)) = false := decide_eq_false (by omega)
  have d3 : decide (200 < (l3.length : Int)) = false := decide_eq_false (by omega)
  have d4 : decide (1000 < (odd.length : Int)) = false := decide_eq_false (by omega)
  have HQ := Aside0.mk (And.intro q2 (And.intro q3 q4))
  have HUS := Aside0.mk hus
  have HCOST := Aside0.mk hcost
  have HBK := Aside0.mk hbk
  have HBY := Aside0.mk hBY
  have HOL := Aside0.mk hOL
  have HBYO := Aside0.mk hby
  have HCO := Aside0.mk hcO
  have hbx := below_alloc (Below.refl w.heap.size w) (Obj.cells #[.slice A0 l0.length k0, .slice A1 l1.length k1, .slice A2 l2.length k2, .slice A3 l3.length k3] 46)
  have hbox := heap_last w (Obj.cells #[.slice A0 l0.length k0, .slice A1 l1.length k1, .slice A2 l2.length k2, .slice A3 l3.length k3] 46)
  have H0 := Aside0.mk h0
  have H1 := Aside0.mk h1
  have H2 := Aside0.mk h2
  have H3 := Aside0.mk h3
  have HO := Aside0.mk hO
  have HBX := Aside0.mk hbx
  have HBOX := Aside0.mk hbox
  clear h0 h1 h2 h3 hO hcO hby hbx hbox q0 q1 q2 q3 q4 hus hcost hbk hBY hOL
  go_enter Try.func5, Try.ntmps5
  go_wp2_with (fail)
  refine (anchor_calls _).mono ?_
  rintro e w1 ⟨rfl, hb⟩
  have HB := Aside0.mk (below_step HBX.out hb)
  have HP := Aside0.mk ((hb.block _ (blk_lt HBOX.out)).trans HBOX.out)
  have HPL : Aside0 (w.heap.size < w1.heap.size) := ⟨blk_lt HP.out⟩
  clear hb HBX HBOX
  have hp0 := (blk_cell HP.out) 0
  have hp1 := (blk_cell HP.out) 1
  have hp2 := (blk_cell HP.out) 2
  have hp3 := (blk_cell HP.out) 3
  have hR := heap_last w1 (.cells #[.slice A0 l0.length k0, .slice A1 l1.length k1, .slice none 0 0, .slice A3 l3.length k3] 49)
  have hbR := below_alloc (Below.refl w1.heap.size w1) (.cells #[.slice A0 l0.length k0, .slice A1 l1.length k1, .slice none 0 0, .slice A3 l3.length k3] 49)
  have hp2' := (blk_cell ((hbR.block _ (blk_lt HP.out)).trans HP.out)) 2
  have HR := Aside0.mk hR
  have HBR := Aside0.mk hbR
  clear hR hbR
  go_wp2
  clear d0 d1 d2 d3 d4 hp0 hp1 hp2 hp3 hp2'
  go_loopg [7, 59] l2.length (fun kq v7 v59 w' => ∃ (i : Nat) (A : Option Addr) (c : Nat), v59 = .int .i64 (i : Int) ∧ Aside0 (i + kq = l2.length) ∧ Aside0 (Kd.R kStp 52 w' w1.heap.size (fun _ => True) (.slice A i c) (l2.take i)) ∧ Aside0 (w'.heap[w1.heap.size]? = some (.cells #[.slice A0 l0.length k0, .slice A1 l1.length k1, .slice A i c, .slice A3 l3.length k3] 49)) ∧ Aside0 (Below w1.heap.size w1 w'))
  case atStart => exact ⟨0, none, 0, rfl, ⟨by omega⟩, ⟨Kd.R_nil _ _ _ _ _⟩, HR, HBR⟩
  case round =>
    clear HR HBR
    obtain ⟨i, A, c, rfl, HI, HRO, HR, HBR⟩ := hrel
    by_cases c1 : i < l2.length
    · have e1 : decide (i < l2.length) = true := decide_eq_true c1
      have e5 : wrap64 ((i : Int) + 1) = ((i + 1 : Nat) : Int) := by have := HQ.out; unfold wrap64; omega
      obtain ⟨ad, ea, y0, y1⟩ := at_stp H2.out i c1
      cases ea
      have ht : l2.take (i + 1) = l2.take i ++ [l2.getD i (0, 0)] := by rw [List.take_succ_eq_append_getElem c1, List.getD_eq_getElem?_getD, List.getElem?_eq_getElem c1]; rfl
      generalize l2.getD i (0, 0) = x at y0 y1 ht
      have HT := Aside0.mk ht
      have hx0 := pw_cell_below (below_step HB.out HBR.out) y0
      have hx1 := pw_cell_below (below_step HB.out HBR.out) y1
      have hb7 := below_alloc (Below.refl wr.heap.size wr) (Obj.cells #[.int .i64 x.1, .int .i64 x.2] 51)
      have hq := (blk_cell ((hb7.block _ (blk_lt HR.out)).trans HR.out)) 2
      have hb8 := below_alloc hb7 (Obj.cells #[.int .i64 x.1, .int .i64 x.2] 52)
      have HR8 := Aside0.mk ((hb8.block _ (blk_lt HR.out)).trans HR.out)
      have HRO8 := Aside0.mk (Kd.R_below HRO.out hb8)
      have hL8 := lit_row2 (wr.alloc (.cells #[.int .i64 x.1, .int .i64 x.2] 51)) x 52
      rw [World.size_alloc] at hL8
      have HL8 := Aside0.mk hL8
      have HB8 := Aside0.mk (below_step HBR.out hb8)
      clear hb7 hb8 y0 y1 ht hL8
      have HLEN : Aside0 ((l2.take i).length ≤ 1000) := ⟨by have := HQ.out; rw [List.length_take]; omega⟩
      go_wp2_with ((with_reducible refine gate_builtin (b := .append) (xs := #[.tmp 64, .tmp 66]) rfl ?_); at_builtin; refine Kd.R_append_rows kStp (w0 := w1) w1.heap.size rfl (.tmp 64) (.tmp 66) 47 52 (.agg #[.int .i64 0, .int .i64 0]) 16 rfl Try.underlying47 info_rstp rfl (by decide) (by decide) (.slice A i c) (l2.take i) [x] (some ⟨wr.heap.size + 1, 0, none⟩) 1 1 (fun _ => True) (fun k => some k ≠ (Value.slice A i c).ownBlock) rfl rfl HRO8.out HL8.out (fun p cs h => ⟨[_], [_], h, rfl, rfl⟩) (fun k hk => ⟨trivial, hk⟩) (fun k hk => trivial) HB8.out (below_size HB8.out) (by have := HLEN.out; omega) ?_; intro v44 w8 ho hb hgr hat; rw [← HT.out] at ho; obtain ⟨A44, c44, hv44⟩ := Kd.R_slice ho; rw [List.length_take, Nat.min_eq_left (by omega)] at hv44; subst hv44; have HRO9 := Aside0.mk ho; have HB9 := Aside0.mk hb; have HR9 := Aside0.mk ((hgr.block _ (blk_lt HR8.out) (Kd.R_ne HRO8.out HR8.out (by decide))).trans HR8.out); have hq9 := (blk_cell HR9.out) 2; have hf9 := free_of HR9.out 2; clear ho hb hgr hat)
      go_roundg (gk - 1)
      case measure => have := HI.out; omega
      case rel => exact ⟨i + 1, A44, c44, (by first | exact congrArg _ e5 | rfl), ⟨by have := HI.out; omega⟩, ⟨Kd.R_set HRO9.out HR9.out (by decide) _ _⟩, ⟨box_set (o := 2) HR9.out _⟩, ⟨HB9.out.setCell (p := ⟨w1.heap.size, 2, none⟩) (Nat.le_refl _) _⟩⟩
    · have e1 : decide (i < l2.length) = false := decide_eq_false c1
      obtain rfl : i = l2.length := by have := HI.out; omega
      have hro := HRO.out
      rw [List.take_of_length_le (Nat.le_refl _)] at hro
      obtain ⟨_, hcS, hCS⟩ := Kd.R_reads' hro
      have HS := Aside0.mk hCS
      have hbW := below_alloc (Below.refl wr.heap.size wr) (Obj.cells #[.slice none 0 0, .bool false] 27)
      have HOT := OT.new 27 wr
      have hrx := (hbW.block _ (blk_lt HR.out)).trans HR.out
      have hr0 := (blk_cell hrx) 0
      have hr1 := (blk_cell hrx) 1
      have hr2 := (blk_cell hrx) 2
      have hr3 := (blk_cell hrx) 3
      have HBW := Aside0.mk (below_step HB.out HBR.out)
      have HPR := Aside0.mk ((HBR.out.block _ (blk_lt HP.out)).trans HP.out)
      have K := Aside0.mk (W_Plan_T wr.heap.size (l0, l1, l2, l3) A0 A1 A A3 k0 k1 c k3 [] wr _ HOT hbW (Kd.C_below H0.out HBW.out) (Kd.C_below H1.out HBW.out) HS.out (Kd.C_below H3.out HBW.out) (by rw [costT_nil, HUS.out]; have := HCOST.out; omega))
      dsimp only at K
      rw [HUS.out, List.nil_append] at K
      have HBW0 := Aside0.mk hbW
      clear hro hcS hCS HOT hbW hrx HRO HI HR
      go_wp2_with (fail)
      refine K.out.mono ?_
      rintro e w2 ⟨rfl, ho, hb, hk⟩
      clear hr0 hr1 hr2 hr3 K
      have HOT := Aside0.mk ho
      have HGW : Aside0 (wr.heap.size < w2.heap.size) := ⟨ho.lt⟩
      have HB2 := Aside0.mk (below_step HBW.out hb)
      have HP2 := Aside0.mk ((hb.block _ (blk_lt HPR.out)).trans HPR.out)
      clear ho hb hk HPR HBW HBW0
      have hp0 := (blk_cell HP2.out) 0
      have hp1 := (blk_cell HP2.out) 1
      have hp2 := (blk_cell HP2.out) 2
      have hp3 := (blk_cell HP2.out) 3
      have K := Aside0.mk (PutPlan_T (l0, l1, l2, l3) A0 A1 A2 A3 k0 k1 k2 k3 w2 (Kd.C_below H0.out HB2.out) (Kd.C_below H1.out HB2.out) (Kd.C_below H2.out HB2.out) (Kd.C_below H3.out HB2.out) (by rw [HUS.out]; have := HCOST.out; omega) (by have := HQ.out; show l2.length ≤ _; omega) (by have := HQ.out; show l3.length ≤ _; omega))
      rw [HUS.out] at K
      dsimp only at K
      obtain ⟨E, hE⟩ : ∃ E, endE us = E := ⟨_, rfl⟩
      obtain ⟨L, hL⟩ : ∃ L, endL us = L := ⟨_, rfl⟩
      rw [hE, hL] at K
      have HE := Aside0.mk hE
      have HLL := Aside0.mk hL
      clear hE hL
      go_wp2_with (fail)
      refine K.out.mono ?_
      rintro e w3 ⟨v, rfl, hr, hb⟩
      clear hp0 hp1 hp2 hp3 K
      obtain ⟨Ab, cb, rfl, hcb, hCb⟩ := Kd.R_reads hr
      have HCB := Aside0.mk hCb
      have HCBc := Aside0.mk hcb
      have HB3 := Aside0.mk (below_step HB2.out hb)
      have HP3 := Aside0.mk ((hb.block _ (blk_lt HP2.out)).trans HP2.out)
      have HOT3 := Aside0.mk (HOT.out.below hb)
      clear hr hb hcb hCb HB2 HP2 HOT
      obtain ⟨bs, bad, ⟨vB, hgB, hgB0, hRB⟩, hsay⟩ := HOT3.out
      have hB1 := (blk_cell hgB) 1
      have HGB := Aside0.mk hgB
      have HRB := Aside0.mk hRB
      have HSAY := Aside0.mk hsay
      clear hgB hgB0 hRB hsay
      cases hok : okT us with
      | false =>
        have hbad : bad = true := by have := HSAY.out.1; rw [hok] at this; exact this
        have hE : E = 12 := by rw [← HE.out, endE, hok]; rfl
        have hL : L = [] := by rw [← HLL.out, endL, hok]; rfl
        subst hbad
        subst hE
        subst hL
        clear hok
        go_wp2
        go_ret
        exact ⟨rfl, HB3.out⟩
      | true =>
        have hbad : bad = false := by have := HSAY.out.1; rw [hok] at this; exact this
        have hE : E = 0 := by rw [← HE.out, endE, hok]; rfl
        have hL : L = outT us := by rw [← HLL.out, endL, hok]; rfl
        have hbs : bs = outT us := HSAY.out.2.1 hok
        subst hbad
        subst hE
        obtain ⟨hbk1, hbk2⟩ := HBK.out hok
        have HOK := Aside0.mk hok
        rw [← hL] at hbs hbk1 hbk2
        have HBYL : Aside0 (Bytes L) := ⟨hL ▸ HBY.out⟩
        have HLN : Aside0 (L.length ≤ 10000) := ⟨by rw [hL]; have := HOL.out; have := HCOST.out; omega⟩
        have HLU := Aside0.mk hL
        subst hbs
        have HF1 := Aside0.mk hbk1
        have HF2 := Aside0.mk hbk2
        clear hok hL hbk1 hbk2 HE HLL HSAY HBK
        have K := Aside0.mk (GetPlan_T Ab cb bs w3 HCB.out HCBc.out HBYL.out (by have := HLN.out; omega))
        go_wp2_with (fail)
        refine K.out.mono ?_
        rintro e w4 ⟨x, u0, u1, u2, u3, rfl, r0, r1, r2, r3, hx, _, hb⟩
        have hx' := hx HF2.out
        rw [HF1.out] at hx'
        simp only [Except.ok.injEq, Prod.mk.injEq, and_true] at hx'
        subst hx'
        dsimp only at r0 r1 r2 r3
        clear hx K hB1
        obtain ⟨B0, e0, rfl, hd0, g0⟩ := Kd.R_reads r0
        obtain ⟨B1, e1', rfl, hd1, g1⟩ := Kd.R_reads r1
        obtain ⟨B2, e2, rfl, hd2, g2⟩ := Kd.R_reads r2
        obtain ⟨B3, e3, rfl, hd3, g3⟩ := Kd.R_reads r3
        rw [HF2.out]
        have hb46 := below_alloc (Below.refl w4.heap.size w4) (Obj.cells #[.slice B0 l0.length e0, .slice B1 l1.length e1', .slice B2 l2.length e2, .slice B3 l3.length e3] 46)
        have hbox := heap_last w4 (.cells #[.slice B0 l0.length e0, .slice B1 l1.length e1', .slice B2 l2.length e2, .slice B3 l3.length e3] 46)
        have HB5 := Aside0.mk (below_step (below_step HB3.out hb) hb46)
        have hb5 := below_step hb hb46
        have HP5 := Aside0.mk ((hb5.block _ (blk_lt HP3.out)).trans HP3.out)
        have HGB5 := Aside0.mk ((hb5.block _ (blk_lt HGB.out)).trans HGB.out)
        have HRB5 := Aside0.mk (Kd.R_below HRB.out hb5)
        have HCB5 := Aside0.mk (Kd.C_below HCB.out hb5)
        have HBX5 := Aside0.mk hbox
        have K := Aside0.mk (PutPlan_T (l0, l1, l2, l3) B0 B1 B2 B3 e0 e1' e2 e3 _ (Kd.C_below g0 hb46) (Kd.C_below g1 hb46) (Kd.C_below g2 hb46) (Kd.C_below g3 hb46) (by rw [HUS.out]; have := HCOST.out; omega) (by have := HQ.out; show l2.length ≤ _; omega) (by have := HQ.out; show l3.length ≤ _; omega))
        rw [HUS.out, endE, endL, HOK.out, if_pos rfl, if_pos rfl, ← HLU.out] at K
        dsimp only at K
        clear hb hb46 hbox hb5 r0 r1 r2 r3 g0 g1 g2 g3 hd0 hd1 hd2 hd3 HP3 HGB HRB HCB HOT3 HB3
        go_wp2_with (fail)
        refine K.out.mono ?_
        rintro e w6 ⟨v, rfl, hr, hb⟩
        clear K
        obtain ⟨Ac, cc, rfl, hcc, hCc⟩ := Kd.R_reads hr
        have HB6 := Aside0.mk (below_step HB5.out hb)
        have HP6 := Aside0.mk ((hb.block _ (blk_lt HP5.out)).trans HP5.out)
        have HGB6 := Aside0.mk ((hb.block _ (blk_lt HGB5.out)).trans HGB5.out)
        have HBX6 := Aside0.mk ((hb.block _ (blk_lt HBX5.out)).trans HBX5.out)
        obtain ⟨AB, cB, hvB, hcB, hCB⟩ := Kd.R_reads (Kd.R_below HRB5.out hb)
        have HCB6 := Aside0.mk (Kd.C_below HCB5.out hb)
        have HCC := Aside0.mk hCc
        have HCCc := Aside0.mk hcc
        have HCW := Aside0.mk hCB
        have HCWc := Aside0.mk hcB
        subst hvB
        have hB0 := (blk_cell HGB6.out) 0
        have hx2 := (blk_cell HBX6.out) 2
        have hp2 := (blk_cell HP6.out) 2
        clear hr hb hcc hCc hcB hCB HB5 HP5 HGB5 HBX5 HCB5 HRB5
        obtain ⟨ks, hs⟩ := same_self bs (by have := HLN.out; omega)
        have HSM := Aside0.mk hs
        clear hs
        go_wp2_with (fail)
        refine (slipwayref11_Same.calls ks Ab cb bs AB cB bs true w6 HCB6.out HCBc.out HCW.out HCWc.out HSM.out).mono ?_
        rintro e w7 ⟨rfl, ⟨⟨n7, rfl⟩⟩⟩
        go_wp2_with (fail)
        refine (slipwayref11_Same.calls ks Ac cc bs Ab cb bs true (w6.drewN n7) (Kd.C_drewN HCC.out n7) HCCc.out (Kd.C_drewN HCB6.out n7) HCBc.out HSM.out).mono ?_
        rintro e w8 ⟨rfl, ⟨⟨n8, rfl⟩⟩⟩
        have HO6 := Aside0.mk (Kd.C_below HO.out HB6.out)
        go_wp2_with (fail)
        refine (GetPlan_T AO kO odd _ (Kd.C_drewN HO6.out _) HCO.out HBYO.out (by have := HQ.out; omega)).mono ?_
        rintro e w10 ⟨x, u0, u1, u2, u3, rfl, r0, r1, r2, r3, hx0, hx1, hb⟩
        clear hB0 hx2 hp2
        have HB10 := Aside0.mk (below_step (pw_below_drewN HB6.out _) hb)
        have HO10 := Aside0.mk (Kd.C_below HO.out HB10.out)
        have HX0 := Aside0.mk hx0
        have HX1 := Aside0.mk hx1
        obtain ⟨B0, e0, rfl, hd0, g0⟩ := Kd.R_reads r0
        obtain ⟨B1, e1', rfl, hd1, g1⟩ := Kd.R_reads r1
        obtain ⟨B2, e2, rfl, hd2, g2⟩ := Kd.R_reads r2
        obtain ⟨B3, e3, rfl, hd3, g3⟩ := Kd.R_reads r3
        obtain ⟨F, hF⟩ : ∃ F, finP rPln odd = F := ⟨_, rfl⟩
        rw [hF]
        have HF := Aside0.mk hF
        have hb46 := below_alloc (Below.refl w10.heap.size w10) (Obj.cells #[.slice B0 x.1.length e0, .slice B1 x.2.1.length e1', .slice B2 x.2.2.1.length e2, .slice B3 x.2.2.2.length e3] 46)
        have hbox := heap_last w10 (.cells #[.slice B0 x.1.length e0, .slice B1 x.2.1.length e1', .slice B2 x.2.2.1.length e2, .slice B3 x.2.2.2.length e3] 46)
        obtain ⟨W11, hW11⟩ : ∃ W, w10.alloc (.cells #[.slice B0 x.1.length e0, .slice B1 x.2.1.length e1', .slice B2 x.2.2.1.length e2, .slice B3 x.2.2.2.length e3] 46) = W := ⟨_, rfl⟩
        have hS11 : W11.heap.size = w10.heap.size + 1 := by rw [← hW11, World.size_alloc]
        rw [hW11] at hb46 hbox
        have HR11 := RT.new (c := kO) (Kd.C_below HO10.out hb46)
        rw [hS11] at HR11
        have HG0 := Aside0.mk g0
        have HG1 := Aside0.mk g1
        have HG2 := Aside0.mk g2
        have HG3 := Aside0.mk g3
        have HB46 := Aside0.mk hb46
        have HBOX := Aside0.mk hbox
        have K := Aside0.mk (R_Plan_R (w10.heap.size + 1) odd ⟨HBYO.out, by have := HQ.out; omega⟩ (.left odd) W11 _ HR11 (below_alloc (Below.refl _ _) _))
        have HBR := Aside0.mk (below_alloc (Below.refl W11.heap.size W11) (.cells #[.slice AO odd.length kO, .int .i64 0, .int .i64 0] 39))
        subst hW11
        clear hF hx0 hx1 hb46 hbox hS11 HR11 hb r0 r1 r2 r3 g0 g1 g2 g3 hd0 hd1 hd2 hd3
        go_wp2_with (fail)
        refine K.out.mono ?_
        rintro e w12 ⟨vP, xP, stP, rfl, _, hs, hi, hb, hk⟩
        have HFIN := Aside0.mk (hs.fin (fun e h => RT.ne (h ▸ hi))).1
        have HB12 := Aside0.mk hb
        have K2 := Aside0.mk (R_End_R (w10.heap.size + 1) odd stP _ w12 hi hb)
        rw [HFIN.out, HF.out] at K2
        clear hs hi hb hk K
        go_wp2_with (fail)
        refine K2.out.mono ?_
        rintro e w13 ⟨rfl, ⟨ip, ⟨AR, cR, hgR, _⟩⟩, hb, hk⟩
        have HB13 := Aside0.mk (below_step (below_step HB10.out HB46.out) hb)
        have HBOX13 := Aside0.mk ((hb.block _ (blk_lt HBOX.out)).trans HBOX.out)
        have HBB13 := Aside0.mk (below_step HB46.out hb)
        have hR2 := (blk_cell hgR) 2
        have hx0 := (blk_cell HBOX13.out) 0
        have hx1 := (blk_cell HBOX13.out) 1
        have hx2 := (blk_cell HBOX13.out) 2
        have hx3 := (blk_cell HBOX13.out) 3
        clear hb hk hgR K2
        by_cases h0 : F = 0
        · have z0 : (F == 0) = true := beq_iff_eq.2 h0
          have z1 : (F != 0) = false := bne_eq_false_iff_eq.2 h0
          obtain ⟨f1, f2, f3⟩ := fin_from fit_pln HBYO.out (HX0.out (HF.out.trans h0))
          have hcx := cost_pln x
          have K := Aside0.mk (PutPlan_T x B0 B1 B2 B3 e0 e1' e2 e3 w13 (Kd.C_below HG0.out HBB13.out) (Kd.C_below HG1.out HBB13.out) (Kd.C_below HG2.out HBB13.out) (Kd.C_below HG3.out HBB13.out) (by have := HQ.out; omega) (by have := HQ.out; omega) (by have := HQ.out; omega))
          rw [endE, endL, f1, if_pos rfl, if_pos rfl, f2] at K
          clear h0 f1 f2 f3 hcx
          go_wp2_with (fail)
          refine K.out.mono ?_
          rintro e w14 ⟨v, rfl, hr, hb⟩
          obtain ⟨Ad, cd, rfl, hcd, hCd⟩ := Kd.R_reads hr
          have HCD := Aside0.mk hCd
          have HCDc := Aside0.mk hcd
          have HB14 := Aside0.mk (below_step HB13.out hb)
          have HO14 := Aside0.mk (Kd.C_below HO.out HB14.out)
          clear hr hb hcd hCd K
          obtain ⟨ks2, hs2⟩ := same_self odd (by have := HQ.out; omega)
          have HSM2 := Aside0.mk hs2
          clear hs2
          go_wp2_with (fail)
          refine (slipwayref11_Same.calls ks2 Ad cd odd AO kO odd true w14 HCD.out HCDc.out HO14.out HCO.out HSM2.out).mono ?_
          rintro e w15 ⟨rfl, ⟨⟨n15, rfl⟩⟩⟩
          go_wp2
          go_ret
          exact ⟨rfl, pw_below_drewN HB14.out n15⟩
        · have z0 : (F == 0) = false := beq_eq_false_iff_ne.2 h0
          have z1 : (F != 0) = true := bne_iff_ne.2 h0
          have hxe := HX1.out (fun h => h0 (HF.out.symm.trans h))
          subst hxe
          clear h0
          go_wp2
          go_ret
          exact ⟨rfl, HB13.out⟩
end Go.Proofs.Ythefbeekcjchcaa.P
