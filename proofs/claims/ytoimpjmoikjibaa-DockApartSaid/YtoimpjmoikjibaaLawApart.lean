/- The law DockApart, walked. -/
import Derived.Test.YtoimpjmoikjibaaDkP
import Derived.BigQuiet
namespace Go.Proofs.Ytoimpjmoikjibaa.Dk
open Go Go.RowKit Go.ChangeMaps Go.Proofs.Ytoimpjmoikjibaa.IMap Go.Proofs.YtoimpjmoikjibaaW.PrintWords Go.Proofs.YtoimpjmoikjibaaW.PrintLast Go.Proofs.YtoimpjmoikjibaaW.PrintMore
set_option linter.unusedVariables false
set_option linter.unusedSimpArgs false
set_option maxHeartbeats 8000000 in
set_option maxRecDepth 20000 in
theorem DockApart_main (b : List Int) (l : List (Int × Int × Int × List Int × List Int)) (A0 A1 : Option Addr) (c0 c1 : Nat) (w : World) (h0 : Kd.C (Kd.int .u8) w A0 b.length b) (hc0 : b.length ≤ c0) (h1 : Kd.C kOp w A1 l.length l) (hc1 : l.length ≤ c1) (hn : ∀ x ∈ l, x.2.2.1 ≤ 9223372036854775807) :
    Calls Try.prog 6 #[.slice A0 b.length c0, .slice A1 l.length c1] w fun e w' => e = .returned (.bool true) ∧ Below w.heap.size w w' := by
  have HC0 := Aside0.mk h0
  have HC1 := Aside0.mk h1
  have HL0 := Aside0.mk hc0
  have HL1 := Aside0.mk hc1
  have hl0 := h0.2.1
  have hl1 := h1.2.1
  have HN0 := Aside0.mk hl0
  have HN1 := Aside0.mk hl1
  have HN := Aside0.mk hn
  clear h0 h1 hc0 hc1 hl0 hl1 hn
  go_enter Try.func6, Try.ntmps6
  go_wp2_with (fail)
  refine (anchor_T w).mono ?_
  rintro e w1 ⟨rfl, hb1⟩
  have HB1 := Aside0.mk hb1
  clear hb1
  go_wp2_with (fail)
  all_goals first | (go_ret; exact ⟨rfl, HB1.out⟩) | skip
  have hl : (b.length : Int) ≤ 500 ∧ (l.length : Int) ≤ 60 := by assumption
  have HLA := Aside0.mk hl.1
  have HLB := Aside0.mk hl.2
  clear hl
  refine (New_L (w0 := w) 1048576 w1 (by omega) (by omega) HB1.out).mono ?_
  rintro e w2 ⟨g, rfl, h2⟩
  have K := Append_L h2 500 A0 c0 b (Kd.C_below HC0.out h2.from) (by have := HLA.out; omega)
  rw [app_new 500 b 1048576 (by omega) (by omega) (by have := HLA.out; omega)] at K
  have K := Aside0.mk K
  clear h2
  go_wp2_with (fail)
  refine K.out.mono ?_
  rintro e w3 ⟨rfl, h3⟩
  have h3 : LW w w3 g (one 500 b 0 1048576) := h3
  have K2 := Sync_L h3 500
  rw [syn_one] at K2
  have K2 := Aside0.mk K2
  clear K h3
  go_wp2_with (fail)
  refine K2.out.mono ?_
  rintro e w4 ⟨rfl, h4⟩
  have H4 : Aside0 (Keeps500 w w4 g b) := ⟨_, h4, get_one _ _⟩
  clear K2 h4
  go_wp2_with (fail)
  go_loopg [7, 36] l.length (fun kq v7 v36 w' => ∃ (i : Nat), v36 = .int .i64 (i : Int) ∧ Aside0 (i + kq = l.length) ∧ Aside0 (Keeps500 w w' g b))
  case atStart => exact ⟨0, rfl, ⟨by omega⟩, H4⟩
  case round =>
    clear H4
    obtain ⟨i, rfl, HJ, HI⟩ := hrel
    by_cases c1 : i < l.length
    · have e1 : decide (i < l.length) = true := decide_eq_true c1
      have HE5 : Aside0 (wrap64 ((i : Int) + 1) = ((i + 1 : Nat) : Int)) := ⟨by have := HLB.out; unfold wrap64; omega⟩
      have HLi := Aside0.mk c1
      obtain ⟨x, hx⟩ : ∃ x, l[i]? = some x := ⟨_, List.getElem?_eq_getElem c1⟩
      obtain ⟨k, nm, n, da, ke⟩ := x
      have hnn : n ≤ 9223372036854775807 := HN.out _ (List.mem_of_getElem? hx)
      obtain ⟨ad, Ad, cd, Ak, ck, hA, hcells, hda, hdc, hke, hkc⟩ := elem_Op HC1.out i k nm n da ke hx
      obtain ⟨hx0, hx1, hx2, hx3, hx4⟩ := hcells wr HI.out.from
      cases hA
      have H0 := Aside0.mk (HI.out.below (below_alloc (Below.refl wr.heap.size wr) (Obj.cells #[.int .i64 k, .int .i64 nm, .int .i64 n, .slice Ad da.length cd, .slice Ak ke.length ck] 45)))
      have HDA := Aside0.mk hda
      have HKE := Aside0.mk hke
      have HNN := Aside0.mk hnn
      clear hx hcells hda hdc hke hkc hnn
      by_cases hbig : 500 < da.length ∨ 100 < ke.length
      · go_wp2
        all_goals first | (exfalso; omega) | (go_ret; exact ⟨rfl, H0.out.from⟩)
      · have HS1 : Aside0 (da.length ≤ 500 ∧ ke.length ≤ 100) := ⟨by omega⟩
        by_cases hnm : nm = 500
        · subst hnm
          go_wp2
          all_goals first | (exfalso; omega) | skip
          all_goals
            go_roundg (gk - 1)
            case measure => have := HJ.out; have := HLi.out; omega
            case rel => exact ⟨i + 1, (by first | exact congrArg _ HE5.out | rfl), ⟨by have := HJ.out; have := HLi.out; omega⟩, H0⟩
        · have K1 := Aside0.mk (K5_app H0.out nm hnm Ad cd da (Kd.C_below HDA.out H0.out.from) (by have := HS1.out; omega))
          have K2 := Aside0.mk (K5_syn H0.out nm hnm)
          have K3 := Aside0.mk (K5_rmv H0.out nm hnm)
          have K4 := Aside0.mk (K5_cut H0.out nm n hnm)
          have K5 := Aside0.mk (K5_arm H0.out n (by have := HNN.out; omega))
          have K6 := Aside0.mk (K5_crash H0.out Ak ck ke HKE.out (by have := HS1.out; omega))
          go_wp2_with (first
            | (go_at_call 16; refine K1.out.mono ?_; rintro e wx ⟨⟨r, rfl⟩, hx⟩; have HX := Aside0.mk hx; clear hx)
            | (go_at_call 17; refine K2.out.mono ?_; rintro e wx ⟨⟨r, rfl⟩, hx⟩; have HX := Aside0.mk hx; clear hx)
            | (go_at_call 25; refine K3.out.mono ?_; rintro e wx ⟨⟨r, rfl⟩, hx⟩; have HX := Aside0.mk hx; clear hx)
            | (go_at_call 27; refine K4.out.mono ?_; rintro e wx ⟨⟨r, rfl⟩, hx⟩; have HX := Aside0.mk hx; clear hx)
            | (go_at_call 22; refine K5.out.mono ?_; rintro e wx ⟨rfl, hx⟩; have HX := Aside0.mk hx; clear hx)
            | (go_at_call 18; refine K6.out.mono ?_; rintro e wx ⟨rfl, sx, hx, hgx, hdx⟩; have HX : Aside0 (Keeps500 w wx g b) := ⟨sx, hx, hgx⟩; clear hx hgx hdx))
          all_goals first | (exfalso; omega) | skip
          all_goals
            go_roundg (gk - 1)
            case measure => have := HJ.out; have := HLi.out; omega
            case rel => exact ⟨i + 1, (by first | exact congrArg _ HE5.out | rfl), ⟨by have := HJ.out; have := HLi.out; omega⟩, by first | exact HX | exact H0⟩
    · have e1 : decide (i < l.length) = false := decide_eq_false c1
      have K := Aside0.mk (K5_crash HI.out none 0 [] (Kd.C_nil _ _) (by simp))
      go_wp2_with (fail)
      refine K.out.mono ?_
      rintro e w6 ⟨rfl, s6, h6, hg6, hd6⟩
      obtain ⟨q1, q2, q3⟩ := bytes_get s6 500 b hg6 hd6
      have K5 := Read_L h6 500
      rw [q1, q2] at K5
      have K5 := Aside0.mk K5
      have Q3 := Aside0.mk q3
      clear K h6 q1 q2 q3 hg6 hd6
      go_wp2_with (fail)
      refine K5.out.mono ?_
      rintro e w8 ⟨v, rfl, hr, h8, hb8⟩
      obtain ⟨A2, c2, rfl, hc2, hC2⟩ := Kd.R_reads hr
      have HB8 := Aside0.mk h8.from
      have hs1 := Kd.C_string (P := Try.prog) (src := 22) (dst := 9) (c := c2) Try.underlying22 Try.underlying5 Try.underlying9 hC2
      have hs3 := Kd.C_string (P := Try.prog) (src := 22) (dst := 9) (c := c0) Try.underlying22 Try.underlying5 Try.underlying9 (Kd.C_below HC0.out HB8.out)
      have K6 := Safe_L h8 500
      rw [Q3.out] at K6
      have K6 := Aside0.mk K6
      clear K5 hr hc2 hC2 hb8 h8
      generalize strOfNums b = s2 at hs1 hs3
      go_wp2_with (fail)
      refine K6.out.mono ?_
      rintro e w9 ⟨rfl, rfl⟩
      go_wp2
      go_ret
      refine ⟨?_, HB8.out⟩
      simp
def opsQ (l : List (Int × Int × Int × List Int × List Int)) : Bool := l.all fun x => decide (x.2.2.1 ≤ 9223372036854775807)
def slipwaylaw13_DockApart.f (_k : Nat) (_l0 : List Int) (l1 : List (Int × Int × Int × List Int × List Int)) : Option Bool := if opsQ l1 = true then some true else none
theorem slipwaylaw13_DockApart.calls (k : Nat) (A0 : Option Addr) (c0 : Nat) (l0 : List Int) (A1 : Option Addr) (c1 : Nat) (l1 : List (Int × Int × Int × List Int × List Int)) (r : Bool) (w : World) (hr0 : Kd.C (Kd.int .u8) w A0 l0.length l0) (hc0 : l0.length ≤ c0) (hr1 : Kd.C kOp w A1 l1.length l1) (hc1 : l1.length ≤ c1) (h : slipwaylaw13_DockApart.f k l0 l1 = some r) :
    Calls Try.prog 6 #[.slice A0 l0.length c0, .slice A1 l1.length c1] w fun e w' => e = .returned (.bool r) ∧ Below w.heap.size w w' := by
  unfold slipwaylaw13_DockApart.f at h
  split at h
  · rename_i hq
    obtain rfl := Option.some.inj h
    exact DockApart_main l0 l1 A0 A1 c0 c1 w hr0 hc0 hr1 hc1 (fun x hx => by simpa using List.all_eq_true.1 hq x hx)
  · cases h
end Go.Proofs.Ytoimpjmoikjibaa.Dk
namespace Go.Proofs.Ytoimpjmoikjibaa.Pure
open Go Go.Proofs.Ytoimpjmoikjibaa.Dk Go.Proofs.Ytoimpjmoikjibaa.Read
set_option linter.unusedVariables false
theorem DockApart (l0 : List Int) {G0 : Prop} (g0 : G0) (l1 : List (Int × Int × Int × List Int × List Int)) (g1 : goodList (fun x : Int × Int × Int × List Int × List Int => (Lit.int .i64 x.1).wf = true ∧ (Lit.int .i64 x.2.1).wf = true ∧ (Lit.int .i64 x.2.2.1).wf = true ∧ goodList (fun x => (Lit.int .u8 x).wf = true) x.2.2.2.1 ∧ goodList (fun x => (Lit.int .i64 x).wf = true) x.2.2.2.2) l1) : ∃ k, slipwaylaw13_DockApart.f k l0 l1 = some true := by
  refine ⟨0, if_pos (List.all_eq_true.2 fun x hx => ?_)⟩
  have h := (g1.2 x hx).2.2.1
  simp only [Lit.wf, decide_eq_true_eq, Bool.and_eq_true] at h
  rw [show IntKind.i64.min = -9223372036854775808 from rfl, show IntKind.i64.max = 9223372036854775807 from rfl] at h
  exact decide_eq_true (by omega)
end Go.Proofs.Ytoimpjmoikjibaa.Pure
