/- The law DockSafe, walked. -/
import Derived.Test.YtoimpjmoikjibaaDkO
import Derived.Test.YtoimpjmoikjibaaRead
import Derived.BigQuiet
namespace Go.Proofs.Ytoimpjmoikjibaa.Dk
open Go Go.RowKit Go.ChangeMaps Go.Proofs.Ytoimpjmoikjibaa.IMap Go.Proofs.YtoimpjmoikjibaaW.PrintWords Go.Proofs.YtoimpjmoikjibaaW.PrintLast Go.Proofs.YtoimpjmoikjibaaW.PrintMore
set_option linter.unusedVariables false
set_option linter.unusedSimpArgs false
theorem crash_two (k : Int) (a b : List Int) (c n : Int) : crash (one k (a ++ b) a.length c) [n] = one k (a ++ b.take (min n.toNat b.length)) (a ++ b.take (min n.toNat b.length)).length c := by
  rw [crash_one _ _ _ _ _ (by simp)]
  have e : a.length + min n.toNat ((a ++ b).length - a.length) = a.length + min n.toNat b.length := by rw [List.length_append]; omega
  rw [e, List.take_length_add_append]
  congr 1
  rw [List.length_append, List.length_append, List.length_take]
  omega
set_option maxHeartbeats 8000000 in
set_option maxRecDepth 20000 in
theorem DockSafe_main (b more : List Int) (n : Int) (A0 A1 : Option Addr) (c0 c1 : Nat) (w : World) (h0 : Kd.C (Kd.int .u8) w A0 b.length b) (hc0 : b.length ≤ c0) (h1 : Kd.C (Kd.int .u8) w A1 more.length more) (hc1 : more.length ≤ c1) :
    Calls Try.prog 3 #[.slice A0 b.length c0, .slice A1 more.length c1, .int .i64 n] w fun e w' => e = .returned (.bool true) ∧ Below w.heap.size w w' := by
  have HC0 := Aside0.mk h0
  have HC1 := Aside0.mk h1
  have HL0 := Aside0.mk hc0
  have HL1 := Aside0.mk hc1
  have hl0 := h0.2.1
  have hl1 := h1.2.1
  have HN0 := Aside0.mk hl0
  have HN1 := Aside0.mk hl1
  clear h0 h1 hc0 hc1 hl0 hl1
  go_enter Try.func3, Try.ntmps3
  go_wp2_with (fail)
  refine (anchor_T w).mono ?_
  rintro e w1 ⟨rfl, hb1⟩
  have HB1 := Aside0.mk hb1
  clear hb1
  go_wp2_with (fail)
  all_goals first | (go_ret; exact ⟨rfl, HB1.out⟩) | skip
  have hl : (b.length : Int) ≤ 1500 ∧ (more.length : Int) ≤ 1500 := by assumption
  have HLA := Aside0.mk hl.1
  have HLB := Aside0.mk hl.2
  clear hl
  refine (New_L (w0 := w) 4000 w1 (by omega) (by omega) HB1.out).mono ?_
  rintro e w2 ⟨g, rfl, h2⟩
  have e1 := app_new 7 b 4000 (by omega) (by omega) (by have := HLA.out; omega)
  have K := Append_L h2 7 A0 c0 b (Kd.C_below HC0.out h2.from) (by have := HLA.out; omega)
  rw [e1] at K
  have K := Aside0.mk K
  clear h2 e1
  go_wp2_with (fail)
  refine K.out.mono ?_
  rintro e w3 ⟨rfl, h3⟩
  have h3 : LW w w3 g (one 7 b 0 4000) := h3
  have K2 := Sync_L h3 7
  rw [syn_one] at K2
  have K2 := Aside0.mk K2
  clear K h3
  go_wp2_with (fail)
  refine K2.out.mono ?_
  rintro e w4 ⟨rfl, h4⟩
  have h4 : LW w w4 g (one 7 b b.length 4000) := h4
  have K3 := Append_L h4 7 A1 c1 more (Kd.C_below HC1.out h4.from) (by have := HLB.out; omega)
  rw [app_one 7 _ more _ 4000 (by omega) (by omega) (by have := HLA.out; have := HLB.out; omega)] at K3
  have K3 := Aside0.mk K3
  clear h4 K2
  go_wp2_with (fail)
  refine K3.out.mono ?_
  rintro e w5 ⟨rfl, h5⟩
  have h5 : LW w w5 g (one 7 (b ++ more) b.length 4000) := h5
  have K4 := Crash_lit h5 1 [n] (by simp)
  rw [crash_two] at K4
  have K4 := Aside0.mk K4
  clear h5 K3
  go_wp2_with (fail)
  refine K4.out.mono ?_
  rintro e w6 ⟨rfl, h6⟩
  have K5 := Read_L h6 7
  rw [findE_one, bytes_one] at K5
  have K5 := Aside0.mk K5
  clear h6 K4
  go_wp2_with (fail)
  refine K5.out.mono ?_
  rintro e w8 ⟨v, rfl, hr, h8, hb8⟩
  obtain ⟨A2, c2, rfl, hc2, hC2⟩ := Kd.R_reads hr
  have HB8 := Aside0.mk h8.from
  have HC2 := Aside0.mk hC2
  have H8 := Aside0.mk h8
  have HLB2 := HLB.out
  clear K5 hr hc2 hC2 h8 hb8
  obtain ⟨m, hm⟩ : ∃ m, m = min n.toNat more.length := ⟨_, rfl⟩
  rw [← hm] at HC2 H8 ⊢
  have emax : min (max n 0) (more.length : Int) = (m : Int) := by omega
  have hml : (m : Int) ≤ (more.length : Int) := by omega
  clear hm
  obtain ⟨i0, hi0, _, hsz, _⟩ := info_parts infoU8
  obtain ⟨hcut1, hA1, hA1c⟩ := print_take_of (P := Try.prog) (Value.int .u8) 0 22 5 .i64 Try.underlying22 hi0 hsz A1 c1 more (m : Int) (by omega) (by omega) HL1.out
  rw [Int.toNat_natCast] at hcut1 hA1 hA1c
  have hs1 := fun k => Kd.C_string (P := Try.prog) (src := 22) (dst := 9) (c := c2) Try.underlying22 Try.underlying5 Try.underlying9 (Kd.C_below HC2.out (pw_below_drewN (Below.refl w8.heap.size w8) k))
  have hs2 := fun k => Kd.C_string (P := Try.prog) (src := 22) (dst := 9) (c := c1) Try.underlying22 Try.underlying5 Try.underlying9 (Kd.C_of_reads (h1 := fun _ => rfl) (hA1 _ (Kd.reads_of_C (h1 := fun _ => rfl) (Kd.C_below HC1.out (pw_below_drewN HB8.out k)))))
  have hs3 := fun k => Kd.C_string (P := Try.prog) (src := 22) (dst := 9) (c := c0) Try.underlying22 Try.underlying5 Try.underlying9 (Kd.C_below HC0.out (pw_below_drewN HB8.out k))
  simp only [strOfNums_app, List.length_append] at hs1
  have hz1 : (strOfNums (more.take m)).size ≤ 1500 := by have := HLB.out; rw [strOfNums_sz, List.length_take]; omega
  have hz2 : (strOfNums b).size ≤ 1500 := by have := HLA.out; rw [strOfNums_sz]; omega
  have K6 := fun k => Safe_L (H8.out.below (pw_below_drewN (Below.refl w8.heap.size w8) k)) 7
  simp only [safe_one _ _ _ _ (show (0 : Int) ≤ 7 by omega)] at K6
  have K6 := Aside0.mk K6
  have K7 := Aside0.mk fun k => (show Calls _ _ _ _ (fun e w' => e = .returned (.bool false) ∧ _ = w') from Down_L (H8.out.below (pw_below_drewN (Below.refl w8.heap.size w8) k)))
  have hz3 : (b.length : Int) ≤ 1500 := HLA.out
  have hz4 : (more.take m).length ≤ 1500 := by have := HLB.out; rw [List.length_take]; omega
  clear hA1 hsz hi0 HC2
  generalize more.take m = T at hcut1 hs1 hs2 hz1 hz4 hA1c K6 K7 H8 ⊢
  generalize strOfNums T = s1 at hs1 hs2 hz1
  generalize strOfNums b = s2 at hs1 hs3 hz2
  go_wp2
  go_quiet (first
    | (go_at_call 20; refine Calls.quiet_of_same ((K6.out _).mono fun e w' ⟨he, hw⟩ => ⟨he, hw.symm⟩))
    | (go_at_call 21; refine Calls.quiet_of_same ((K7.out _).mono fun e w' ⟨he, hw⟩ => ⟨he, hw.symm⟩)))
  go_wp2
  go_ret
  refine ⟨?_, pw_below_drewN HB8.out _⟩
  simp
def slipwaylaw13_DockSafe.f (_k : Nat) (_l0 : List Int) (_l1 : List Int) (_a2 : Int) : Option Bool := some true
theorem slipwaylaw13_DockSafe.calls (k : Nat) (A0 : Option Addr) (c0 : Nat) (l0 : List Int) (A1 : Option Addr) (c1 : Nat) (l1 : List Int) (a2 : Int) (r : Bool) (w : World) (hr0 : Kd.C (Kd.int .u8) w A0 l0.length l0) (hc0 : l0.length ≤ c0) (hr1 : Kd.C (Kd.int .u8) w A1 l1.length l1) (hc1 : l1.length ≤ c1) (h : slipwaylaw13_DockSafe.f k l0 l1 a2 = some r) :
    Calls Try.prog 3 #[.slice A0 l0.length c0, .slice A1 l1.length c1, .int .i64 a2] w fun e w' => e = .returned (.bool r) ∧ Below w.heap.size w w' := by
  obtain rfl := Option.some.inj h
  exact DockSafe_main l0 l1 a2 A0 A1 c0 c1 w hr0 hc0 hr1 hc1
end Go.Proofs.Ytoimpjmoikjibaa.Dk
namespace Go.Proofs.Ytoimpjmoikjibaa.Pure
open Go.Proofs.Ytoimpjmoikjibaa.Dk
set_option linter.unusedVariables false
theorem DockSafe (l0 : List Int) {G0 : Prop} (g0 : G0) (l1 : List Int) {G1 : Prop} (g1 : G1) (a2 : Int) {G2 : Prop} (w2 : G2) : ∃ k, slipwaylaw13_DockSafe.f k l0 l1 a2 = some true := ⟨0, rfl⟩
end Go.Proofs.Ytoimpjmoikjibaa.Pure
