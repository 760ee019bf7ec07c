/- The law DockCuts, walked. -/
import Derived.Test.YtoimpjmoikjibaaDkO
import Derived.Test.YtoimpjmoikjibaaRead
import Derived.BigQuiet
namespace Go.Proofs.Ytoimpjmoikjibaa.Dk
open Go Go.RowKit Go.ChangeMaps Go.Proofs.Ytoimpjmoikjibaa.IMap Go.Proofs.YtoimpjmoikjibaaW.PrintWords Go.Proofs.YtoimpjmoikjibaaW.PrintLast Go.Proofs.YtoimpjmoikjibaaW.PrintMore
set_option linter.unusedVariables false
set_option linter.unusedSimpArgs false
set_option maxHeartbeats 8000000 in
set_option maxRecDepth 20000 in
theorem DockCuts_main (b more : List Int) (sy : Bool) (n : Int) (A0 A1 : Option Addr) (c0 c1 : Nat) (w : World) (h0 : Kd.C (Kd.int .u8) w A0 b.length b) (hc0 : b.length ≤ c0) (h1 : Kd.C (Kd.int .u8) w A1 more.length more) (hc1 : more.length ≤ c1) :
    Calls Try.prog 5 #[.slice A0 b.length c0, .bool sy, .int .i64 n, .slice A1 more.length c1] w fun e w' => e = .returned (.bool true) ∧ Below w.heap.size w w' := by
  have HC0 := Aside0.mk h0
  have HC1 := Aside0.mk h1
  have HL0 := Aside0.mk hc0
  have HL1 := Aside0.mk hc1
  have hl0 := h0.2.1
  have hl1 := h1.2.1
  have HN0 := Aside0.mk hl0
  have HN1 := Aside0.mk hl1
  clear h0 h1 hc0 hc1 hl0 hl1
  go_enter Try.func5, Try.ntmps5
  go_wp2_with (fail)
  refine (anchor_T w).mono ?_
  rintro e w1 ⟨rfl, hb1⟩
  have HB1 := Aside0.mk hb1
  clear hb1
  go_wp2_with (fail)
  all_goals first | (go_ret; exact ⟨rfl, HB1.out⟩) | skip
  have hl : (b.length : Int) ≤ 1000 ∧ (more.length : Int) ≤ 1000 := by assumption
  have HLA := Aside0.mk hl.1
  have HLB := Aside0.mk hl.2
  clear hl
  refine (New_L (w0 := w) 2000 w1 (by omega) (by omega) HB1.out).mono ?_
  rintro e w2 ⟨g, rfl, h2⟩
  have e1 := app_new 0 b 2000 (by omega) (by omega) (by have := HLA.out; omega)
  have K := Append_L h2 0 A0 c0 b (Kd.C_below HC0.out h2.from) (by have := HLA.out; omega)
  rw [e1] at K
  have K := Aside0.mk K
  have H2 := Aside0.mk h2
  clear h2 e1
  go_wp2_with (fail)
  refine K.out.mono ?_
  rintro e w3 ⟨rfl, h3⟩
  have h3 : LW w w3 g (one 0 b 0 2000) := h3
  clear K H2
  cases sy with
  | false =>
    have h4 := h3
    clear h3
    have H4 := Aside0.mk h4
    clear h4
    by_cases hn : n < 0 ∨ (b.length : Int) < n
    · have K := Cut_L H4.out 0 n
      rw [cut_one_bad 0 b 0 2000 n hn] at K
      have K := Aside0.mk K
      go_wp2_with (fail)
      refine K.out.mono ?_
      rintro e w5 ⟨rfl, h5⟩
      have h5 : LW w w5 g (one 0 b 0 2000) := h5
      have K5 := Size_L h5
      rw [size_one] at K5
      have K5 := Aside0.mk K5
      clear h5 K
      go_wp2_with (first | (go_at_call 26; refine K5.out.mono ?_; rintro e w6 ⟨rfl, h6, hb6⟩; have HB6 := Aside0.mk h6.from; clear h6 hb6))
      all_goals first | (exfalso; omega) | (go_ret; exact ⟨rfl, HB6.out⟩)
    · have K := Cut_L H4.out 0 n
      rw [cut_one 0 b 0 2000 n (by omega) (by omega)] at K
      have K := Aside0.mk K
      go_wp2_with (fail)
      refine K.out.mono ?_
      rintro e w5 ⟨rfl, h5⟩
      have h5 : LW w w5 g (one 0 (b.take n.toNat) (min 0 n.toNat) 2000) := h5
      have K5 := Append_L h5 0 A1 c1 more (Kd.C_below HC1.out h5.from) (by have := HLB.out; omega)
      rw [app_one 0 _ more _ 2000 (by omega) (by omega) (by have := HLA.out; have := HLB.out; rw [List.length_take]; omega)] at K5
      have K5 := Aside0.mk K5
      clear h5 K
      go_wp2_with (fail)
      all_goals first | (exfalso; omega) | skip
      refine K5.out.mono ?_
      rintro e w6 ⟨rfl, h6⟩
      have h6 : LW w w6 g (one 0 (b.take n.toNat ++ more) (min 0 n.toNat) 2000) := h6
      have K6 := Safe_L h6 0
      rw [safe_one _ _ _ _ (by omega)] at K6
      have K6 := Aside0.mk K6
      have H6 := Aside0.mk h6
      clear h6 K5
      have emin : min (0 : Int) n = ((min 0 n.toNat : Nat) : Int) := by omega
      go_wp2_with (fail)
      refine K6.out.mono ?_
      rintro e w7 ⟨rfl, rfl⟩
      have K7 := Read_L H6.out 0
      rw [findE_one, bytes_one] at K7
      have K7 := Aside0.mk K7
      clear K6 H6
      go_wp2_with (fail)
      refine K7.out.mono ?_
      rintro e w8 ⟨v, rfl, hr, h8, hb8⟩
      obtain ⟨A2, c2, rfl, hc2, hC2⟩ := Kd.R_reads hr
      have HB8 := Aside0.mk h8.from
      have HC2 := Aside0.mk hC2
      have HLB2 := HLB.out
      clear K7 hr hc2 hC2 h8 hb8
      obtain ⟨i0, hi0, _, hsz, _⟩ := info_parts infoU8
      obtain ⟨hcut1, hA1, hA1c⟩ := print_take_of (P := Try.prog) (Value.int .u8) 0 22 5 .i64 Try.underlying22 hi0 hsz A0 c0 b n (by omega) (by omega) HL0.out
      have hs1 := fun k => Kd.C_string (P := Try.prog) (src := 22) (dst := 9) (c := c2) Try.underlying22 Try.underlying5 Try.underlying9 (Kd.C_below HC2.out (pw_below_drewN (Below.refl w8.heap.size w8) k))
      have hs2 := fun k => Kd.C_string (P := Try.prog) (src := 22) (dst := 9) (c := c0) Try.underlying22 Try.underlying5 Try.underlying9 (Kd.C_of_reads (h1 := fun _ => rfl) (hA1 _ (Kd.reads_of_C (h1 := fun _ => rfl) (Kd.C_below HC0.out (pw_below_drewN HB8.out k)))))
      have hs3 := fun k => Kd.C_string (P := Try.prog) (src := 22) (dst := 9) (c := c1) Try.underlying22 Try.underlying5 Try.underlying9 (Kd.C_below HC1.out (pw_below_drewN HB8.out k))
      simp only [strOfNums_app, List.length_append] at hs1
      have hz1 : (strOfNums (b.take n.toNat)).size ≤ 1000 := by have := HLA.out; rw [strOfNums_sz, List.length_take]; omega
      have hz2 : (strOfNums more).size ≤ 1000 := by have := HLB.out; rw [strOfNums_sz]; omega
      clear hA1 hsz hi0 emin
      generalize b.take n.toNat = T at hcut1 hs1 hs2 hz1 hA1c ⊢
      generalize strOfNums T = s1 at hs1 hs2 hz1
      generalize strOfNums more = s2 at hs1 hs3 hz2
      go_wp2
      go_quiet (fail)
      go_wp2
      go_ret
      refine ⟨?_, pw_below_drewN HB8.out _⟩
      simp
  | true =>
    have K := Sync_L h3 0
    rw [syn_one] at K
    have K := Aside0.mk K
    clear h3
    go_wp2_with (fail)
    refine K.out.mono ?_
    rintro e w4 ⟨rfl, h4⟩
    have h4 : LW w w4 g (one 0 b b.length 2000) := h4
    clear K
    have H4 := Aside0.mk h4
    clear h4
    by_cases hn : n < 0 ∨ (b.length : Int) < n
    · have K := Cut_L H4.out 0 n
      rw [cut_one_bad 0 b b.length 2000 n hn] at K
      have K := Aside0.mk K
      go_wp2_with (fail)
      refine K.out.mono ?_
      rintro e w5 ⟨rfl, h5⟩
      have h5 : LW w w5 g (one 0 b b.length 2000) := h5
      have K5 := Size_L h5
      rw [size_one] at K5
      have K5 := Aside0.mk K5
      clear h5 K
      go_wp2_with (first | (go_at_call 26; refine K5.out.mono ?_; rintro e w6 ⟨rfl, h6, hb6⟩; have HB6 := Aside0.mk h6.from; clear h6 hb6))
      all_goals first | (exfalso; omega) | (go_ret; exact ⟨rfl, HB6.out⟩)
    · have K := Cut_L H4.out 0 n
      rw [cut_one 0 b b.length 2000 n (by omega) (by omega)] at K
      have K := Aside0.mk K
      go_wp2_with (fail)
      refine K.out.mono ?_
      rintro e w5 ⟨rfl, h5⟩
      have h5 : LW w w5 g (one 0 (b.take n.toNat) (min b.length n.toNat) 2000) := h5
      have K5 := Append_L h5 0 A1 c1 more (Kd.C_below HC1.out h5.from) (by have := HLB.out; omega)
      rw [app_one 0 _ more _ 2000 (by omega) (by omega) (by have := HLA.out; have := HLB.out; rw [List.length_take]; omega)] at K5
      have K5 := Aside0.mk K5
      clear h5 K
      go_wp2_with (fail)
      all_goals first | (exfalso; omega) | skip
      refine K5.out.mono ?_
      rintro e w6 ⟨rfl, h6⟩
      have h6 : LW w w6 g (one 0 (b.take n.toNat ++ more) (min b.length n.toNat) 2000) := h6
      have K6 := Safe_L h6 0
      rw [safe_one _ _ _ _ (by omega)] at K6
      have K6 := Aside0.mk K6
      have H6 := Aside0.mk h6
      clear h6 K5
      have emin : min (b.length : Int) n = ((min b.length n.toNat : Nat) : Int) := by omega
      go_wp2_with (fail)
      refine K6.out.mono ?_
      rintro e w7 ⟨rfl, rfl⟩
      have K7 := Read_L H6.out 0
      rw [findE_one, bytes_one] at K7
      have K7 := Aside0.mk K7
      clear K6 H6
      go_wp2_with (fail)
      refine K7.out.mono ?_
      rintro e w8 ⟨v, rfl, hr, h8, hb8⟩
      obtain ⟨A2, c2, rfl, hc2, hC2⟩ := Kd.R_reads hr
      have HB8 := Aside0.mk h8.from
      have HC2 := Aside0.mk hC2
      have HLB2 := HLB.out
      clear K7 hr hc2 hC2 h8 hb8
      obtain ⟨i0, hi0, _, hsz, _⟩ := info_parts infoU8
      obtain ⟨hcut1, hA1, hA1c⟩ := print_take_of (P := Try.prog) (Value.int .u8) 0 22 5 .i64 Try.underlying22 hi0 hsz A0 c0 b n (by omega) (by omega) HL0.out
      have hs1 := fun k => Kd.C_string (P := Try.prog) (src := 22) (dst := 9) (c := c2) Try.underlying22 Try.underlying5 Try.underlying9 (Kd.C_below HC2.out (pw_below_drewN (Below.refl w8.heap.size w8) k))
      have hs2 := fun k => Kd.C_string (P := Try.prog) (src := 22) (dst := 9) (c := c0) Try.underlying22 Try.underlying5 Try.underlying9 (Kd.C_of_reads (h1 := fun _ => rfl) (hA1 _ (Kd.reads_of_C (h1 := fun _ => rfl) (Kd.C_below HC0.out (pw_below_drewN HB8.out k)))))
      have hs3 := fun k => Kd.C_string (P := Try.prog) (src := 22) (dst := 9) (c := c1) Try.underlying22 Try.underlying5 Try.underlying9 (Kd.C_below HC1.out (pw_below_drewN HB8.out k))
      simp only [strOfNums_app, List.length_append] at hs1
      have hz1 : (strOfNums (b.take n.toNat)).size ≤ 1000 := by have := HLA.out; rw [strOfNums_sz, List.length_take]; omega
      have hz2 : (strOfNums more).size ≤ 1000 := by have := HLB.out; rw [strOfNums_sz]; omega
      clear hA1 hsz hi0 emin
      generalize b.take n.toNat = T at hcut1 hs1 hs2 hz1 hA1c ⊢
      generalize strOfNums T = s1 at hs1 hs2 hz1
      generalize strOfNums more = s2 at hs1 hs3 hz2
      go_wp2
      go_quiet (fail)
      go_wp2
      go_ret
      refine ⟨?_, pw_below_drewN HB8.out _⟩
      simp
def slipwaylaw13_DockCuts.f (_k : Nat) (_l0 : List Int) (_a1 : Bool) (_a2 : Int) (_l3 : List Int) : Option Bool := some true
theorem slipwaylaw13_DockCuts.calls (k : Nat) (A0 : Option Addr) (c0 : Nat) (l0 : List Int) (a1 : Bool) (a2 : Int) (A3 : Option Addr) (c3 : Nat) (l3 : List Int) (r : Bool) (w : World) (hr0 : Kd.C (Kd.int .u8) w A0 l0.length l0) (hc0 : l0.length ≤ c0) (hr3 : Kd.C (Kd.int .u8) w A3 l3.length l3) (hc3 : l3.length ≤ c3) (h : slipwaylaw13_DockCuts.f k l0 a1 a2 l3 = some r) :
    Calls Try.prog 5 #[.slice A0 l0.length c0, .bool a1, .int .i64 a2, .slice A3 l3.length c3] w fun e w' => e = .returned (.bool r) ∧ Below w.heap.size w w' := by
  obtain rfl := Option.some.inj h
  exact DockCuts_main l0 l3 a1 a2 A0 A3 c0 c3 w hr0 hc0 hr3 hc3
end Go.Proofs.Ytoimpjmoikjibaa.Dk
namespace Go.Proofs.Ytoimpjmoikjibaa.Pure
open Go.Proofs.Ytoimpjmoikjibaa.Dk
set_option linter.unusedVariables false
theorem DockCuts (l0 : List Int) {G0 : Prop} (g0 : G0) (a1 : Bool) (a2 : Int) {G2 : Prop} (w2 : G2) (l3 : List Int) {G3 : Prop} (g3 : G3) : ∃ k, slipwaylaw13_DockCuts.f k l0 a1 a2 l3 = some true := ⟨0, rfl⟩
end Go.Proofs.Ytoimpjmoikjibaa.Pure
