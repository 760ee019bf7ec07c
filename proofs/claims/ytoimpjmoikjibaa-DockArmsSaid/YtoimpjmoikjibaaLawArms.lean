/- The law DockArms, walked. -/
import Derived.Test.YtoimpjmoikjibaaDkO
import Derived.Test.YtoimpjmoikjibaaRead
import Derived.BigQuiet
namespace Go.Proofs.Ytoimpjmoikjibaa.Dk
open Go Go.RowKit Go.ChangeMaps Go.Proofs.Ytoimpjmoikjibaa.IMap Go.Proofs.YtoimpjmoikjibaaW.PrintWords Go.Proofs.YtoimpjmoikjibaaW.PrintLast Go.Proofs.YtoimpjmoikjibaaW.PrintMore
set_option linter.unusedVariables false
set_option linter.unusedSimpArgs false
/-- The armed dock after i calls. -/
def TA (n : Int) (i : Nat) (b : List Int) (sf : Nat) : DS := ⟨[(1, (b, sf))], 1000, if (i : Int) ≤ n then n - i else 0, decide (n < (i : Int))⟩
theorem TA_size (n : Int) (i : Nat) (b : List Int) (sf : Nat) : size (TA n i b sf).M = b.length := by simp [size, TA]
theorem TA_step (n : Int) (i : Nat) (M : Fls) (h0 : 0 ≤ n) (h : (i : Int) ≤ n) : stepS ⟨M, 1000, n - i, false⟩ = ⟨M, 1000, if ((i + 1 : Nat) : Int) ≤ n then n - ((i + 1 : Nat) : Int) else 0, decide (n < ((i + 1 : Nat) : Int))⟩ := by
  unfold stepS
  by_cases c : (i : Int) < n
  · rw [if_pos (by show 0 < n - (i : Int); omega), if_pos (by omega), decide_eq_false (by omega)]
    show (⟨M, 1000, n - i - 1, false⟩ : DS) = _
    congr 1
    omega
  · rw [if_neg (by show ¬ 0 < n - (i : Int); omega), if_pos (by show n - (i : Int) = 0; omega), if_neg (by omega), decide_eq_true (by omega)]
    show (⟨M, 1000, n - i, true⟩ : DS) = _
    congr 1
    omega
theorem TA_of (n : Int) (i : Nat) (b : List Int) (sf : Nat) (h : (i : Int) ≤ n) : TA n i b sf = ⟨[(1, (b, sf))], 1000, n - i, false⟩ := by
  unfold TA
  rw [if_pos h, decide_eq_false (by omega)]
theorem TA_dn (n : Int) (i : Nat) (b : List Int) (sf : Nat) (h : n < (i : Int)) : TA n i b sf = ⟨[(1, (b, sf))], 1000, 0, true⟩ := by
  unfold TA
  rw [if_neg (by omega), decide_eq_true h]
theorem TA_app (n : Int) (i : Nat) (b : List Int) (sf : Nat) (h0 : 0 ≤ n) (hb : b.length ≤ i) (hi : i < 60) :
    ∃ b', b'.length ≤ i + 1 ∧ (sf ≤ b.length → sf ≤ b'.length) ∧ app (TA n i b sf) 1 [1] = (if (i : Int) < n then 0 else 51, TA n (i + 1) b' sf) := by
  by_cases c : (i : Int) ≤ n
  · refine ⟨b ++ [1], by simp; omega, fun h => by simp; omega, ?_⟩
    unfold app
    rw [TA_size, TA_of n i b sf c]
    rw [if_neg (by simp), if_neg (by omega), if_neg (by show ¬ (1000 : Int) < _; simp; omega)]
    simp only [ins_one, get_one, Option.getD_some, TA_step n i _ h0 c]
    show (if decide (n < ((i + 1 : Nat) : Int)) = true then (51 : Int) else 0, TA n (i + 1) (b ++ [1]) sf) = _
    by_cases d : (i : Int) < n
    · rw [if_neg (by simp; omega), if_pos d]
    · rw [if_pos (by simp; omega), if_neg d]
  · refine ⟨b, by omega, fun h => h, ?_⟩
    unfold app
    rw [TA_dn n i b sf (by omega), if_pos rfl, if_neg (by omega), TA_dn n (i + 1) b sf (by omega)]
theorem TA_syn (n : Int) (i : Nat) (b : List Int) (sf : Nat) (h0 : 0 ≤ n) :
    ∃ sf', (sf ≤ b.length → sf' ≤ b.length) ∧ syn (TA n i b sf) 1 = (if (i : Int) < n then 0 else 51, TA n (i + 1) b sf') := by
  by_cases c : (i : Int) ≤ n
  · by_cases d : (i : Int) < n
    · refine ⟨b.length, fun h => Nat.le_refl _, ?_⟩
      unfold syn
      have e : findE (TA n i b sf) 1 = 0 := by rw [TA_of n i b sf c]; unfold findE; rw [if_neg (by simp), get_one]; rfl
      rw [e, if_neg (by decide), TA_of n i b sf c, TA_step n i _ h0 c, if_neg (by simp; omega)]
      simp only [get_one, Option.getD_some, ins_one, if_pos d]
      rfl
    · refine ⟨sf, fun h => h, ?_⟩
      unfold syn
      have e : findE (TA n i b sf) 1 = 0 := by rw [TA_of n i b sf c]; unfold findE; rw [if_neg (by simp), get_one]; rfl
      rw [e, if_neg (by decide), TA_of n i b sf c, TA_step n i _ h0 c, if_pos (by simp; omega), if_neg d]
      rfl
  · refine ⟨sf, fun h => h, ?_⟩
    unfold syn
    have e : findE (TA n i b sf) 1 = 51 := by rw [TA_dn n i b sf (by omega)]; unfold findE; rw [if_pos rfl]
    rw [e, if_pos (by decide), if_neg (by omega), TA_dn n i b sf (by omega), TA_dn n (i + 1) b sf (by omega)]
theorem TA_crash (n : Int) (i : Nat) (b : List Int) (sf : Nat) : ∃ b' sf', sf' = b'.length ∧ crash (TA n i b sf) [1000] = one 1 b' sf' 1000 := by
  unfold crash TA
  simp only [crashF]
  split
  · exact ⟨_, _, rfl, rfl⟩
  · exact ⟨_, _, rfl, rfl⟩
theorem elem_C {w : World} {k : IntKind} {A : Option Addr} {l : List Int} (h : Kd.C (Kd.int k) w A l.length l) (i : Nat) (x : Int) (hx : l[i]? = some x) : ∃ ad, A = some ad ∧ w.cell? (ad.add i) = some (.int k x) := by
  obtain ⟨ad, e, hc⟩ := h.2.2 (by cases l with | nil => simp at hx | cons y r => simp)
  refine ⟨ad, e, ?_⟩
  obtain ⟨cs, h1, h2, h3⟩ := hc i x hx
  have h2' : cs = [Value.int k x] := h2
  subst h2'
  have h4 : w.cell? (ad.add (i * 1 + 0)) = some (.int k x) := h3 0 _ rfl
  rwa [Nat.mul_one, Nat.add_zero] at h4
set_option maxHeartbeats 8000000 in
set_option maxRecDepth 20000 in
theorem Ints_T (l : List Int) (A B : Option Addr) (c d : Nat) (w : World) (ha : Kd.C (Kd.int .i64) w A l.length l) (hb : Kd.C (Kd.int .i64) w B l.length l) (hl : l.length ≤ 1000000000) :
    Calls Try.prog 24 #[.slice A l.length c, .slice B l.length d] w fun e w' => e = .returned (.bool true) ∧ Below w.heap.size w w' := by
  have HA := Aside0.mk ha
  have HB := Aside0.mk hb
  have HL := Aside0.mk hl
  clear ha hb
  go_enter Try.func24, Try.ntmps24
  go_wp2_with (fail)
  go_loopg [5, 6, 14] l.length (fun kq v5 v6 v14 w' => ∃ (i : Nat), v14 = .int .i64 (i : Int) ∧ Aside0 (i + kq = l.length) ∧ Aside0 (Below w.heap.size w w'))
  case atStart => exact ⟨0, rfl, ⟨by omega⟩, ⟨Below.refl _ _⟩⟩
  case round =>
    obtain ⟨i, rfl, HJ, HBL⟩ := hrel
    by_cases c1 : i < l.length
    · have e1 : decide (i < l.length) = true := decide_eq_true c1
      have HE5 : Aside0 (wrap64 ((i : Int) + 1) = ((i + 1 : Nat) : Int)) := ⟨by have := HL.out; unfold wrap64; omega⟩
      have HLi := Aside0.mk c1
      obtain ⟨x, hx⟩ : ∃ x, l[i]? = some x := ⟨_, List.getElem?_eq_getElem c1⟩
      obtain ⟨ad, hA, hcell⟩ := elem_C (Kd.C_below HA.out HBL.out) i x hx
      obtain ⟨bd, hB, hcell2⟩ := elem_C (Kd.C_below HB.out HBL.out) i x hx
      cases hA
      cases hB
      clear hx
      go_wp2
      all_goals
        go_roundg (gk - 1)
        case measure => have := HJ.out; have := HLi.out; omega
        case rel => exact ⟨i + 1, (by first | exact congrArg _ HE5.out | rfl), ⟨by have := HJ.out; have := HLi.out; omega⟩, HBL⟩
    · have e1 : decide (i < l.length) = false := decide_eq_false c1
      go_wp2
      go_ret
      exact ⟨rfl, HBL.out⟩
theorem Down_TA {w0 w : World} {g : Nat} {n : Int} {i : Nat} {b : List Int} {sf : Nat} (h : LW w0 w g (TA n i b sf)) {q : Bool} (hq : decide (n < (i : Int)) = q) : Calls Try.prog 21 #[.pointer (some ⟨g, 0, none⟩)] w fun e w' => e = .returned (.bool q) ∧ w = w' := by
  subst hq
  exact Down_L h
set_option maxHeartbeats 8000000 in
set_option maxRecDepth 20000 in
theorem DockArms_main (n : Int) (l : List Int) (A1 : Option Addr) (c1 : Nat) (w : World) (h1 : Kd.C (Kd.int .i64) w A1 l.length l) (hc1 : l.length ≤ c1) (hn : n ≤ 9223372036854775807) :
    Calls Try.prog 4 #[.int .i64 n, .slice A1 l.length c1] w fun e w' => e = .returned (.bool true) ∧ Below w.heap.size w w' := by
  have HC1 := Aside0.mk h1
  have HL1 := Aside0.mk hc1
  have hl1 := h1.2.1
  have HN1 := Aside0.mk hl1
  have HN := Aside0.mk hn
  clear h1 hc1 hl1 hn
  go_enter Try.func4, Try.ntmps4
  go_wp2_with (fail)
  refine (anchor_T w).mono ?_
  rintro e w1 ⟨rfl, hb1⟩
  have HB1 := Aside0.mk hb1
  clear hb1
  go_wp2_with (fail)
  all_goals first | (go_ret; exact ⟨rfl, HB1.out⟩) | skip
  have hl : 0 ≤ n ∧ (l.length : Int) ≤ 60 := by assumption
  have HLA := Aside0.mk hl.1
  have HLB := Aside0.mk hl.2
  clear hl
  refine (New_L (w0 := w) 1000 w1 (by omega) (by omega) HB1.out).mono ?_
  rintro e w2 ⟨g, rfl, h2⟩
  have K := Append_L h2 1 none 0 [] (Kd.C_nil _ _) (by simp)
  rw [app_new 1 [] 1000 (by omega) (by omega) (by simp)] at K
  have K := Aside0.mk K
  clear h2
  go_wp2_with (fail)
  refine K.out.mono ?_
  rintro e w3 ⟨rfl, h3⟩
  have h3 : LW w w3 g (one 1 [] 0 1000) := h3
  have K2 := Arm_L h3 n (by have := HN.out; omega)
  rw [show arm (one 1 [] 0 1000) n = TA n 0 [] 0 by rw [TA_of n 0 [] 0 HLA.out]; unfold arm one; have := HLA.out; rw [show max n (-1) = n by omega]; simp] at K2
  have K2 := Aside0.mk K2
  clear K h3
  go_wp2_with (fail)
  refine K2.out.mono ?_
  rintro e w4 ⟨rfl, h4⟩
  have H4 := Aside0.mk h4
  clear K2 h4
  go_wp2_with (fail)
  go_loopg [6, 7, 8, 33] l.length (fun kq v6 v7 v8 v33 w' => ∃ (i : Nat) (b : List Int) (sf : Nat), v33 = .int .i64 (i : Int) ∧ Aside0 (i + kq = l.length) ∧ Aside0 (b.length ≤ i) ∧ Aside0 (LW w w' g (TA n i b sf)))
  case atStart => exact ⟨0, [], 0, rfl, ⟨by omega⟩, ⟨by simp⟩, H4⟩
  case round =>
    clear H4
    obtain ⟨i, b, sf, rfl, HJ, HBI, HI⟩ := hrel
    by_cases c1 : i < l.length
    · have e1 : decide (i < l.length) = true := decide_eq_true c1
      have HE5 : Aside0 (wrap64 ((i : Int) + 1) = ((i + 1 : Nat) : Int)) := ⟨by have := HLB.out; unfold wrap64; omega⟩
      have HLi := Aside0.mk c1
      obtain ⟨x, hx⟩ : ∃ x, l[i]? = some x := ⟨_, List.getElem?_eq_getElem c1⟩
      obtain ⟨ad, hA, hcell⟩ := elem_C (Kd.C_below HC1.out HI.out.from) i x hx
      cases hA
      clear hx
      by_cases cin : (i : Int) < n
      · have HIi := HI.out
        obtain ⟨b1, hb1l, _, ea⟩ := TA_app n i b sf HLA.out HBI.out (by have := HLB.out; omega)
        obtain ⟨sf2, _, es⟩ := TA_syn n i b sf HLA.out
        rw [if_pos cin] at ea es
        have KS := Sync_L HIi 1
        rw [es] at KS
        have KS := Aside0.mk KS
        have KA := Aside0.mk (App_lit HIi 1 [1] (0, 0) ea (by simp))
        have HB1L := Aside0.mk hb1l
        have HBI2 := Aside0.mk (Nat.le_succ_of_le HBI.out)
        have hq : decide (n < ((i + 1 : Nat) : Int)) = false := by simp; omega
        have HQ := Aside0.mk hq
        clear HIi ea es hb1l hq
        go_wp2_with (first
          | (go_at_call 16; refine (KA.out _).mono ?_; rintro e wx ⟨rfl, hx⟩; have HX : Aside0 (∃ b' sf', b'.length ≤ i + 1 ∧ LW w wx g (TA n (i + 1) b' sf')) := ⟨b1, sf, HB1L.out, hx⟩; clear hx)
          | (go_at_call 17; refine KS.out.mono ?_; rintro e wx ⟨rfl, hx⟩; have HX : Aside0 (∃ b' sf', b'.length ≤ i + 1 ∧ LW w wx g (TA n (i + 1) b' sf')) := ⟨b, sf2, HBI2.out, hx⟩; clear hx)
          | (go_at_call 21; obtain ⟨b', sf', hbb, hx⟩ := HX.out; refine (Down_TA hx HQ.out).mono ?_; rintro e wy ⟨rfl, rfl⟩; clear hx))
        all_goals go_wp2
        all_goals
          go_roundg (gk - 1)
          case measure => have := HJ.out; have := HLi.out; omega
          case rel =>
            obtain ⟨b', sf', hbb, hx⟩ := HX.out
            exact ⟨i + 1, b', sf', (by first | exact congrArg _ HE5.out | rfl), ⟨by have := HJ.out; have := HLi.out; omega⟩, ⟨hbb⟩, ⟨hx⟩⟩
      · have HIi := HI.out
        obtain ⟨b1, hb1l, _, ea⟩ := TA_app n i b sf HLA.out HBI.out (by have := HLB.out; omega)
        obtain ⟨sf2, _, es⟩ := TA_syn n i b sf HLA.out
        rw [if_neg cin] at ea es
        have KS := Sync_L HIi 1
        rw [es] at KS
        have KS := Aside0.mk KS
        have KA := Aside0.mk (App_lit HIi 1 [1] (0, 0) ea (by simp))
        have HB1L := Aside0.mk hb1l
        have HBI2 := Aside0.mk (Nat.le_succ_of_le HBI.out)
        have hq : decide (n < ((i + 1 : Nat) : Int)) = true := by simp; omega
        have HQ := Aside0.mk hq
        clear HIi ea es hb1l hq
        go_wp2_with (first
          | (go_at_call 16; refine (KA.out _).mono ?_; rintro e wx ⟨rfl, hx⟩; have HX : Aside0 (∃ b' sf', b'.length ≤ i + 1 ∧ LW w wx g (TA n (i + 1) b' sf')) := ⟨b1, sf, HB1L.out, hx⟩; clear hx)
          | (go_at_call 17; refine KS.out.mono ?_; rintro e wx ⟨rfl, hx⟩; have HX : Aside0 (∃ b' sf', b'.length ≤ i + 1 ∧ LW w wx g (TA n (i + 1) b' sf')) := ⟨b, sf2, HBI2.out, hx⟩; clear hx)
          | (go_at_call 21; obtain ⟨b', sf', hbb, hx⟩ := HX.out; refine (Down_TA hx HQ.out).mono ?_; rintro e wy ⟨rfl, rfl⟩; clear hx))
        all_goals go_wp2
        all_goals
          go_roundg (gk - 1)
          case measure => have := HJ.out; have := HLi.out; omega
          case rel =>
            obtain ⟨b', sf', hbb, hx⟩ := HX.out
            exact ⟨i + 1, b', sf', (by first | exact congrArg _ HE5.out | rfl), ⟨by have := HJ.out; have := HLi.out; omega⟩, ⟨hbb⟩, ⟨hx⟩⟩
    · have e1 : decide (i < l.length) = false := decide_eq_false c1
      have HIi := HI.out
      obtain ⟨b', sf', rfl, hcr⟩ := TA_crash n i b sf
      have K := Crash_lit HIi 1 [1000] (by simp)
      rw [hcr] at K
      have K := Aside0.mk K
      clear HIi hcr
      go_wp2_with (fail)
      refine K.out.mono ?_
      rintro e w6 ⟨rfl, h6⟩
      have K5 := Names_L h6
      rw [show keys (one 1 b' b'.length 1000).M = [1] from rfl] at K5
      have K5 := Aside0.mk K5
      clear h6 K
      go_wp2_with (fail)
      refine K5.out.mono ?_
      rintro e w7 ⟨v, rfl, hr, h7, hb7⟩
      have hr : Kd.R (Kd.int .i64) 3 w7 w6.heap.size (fun _ => True) v [1] := hr
      obtain ⟨A2, c2, rfl, hc2, hC2⟩ := Kd.R_reads hr
      have HC2 := Aside0.mk hC2
      have H7 := Aside0.mk h7
      clear K5 hr hc2 hC2 h7 hb7
      go_wp2_with (fail)
      refine (show Calls _ _ _ _ (fun e w' => e = .returned (.bool false) ∧ _ = w') from Down_L H7.out).mono ?_
      rintro e w8 ⟨rfl, rfl⟩
      have K6 := Ints_T [1] A2 (some ⟨w7.heap.size, 0, none⟩) c2 1 (w7.alloc (.cells (([1] : List Int).map (Value.int .i64)).toArray 3)) (Kd.C_below HC2.out (below_alloc (Below.refl w7.heap.size w7) _)) (lit_C w7 .i64 3 [1] (by simp)) (by simp)
      have K6 := Aside0.mk K6
      clear HC2
      go_wp2_with (fail)
      refine K6.out.mono ?_
      rintro e w8 ⟨rfl, hb8⟩
      have K7 := Remove_L ((H7.out.below (below_alloc (Below.refl w7.heap.size w7) _)).below hb8) 1
      rw [rmv_one] at K7
      have K7 := Aside0.mk K7
      clear hb8 K6 H7
      go_wp2_with (fail)
      refine K7.out.mono ?_
      rintro e w9 ⟨rfl, h9⟩
      have h9 : LW w w9 g ⟨[], 1000, -1, false⟩ := h9
      have K8 := Aside0.mk (Size_L h9)
      clear K7 h9
      go_wp2_with (fail)
      refine K8.out.mono ?_
      rintro e w10 ⟨rfl, h10, hb10⟩
      have HB10 := Aside0.mk h10.from
      clear K8 h10 hb10
      go_wp2
      go_ret
      refine ⟨?_, HB10.out⟩
      first | rfl | simp [size]
def slipwaylaw13_DockArms.f (_k : Nat) (a0 : Int) (_l1 : List Int) : Option Bool := if a0 ≤ 9223372036854775807 then some true else none
theorem slipwaylaw13_DockArms.calls (k : Nat) (a0 : Int) (A1 : Option Addr) (c1 : Nat) (l1 : List Int) (r : Bool) (w : World) (hr1 : Kd.C (Kd.int .i64) w A1 l1.length l1) (hc1 : l1.length ≤ c1) (h : slipwaylaw13_DockArms.f k a0 l1 = some r) :
    Calls Try.prog 4 #[.int .i64 a0, .slice A1 l1.length c1] w fun e w' => e = .returned (.bool r) ∧ Below w.heap.size w w' := by
  unfold slipwaylaw13_DockArms.f at h
  split at h
  · obtain rfl := Option.some.inj h
    exact DockArms_main a0 l1 A1 c1 w hr1 hc1 (by assumption)
  · cases h
end Go.Proofs.Ytoimpjmoikjibaa.Dk
namespace Go.Proofs.Ytoimpjmoikjibaa.Pure
open Go Go.Proofs.Ytoimpjmoikjibaa.Dk
set_option linter.unusedVariables false
theorem DockArms (a0 : Int) (w0 : (Lit.int .i64 a0).wf = true) (l1 : List Int) {G1 : Prop} (g1 : G1) : ∃ k, slipwaylaw13_DockArms.f k a0 l1 = some true := by
  refine ⟨0, if_pos ?_⟩
  simp only [Lit.wf, decide_eq_true_eq, Bool.and_eq_true] at w0
  rw [show IntKind.i64.min = -9223372036854775808 from rfl, show IntKind.i64.max = 9223372036854775807 from rfl] at w0
  omega
end Go.Proofs.Ytoimpjmoikjibaa.Pure
