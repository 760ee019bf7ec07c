/- lattice: slices.Sort at []uint64, walked: order2, median, medianAdjacent. -/
import Derived.Test.YtplhihakeodadaaDoorLtSm
import Derived.Sort.WalkB2
import Derived.Sort.WalkB3
import Derived.Sort.Walk7a
import Derived.Sort.Walk7
namespace Go.Proofs.YtplhihakeodadaaDoor.Sg
open Go Go.Sort Go.RowKit Go.Proofs Go.Proofs.YtplhihakeodadaaDoorW.PrintWords Go.Proofs.YtplhihakeodadaaDoorW.PrintLast Go.Proofs.YtplhihakeodadaaDoorW.PrintMore
set_option linter.unusedVariables false
set_option linter.unusedSimpArgs false
/-- The row, and choosePivot's counter beside it. -/
abbrev CU (w0 : World) (b : Nat) (d : Array Int) (g s : Nat) (W : World) : Prop := Cnt1 eU w0 b 0 d g s W
theorem CU.drewN {w0 W : World} {b g s : Nat} {d : Array Int} (h : CU w0 b d g s W) (n : Nat) : CU w0 b d g s (W.drewN n) := by
  have := Cnt1.grown h n #[]
  rwa [grow_empty] at this
theorem CU.cell {w0 W : World} {b g s : Nat} {d d0 : Array Int} (h : CU w0 b d g s W) (R : RU w0 b d0) (hs : d.size = d0.size) (i : Nat) (hi : i < d.size) : W.cell? ⟨b, i, none⟩ = some (.int .u64 d[i]!) := by
  have := SW.c1 h.1 R hs i hi
  rwa [Nat.zero_add] at this
theorem ord2_true {d : Array Int} {a b s : Nat} (h : ltInt d[b]! d[a]! = true) : order2 ltInt d a b s = (b, a, s + 1) := by simp [order2, h]
theorem ord2_false {d : Array Int} {a b s : Nat} (h : ltInt d[b]! d[a]! = false) : order2 ltInt d a b s = (a, b, s) := by simp [order2, h]
theorem ord2_lt {d : Array Int} {a b s n : Nat} (ha : a < n) (hb : b < n) : (order2 ltInt d a b s).1 < n ∧ (order2 ltInt d a b s).2.1 < n ∧ (order2 ltInt d a b s).2.2 ≤ s + 1 := by
  unfold order2
  split
  · exact ⟨hb, ha, Nat.le_refl _⟩
  · exact ⟨ha, hb, Nat.le_succ _⟩
set_option maxHeartbeats 4000000 in
set_option maxRecDepth 100000 in
theorem order2_T (w0 : World) (bk c a b g s : Nat) (d0 d : Array Int) (w : World) (R : RU w0 bk d0) (hs : d.size = d0.size) (C : CU w0 bk d g s w) (ha : a < d.size) (hb : b < d.size) (hl : d.size ≤ 1000000000) (hss : s ≤ 1000) :
    Calls Tryd.prog 104 #[.slice (some ⟨bk, 0, none⟩) d.size c, .int .i64 (a : Int), .int .i64 (b : Int), .pointer (some ⟨g, 0, none⟩)] w fun e w' => e = .returned (.tuple #[.int .i64 ((order2 ltInt d a b s).1 : Int), .int .i64 ((order2 ltInt d a b s).2.1 : Int)]) ∧ CU w0 bk d g (order2 ltInt d a b s).2.2 w' := by
  have v1 := CU.cell C R hs b hb
  have v2 := CU.cell C R hs a ha
  have HC := Aside0.mk C
  obtain ⟨n, hn⟩ : ∃ n, d.size = n := ⟨_, rfl⟩
  rw [hn] at ha hb hl ⊢
  have b1 : (a : Int) < (n : Int) := by omega
  have b2 : (b : Int) < (n : Int) := by omega
  have e5 : wrap64 ((s : Int) + 1) = ((s + 1 : Nat) : Int) := by unfold wrap64; omega
  obtain ⟨x, hx⟩ : ∃ x, d[b]! = x := ⟨_, rfl⟩
  obtain ⟨y, hy⟩ : ∃ y, d[a]! = y := ⟨_, rfl⟩
  have HTR : Aside0 (ltInt x y = true → order2 ltInt d a b s = (b, a, s + 1)) := ⟨fun h => ord2_true (by rw [hx, hy]; exact h)⟩
  have HFA : Aside0 (ltInt x y = false → order2 ltInt d a b s = (a, b, s)) := ⟨fun h => ord2_false (by rw [hx, hy]; exact h)⟩
  rw [hx] at v1
  rw [hy] at v2
  clear hx hy hn hs R C
  obtain ⟨o, ho⟩ : ∃ o, order2 ltInt d a b s = o := ⟨_, rfl⟩
  rw [ho] at HTR HFA ⊢
  clear ho
  go_enter Tryd.func104, Tryd.ntmps104
  go_wp2_with (fail)
  go_quiet (first | (go_at_call 91; refine Calls.quiet_of_same (Less_T _ _ _)))
  have HC2 := Aside0.mk (CU.drewN HC.out nq)
  obtain ⟨w2, hw2⟩ : ∃ W, w.drewN nq = W := ⟨_, rfl⟩
  rw [hw2] at HC2 ⊢
  clear v1 v2 hw2
  obtain ⟨_, cc, cf, _, _⟩ := HC2.out
  have HC3 := Aside0.mk (Cnt1.bump HC2.out (s + 1))
  go_wp2
  · have hl : ltInt x y = true := by assumption
    obtain rfl := HTR.out hl
    go_ret2
    exact ⟨rfl, HC3.out⟩
  · have hl : ltInt x y = false := by assumption
    obtain rfl := HFA.out hl
    go_ret2
    exact ⟨rfl, HC2.out⟩
theorem med_lt {d : Array Int} {a b c s n : Nat} (ha : a < n) (hb : b < n) (hc : c < n) : (median ltInt d a b c s).1 < n ∧ (median ltInt d a b c s).2 ≤ s + 3 := by
  have h1 := ord2_lt (d := d) (s := s) ha hb
  have h2 := ord2_lt (d := d) (s := (order2 ltInt d a b s).2.2) h1.2.1 hc
  have h3 := ord2_lt (d := d) (s := (order2 ltInt d (order2 ltInt d a b s).2.1 c (order2 ltInt d a b s).2.2).2.2) h1.1 h2.1
  exact ⟨h3.2.1, by
    have e1 := h1.2.2
    have e2 := h2.2.2
    have e3 := h3.2.2
    show (order2 ltInt d (order2 ltInt d a b s).1 (order2 ltInt d (order2 ltInt d a b s).2.1 c (order2 ltInt d a b s).2.2).1 (order2 ltInt d (order2 ltInt d a b s).2.1 c (order2 ltInt d a b s).2.2).2.2).2.2 ≤ s + 3
    omega⟩
set_option maxHeartbeats 4000000 in
set_option maxRecDepth 100000 in
theorem median_T (w0 : World) (bk c a b m g s : Nat) (d0 d : Array Int) (w : World) (R : RU w0 bk d0) (hs : d.size = d0.size) (C : CU w0 bk d g s w) (ha : a < d.size) (hb : b < d.size) (hm : m < d.size) (hl : d.size ≤ 1000000000) (hss : s ≤ 900) :
    Calls Tryd.prog 102 #[.slice (some ⟨bk, 0, none⟩) d.size c, .int .i64 (a : Int), .int .i64 (b : Int), .int .i64 (m : Int), .pointer (some ⟨g, 0, none⟩)] w fun e w' => e = .returned (.int .i64 ((median ltInt d a b m s).1 : Int)) ∧ CU w0 bk d g (median ltInt d a b m s).2 w' := by
  have l1 := ord2_lt (d := d) (s := s) ha hb
  obtain ⟨o1, ho1⟩ : ∃ o, order2 ltInt d a b s = o := ⟨_, rfl⟩
  have l2 := ord2_lt (d := d) (s := o1.2.2) (by rw [← ho1]; exact l1.2.1 : o1.2.1 < d.size) hm
  obtain ⟨o2, ho2⟩ : ∃ o, order2 ltInt d o1.2.1 m o1.2.2 = o := ⟨_, rfl⟩
  obtain ⟨o3, ho3⟩ : ∃ o, order2 ltInt d o1.1 o2.1 o2.2.2 = o := ⟨_, rfl⟩
  have em : median ltInt d a b m s = (o3.2.1, o3.2.2) := by unfold median; simp only [ho1, ho2, ho3]
  rw [ho1] at l1
  rw [ho2] at l2
  have K1 := Aside0.mk (order2_T w0 bk c a b g s d0 d w R hs C ha hb hl (by omega))
  rw [ho1] at K1
  have K2 := Aside0.mk (fun W (C : CU w0 bk d g o1.2.2 W) => order2_T w0 bk c o1.2.1 m g o1.2.2 d0 d W R hs C l1.2.1 hm hl (by omega))
  rw [ho2] at K2
  have K3 := Aside0.mk (fun W (C : CU w0 bk d g o2.2.2 W) => order2_T w0 bk c o1.1 o2.1 g o2.2.2 d0 d W R hs C l1.1 l2.1 hl (by omega))
  rw [ho3] at K3
  rw [em]
  clear em ho1 ho2 ho3 l1 l2 R hs C ha hb hm
  obtain ⟨p1, q1, s1⟩ := o1
  obtain ⟨p2, q2, s2⟩ := o2
  obtain ⟨p3, q3, s3⟩ := o3
  dsimp only at K1 K2 K3 ⊢
  go_enter Tryd.func102, Tryd.ntmps102
  go_wp2_with (fail)
  refine K1.out.mono ?_
  rintro e w1 ⟨rfl, hC⟩
  have K4 := Aside0.mk (K2.out w1 hC)
  clear K1 K2 hC
  go_wp2_with (fail)
  refine K4.out.mono ?_
  rintro e w2 ⟨rfl, hC⟩
  have K5 := Aside0.mk (K3.out w2 hC)
  clear K3 K4 hC
  go_wp2_with (fail)
  refine K5.out.mono ?_
  rintro e w3 ⟨rfl, hC⟩
  have HC := Aside0.mk hC
  clear K5 hC
  go_wp2
  go_ret
  exact ⟨rfl, HC.out⟩
set_option maxHeartbeats 4000000 in
set_option maxRecDepth 100000 in
theorem medAdj_T (w0 : World) (bk c a g s : Nat) (d0 d : Array Int) (w : World) (R : RU w0 bk d0) (hs : d.size = d0.size) (C : CU w0 bk d g s w) (ha : 1 ≤ a) (hb : a + 1 < d.size) (hl : d.size ≤ 1000000000) (hss : s ≤ 900) :
    Calls Tryd.prog 101 #[.slice (some ⟨bk, 0, none⟩) d.size c, .int .i64 (a : Int), .pointer (some ⟨g, 0, none⟩)] w fun e w' => e = .returned (.int .i64 ((medianAdjacent ltInt d a s).1 : Int)) ∧ CU w0 bk d g (medianAdjacent ltInt d a s).2 w' := by
  have K := Aside0.mk (median_T w0 bk c (a - 1) a (a + 1) g s d0 d w R hs C (by omega) (by omega) hb hl hss)
  rw [show median ltInt d (a - 1) a (a + 1) s = medianAdjacent ltInt d a s from rfl] at K
  obtain ⟨o, ho⟩ : ∃ o, medianAdjacent ltInt d a s = o := ⟨_, rfl⟩
  rw [ho] at K ⊢
  have e1 : wrap64 ((a : Int) - 1) = ((a - 1 : Nat) : Int) := by unfold wrap64; omega
  have e2 : wrap64 ((a : Int) + 1) = ((a + 1 : Nat) : Int) := by unfold wrap64; omega
  clear ho R hs C ha hb hss
  go_enter Tryd.func101, Tryd.ntmps101
  go_wp2_with (fail)
  refine K.out.mono ?_
  rintro e w1 ⟨rfl, hC⟩
  have HC := Aside0.mk hC
  clear K hC
  go_wp2
  go_ret
  exact ⟨rfl, HC.out⟩
end Go.Proofs.YtplhihakeodadaaDoor.Sg
namespace Go.Proofs.YtplhihakeodadaaDoor.Sg
open Go Go.Sort Go.RowKit Go.Proofs Go.Proofs.YtplhihakeodadaaDoorW.PrintWords Go.Proofs.YtplhihakeodadaaDoorW.PrintLast Go.Proofs.YtplhihakeodadaaDoorW.PrintMore
set_option linter.unusedVariables false
set_option linter.unusedSimpArgs false
def hintZ : Hint → Int
  | .unknown => 0
  | .increasing => 1
  | .decreasing => 2
theorem medAdj_lt {d : Array Int} {a s n : Nat} (h1 : 1 ≤ a) (h2 : a + 1 < n) : (medianAdjacent ltInt d a s).1 < n ∧ (medianAdjacent ltInt d a s).2 ≤ s + 3 := med_lt (by omega) (by omega) h2
theorem choose_of {d : Array Int} {a b q : Nat} {r : Nat × Nat} (hq : (b - a) / 4 = q) (h8 : 8 ≤ b - a) (h1 : 50 ≤ b - a → r = median ltInt d (medianAdjacent ltInt d (a + q) 0).1 (medianAdjacent ltInt d (a + q * 2) (medianAdjacent ltInt d (a + q) 0).2).1 (medianAdjacent ltInt d (a + q * 3) (medianAdjacent ltInt d (a + q * 2) (medianAdjacent ltInt d (a + q) 0).2).2).1 (medianAdjacent ltInt d (a + q * 3) (medianAdjacent ltInt d (a + q * 2) (medianAdjacent ltInt d (a + q) 0).2).2).2)
    (h2 : ¬ 50 ≤ b - a → r = median ltInt d (a + q) (a + q * 2) (a + q * 3) 0) : choosePivot ltInt d a b = (r.1, if r.2 = 0 then .increasing else if r.2 = 12 then .decreasing else .unknown) := by
  unfold choosePivot
  simp only [hq, Nat.mul_one]
  by_cases c : 50 ≤ b - a
  · rw [h1 c]
    simp [c, h8]
  · rw [h2 c]
    simp [c, h8]
set_option maxHeartbeats 16000000 in
set_option maxRecDepth 100000 in
theorem choosePivot_T (w0 : World) (bk c a b : Nat) (d0 d : Array Int) (w : World) (R : RU w0 bk d0) (hs : d.size = d0.size) (h : SU w0 bk d w) (hab : a + 12 < b) (hb : b ≤ d.size) (hl : d.size ≤ 1000000000) :
    Calls Tryd.prog 88 #[.slice (some ⟨bk, 0, none⟩) d.size c, .int .i64 (a : Int), .int .i64 (b : Int)] w fun e w' => e = .returned (.tuple #[.int .i64 ((choosePivot ltInt d a b).1 : Int), .int .i64 (hintZ (choosePivot ltInt d a b).2)]) ∧ SU w0 bk d w' := by
  obtain ⟨n, hn⟩ : ∃ n, d.size = n := ⟨_, rfl⟩
  have hb' := hb
  rw [hn] at hb'
  obtain ⟨l, hll⟩ : ∃ l, b - a = l := ⟨_, rfl⟩
  obtain ⟨q, hq⟩ : ∃ q, l / 4 = q := ⟨_, rfl⟩
  obtain ⟨lz, hlz⟩ : ∃ z : Int, (l : Int) = z := ⟨_, rfl⟩
  have el2 : (b : Int) - (a : Int) = lz := by omega
  obtain ⟨qz, hqz⟩ : ∃ z : Int, (q : Int) = z := ⟨_, rfl⟩
  have et : Int.tdiv lz 4 = qz := by rw [Int.tdiv_eq_ediv_of_nonneg (by omega)]; omega
  have e8 : decide (lz ≥ 8) = true := decide_eq_true (by omega)
  have e8' : (8 : Int) ≤ lz := by omega
  obtain ⟨ki, hki⟩ : ∃ k, a + q = k := ⟨_, rfl⟩
  obtain ⟨kj, hkj⟩ : ∃ k, a + q * 2 = k := ⟨_, rfl⟩
  obtain ⟨kk, hkk⟩ : ∃ k, a + q * 3 = k := ⟨_, rfl⟩
  have i1 : (a : Int) + qz = (ki : Int) := by omega
  have i2 : (a : Int) + qz * 2 = (kj : Int) := by omega
  have i3 : (a : Int) + qz * 3 = (kk : Int) := by omega
  have bl : lz ≤ 1000000000 := by omega
  have bq0 : 0 ≤ qz := by omega
  have bq : qz ≤ 250000000 := by omega
  have ba : (a : Int) ≤ 1000000000 := by omega
  have m1 := fun (s : Nat) => medAdj_lt (d := d) (a := ki) (s := s) (n := d.size) (by omega) (by omega)
  have C0 := Aside0.mk (Cnt1.start h 3)
  have hch := fun (r : Nat × Nat) => choose_of (d := d) (a := a) (b := b) (q := q) (r := r) (by rw [hll]; exact hq) (by omega)
  rw [hki, hkj, hkk] at hch
  obtain ⟨ch, hchv⟩ : ∃ ch, choosePivot ltInt d a b = ch := ⟨_, rfl⟩
  rw [hchv] at hch ⊢
  by_cases c50 : 50 ≤ l
  · have e50 : decide (lz ≥ 50) = true := decide_eq_true (by omega)
    have e50' : (50 : Int) ≤ lz := by omega
    have K1 := Aside0.mk (medAdj_T w0 bk c ki w.heap.size 0 d0 d _ R hs C0.out (by omega) (by omega) hl (by omega))
    have l1 := medAdj_lt (d := d) (a := ki) (s := 0) (n := d.size) (by omega) (by omega)
    obtain ⟨r1, hr1⟩ : ∃ r, medianAdjacent ltInt d ki 0 = r := ⟨_, rfl⟩
    rw [hr1] at K1 l1
    have K2 := Aside0.mk (fun W (C : CU w0 bk d w.heap.size r1.2 W) => medAdj_T w0 bk c kj w.heap.size r1.2 d0 d W R hs C (by omega) (by omega) hl (by omega))
    have l2 := medAdj_lt (d := d) (a := kj) (s := r1.2) (n := d.size) (by omega) (by omega)
    obtain ⟨r2, hr2⟩ : ∃ r, medianAdjacent ltInt d kj r1.2 = r := ⟨_, rfl⟩
    rw [hr2] at K2 l2
    have K3 := Aside0.mk (fun W (C : CU w0 bk d w.heap.size r2.2 W) => medAdj_T w0 bk c kk w.heap.size r2.2 d0 d W R hs C (by omega) (by omega) hl (by omega))
    have l3 := medAdj_lt (d := d) (a := kk) (s := r2.2) (n := d.size) (by omega) (by omega)
    obtain ⟨r3, hr3⟩ : ∃ r, medianAdjacent ltInt d kk r2.2 = r := ⟨_, rfl⟩
    rw [hr3] at K3 l3
    have K4 := Aside0.mk (fun W (C : CU w0 bk d w.heap.size r3.2 W) => median_T w0 bk c r1.1 r2.1 r3.1 w.heap.size r3.2 d0 d W R hs C l1.1 l2.1 l3.1 hl (by omega))
    have l4 := med_lt (d := d) (s := r3.2) l1.1 l2.1 l3.1
    obtain ⟨r, hr⟩ : ∃ r, median ltInt d r1.1 r2.1 r3.1 r3.2 = r := ⟨_, rfl⟩
    rw [hr] at K4 l4
    have hfin := hch r (fun _ => by rw [hr1, hr2, hr3, hr]) (fun h => absurd (show 50 ≤ b - a by omega) h)
    have hsl : r.2 ≤ 12 := by omega
    have HFIN : Aside0 ((r.2 = 0 → ch = (r.1, .increasing)) ∧ (r.2 = 12 → ch = (r.1, .decreasing)) ∧ (¬ r.2 = 0 → ¬ r.2 = 12 → ch = (r.1, .unknown))) := ⟨⟨fun h => by rw [hfin, if_pos h], fun h => by rw [hfin, if_neg (by omega), if_pos h], fun h1 h2 => by rw [hfin, if_neg h1, if_neg h2]⟩⟩
    clear hfin hch hchv hr hr1 hr2 hr3 l1 l2 l3 l4 m1 hki hkj hkk hq hqz hll hlz R hs h hab hb' c50
    rw [hn] at K1 K2 K3 K4 ⊢
    clear hb hl hn
    obtain ⟨x1, s1⟩ := r1
    obtain ⟨x2, s2⟩ := r2
    obtain ⟨x3, s3⟩ := r3
    dsimp only at K1 K2 K3 K4
    obtain ⟨x, s⟩ := r
    dsimp only at hsl HFIN K4
    go_enter Tryd.func88, Tryd.ntmps88
    go_wp2_with (fail)
    refine K1.out.mono ?_
    rintro e w1 ⟨rfl, hC⟩
    have K5 := Aside0.mk (K2.out w1 hC)
    clear K1 K2 hC
    go_wp2_with (fail)
    refine K5.out.mono ?_
    rintro e w2 ⟨rfl, hC⟩
    have K6 := Aside0.mk (K3.out w2 hC)
    clear K5 K3 hC
    go_wp2_with (fail)
    refine K6.out.mono ?_
    rintro e w3 ⟨rfl, hC⟩
    have K7 := Aside0.mk (K4.out w3 hC)
    clear K6 K4 hC
    go_wp2_with (fail)
    refine K7.out.mono ?_
    rintro e w4 ⟨rfl, hC⟩
    have HC := Aside0.mk hC
    clear K7 hC
    have HC := HC
    obtain ⟨_, cc, cf, _, _⟩ := HC.out
    obtain ⟨z, hz⟩ : ∃ z : Int, (s : Int) = z := ⟨_, rfl⟩
    rw [hz] at cc
    by_cases c0 : s = 0
    · have hf := HFIN.out.1 c0
      subst hf
      obtain rfl : z = 0 := by omega
      clear hz c0 hsl
      go_wp2
      go_ret2
      exact ⟨rfl, HC.out.1⟩
    · by_cases c1 : s = 12
      · have hf := HFIN.out.2.1 c1
        subst hf
        obtain rfl : z = 12 := by omega
        clear hz c0 c1 hsl
        go_wp2
        go_ret2
        exact ⟨rfl, HC.out.1⟩
      · have hf := HFIN.out.2.2 c0 c1
        subst hf
        have d0 : (z == 0) = false := beq_eq_false_iff_ne.2 (by omega)
        have d1 : (z == 12) = false := beq_eq_false_iff_ne.2 (by omega)
        have d2 : ¬ z = 0 := by omega
        have d3 : ¬ z = 12 := by omega
        clear hz c0 c1 hsl
        go_wp2
        go_ret2
        exact ⟨rfl, HC.out.1⟩
  · have e50 : decide (lz ≥ 50) = false := decide_eq_false (by omega)
    have e50' : ¬ (50 : Int) ≤ lz := by omega
    have K4 := Aside0.mk (median_T w0 bk c ki kj kk w.heap.size 0 d0 d _ R hs C0.out (by omega) (by omega) (by omega) hl (by omega))
    have l4 := med_lt (d := d) (a := ki) (b := kj) (c := kk) (s := 0) (n := d.size) (by omega) (by omega) (by omega)
    obtain ⟨r, hr⟩ : ∃ r, median ltInt d ki kj kk 0 = r := ⟨_, rfl⟩
    rw [hr] at K4 l4
    have hfin := hch r (fun h => absurd h (by omega)) (fun _ => by rw [hr])
    have hsl : r.2 ≤ 12 := by omega
    have HFIN : Aside0 ((r.2 = 0 → ch = (r.1, .increasing)) ∧ (r.2 = 12 → ch = (r.1, .decreasing)) ∧ (¬ r.2 = 0 → ¬ r.2 = 12 → ch = (r.1, .unknown))) := ⟨⟨fun h => by rw [hfin, if_pos h], fun h => by rw [hfin, if_neg (by omega), if_pos h], fun h1 h2 => by rw [hfin, if_neg h1, if_neg h2]⟩⟩
    clear hfin hch hchv hr l4 m1 hki hkj hkk hq hqz hll hlz R hs h hab hb' c50
    rw [hn] at K4 ⊢
    clear hb hl hn
    obtain ⟨x, s⟩ := r
    dsimp only at hsl HFIN K4
    go_enter Tryd.func88, Tryd.ntmps88
    go_wp2_with (fail)
    refine K4.out.mono ?_
    rintro e w4 ⟨rfl, hC⟩
    have HC := Aside0.mk hC
    clear K4 hC
    have HC := HC
    obtain ⟨_, cc, cf, _, _⟩ := HC.out
    obtain ⟨z, hz⟩ : ∃ z : Int, (s : Int) = z := ⟨_, rfl⟩
    rw [hz] at cc
    by_cases c0 : s = 0
    · have hf := HFIN.out.1 c0
      subst hf
      obtain rfl : z = 0 := by omega
      clear hz c0 hsl
      go_wp2
      go_ret2
      exact ⟨rfl, HC.out.1⟩
    · by_cases c1 : s = 12
      · have hf := HFIN.out.2.1 c1
        subst hf
        obtain rfl : z = 12 := by omega
        clear hz c0 c1 hsl
        go_wp2
        go_ret2
        exact ⟨rfl, HC.out.1⟩
      · have hf := HFIN.out.2.2 c0 c1
        subst hf
        have d0 : (z == 0) = false := beq_eq_false_iff_ne.2 (by omega)
        have d1 : (z == 12) = false := beq_eq_false_iff_ne.2 (by omega)
        have d2 : ¬ z = 0 := by omega
        have d3 : ¬ z = 12 := by omega
        clear hz c0 c1 hsl
        go_wp2
        go_ret2
        exact ⟨rfl, HC.out.1⟩
end Go.Proofs.YtplhihakeodadaaDoor.Sg
namespace Go.Proofs.YtplhihakeodadaaDoor.Sg
open Go Go.Sort Go.RowKit Go.Proofs Go.Proofs.YtplhihakeodadaaDoorW.PrintWords Go.Proofs.YtplhihakeodadaaDoorW.PrintLast Go.Proofs.YtplhihakeodadaaDoorW.PrintMore
set_option linter.unusedVariables false
set_option linter.unusedSimpArgs false
set_option maxHeartbeats 16000000 in
set_option maxRecDepth 100000 in
theorem siftDown_T (w0 : World) (bk c lo hi F : Nat) (d0 d : Array Int) (w : World) (R : RU w0 bk d0) (hs : d.size = d0.size) (h : SU w0 bk d w) (hlo : lo ≤ hi) (hb : F + hi ≤ d.size) (hl : d.size ≤ 1000000000) :
    Calls Tryd.prog 98 #[.slice (some ⟨bk, 0, none⟩) d.size c, .int .i64 (lo : Int), .int .i64 (hi : Int), .int .i64 (F : Int)] w fun e w' => e = .returned (.tuple #[]) ∧ SU w0 bk (siftDown ltInt hi F lo d) w' := by
  have HR := Aside0.mk R
  have HW := Aside0.mk h
  have HS := Aside0.mk hs
  obtain ⟨n, hn⟩ : ∃ n, d.size = n := ⟨_, rfl⟩
  have HN := Aside0.mk hn
  rw [hn] at hb hl ⊢
  clear R h hs hn
  go_enter Tryd.func98, Tryd.ntmps98
  go_wp2
  go_loopg [8] (hi - lo) (fun kq v8 w' => ∃ (root : Nat) (dk : Array Int), v8 = .int .i64 (root : Int) ∧ root ≤ hi ∧ hi - root ≤ kq ∧ Aside0 (dk.size = n) ∧ Aside0 (SU w0 bk dk w') ∧ Aside0 (siftDown ltInt hi F root dk = siftDown ltInt hi F lo d))
  case atStart => exact ⟨lo, d, rfl, hlo, Nat.le_refl _, HN, HW, ⟨rfl⟩⟩
  case round =>
    clear HW
    obtain ⟨root, dk, rfl, hr, hk, HK, HW, HE⟩ := hrel
    obtain ⟨G, hG⟩ : ∃ G : Nat → Int, ∀ t, G t = dk[t]! := ⟨fun t => dk[t]!, fun _ => rfl⟩
    have HG := Aside0.mk hG
    clear hG
    obtain ⟨ch, hch⟩ : ∃ q, 2 * root + 1 = q := ⟨_, rfl⟩
    have ez : 2 * (root : Int) + 1 = (ch : Int) := by omega
    have HCH := Aside0.mk hch
    by_cases h0 : hi ≤ 2 * root + 1
    · have h0z : (hi : Int) ≤ (ch : Int) := by omega
      go_wp2
      go_end0
      refine ⟨rfl, ?_⟩
      rw [← HE.out, sd_end ltInt dk h0]
      exact HW.out
    · have h0z : ¬ ((hi : Int) ≤ (ch : Int)) := by omega
      by_cases h1 : 2 * root + 2 < hi
      · have h1z : (ch : Int) + 1 < (hi : Int) := by omega
        have hs0 : dk.size = d0.size := by rw [HK.out, ← HN.out]; exact HS.out
        have hcw := SU.cells HW.out HR.out hs0 (n := n) (by rw [← hs0]; exact HK.out.symm) G HG.out
        have hfw := SU.free HW.out HR.out hs0 (n := n) (by rw [← hs0]; exact HK.out.symm)
        have v0 := hcw (F + ch) (by omega)
        have v1 := hcw (F + ch + 1) (by omega)
        clear hs0 hcw hfw
        go_wp2_with (fail)
        go_big_quiet (first | (go_at_call 91; refine Calls.quiet_of_same (Less_T _ _ _)))
        go_wp2_with (fail)
        · have hL : ltInt (G (F + ch)) (G (F + ch + 1)) = true := by assumption
          revert nq; intro nq1
          have HW2 := Aside0.mk (SW.drewN HW.out nq1)
          obtain ⟨wr2, hwr2⟩ : ∃ W, wr.drewN nq1 = W := ⟨_, rfl⟩
          rw [hwr2] at HW2 ⊢
          clear v0 v1
          clear hwr2
          have hs0 : dk.size = d0.size := by rw [HK.out, ← HN.out]; exact HS.out
          have hcw := SU.cells HW2.out HR.out hs0 (n := n) (by rw [← hs0]; exact HK.out.symm) G HG.out
          have hfw := SU.free HW2.out HR.out hs0 (n := n) (by rw [← hs0]; exact HK.out.symm)
          have v0 := hcw (F + root) (by omega)
          have v1 := hcw (F + (ch + 1)) (by omega)
          clear hs0 hcw hfw
          go_big_quiet (first | (go_at_call 91; refine Calls.quiet_of_same (Less_T _ _ _)))
          go_wp2_with (fail)
          · have hS : ltInt (G (F + root)) (G (F + (ch + 1))) = false := by
              have : (!ltInt (G (F + root)) (G (F + (ch + 1)))) = true := by assumption
              simpa using this
            have HW3 := Aside0.mk (SW.drewN HW2.out nq)
            (try simp only [Exit.inBlock, Exit.then])
            refine bodyPost_ret (results_none rfl _ _ _) rfl ?_
            refine ⟨rfl, ?_⟩
            rw [← HE.out, sd_right_stop ltInt dk h1 (by have := HCH.out; subst this; rw [← HG.out, ← HG.out]; exact hL) (by have := HCH.out; subst this; rw [← HG.out, ← HG.out]; exact hS)]
            exact HW3.out
          · have hS : ltInt (G (F + root)) (G (F + (ch + 1))) = true := by
              have : (!ltInt (G (F + root)) (G (F + (ch + 1)))) = false := by assumption
              simpa using this
            have HS4 := Aside0.mk hS
            have HW3 := Aside0.mk (SW.drewN HW2.out nq)
            obtain ⟨wr3, hwr3⟩ : ∃ W, wr2.drewN nq = W := ⟨_, rfl⟩
            rw [hwr3] at HW3 ⊢
            clear v0 v1
            clear hwr3 hS
            have hs0 : dk.size = d0.size := by rw [HK.out, ← HN.out]; exact HS.out
            have hcw := SU.cells HW3.out HR.out hs0 (n := n) (by rw [← hs0]; exact HK.out.symm) G HG.out
            have hfw := SU.free HW3.out HR.out hs0 (n := n) (by rw [← hs0]; exact HK.out.symm)
            have v0 := hcw (F + root) (by omega)
            have f0 := hfw (F + root) (by omega)
            have v1 := hcw (F + (ch + 1)) (by omega)
            have f1 := hfw (F + (ch + 1)) (by omega)
            clear hs0 hcw hfw
            have HX := Aside0.mk (SU.exch HW3.out HR.out.hblk (F + root) (F + (ch + 1)) (by rw [HK.out]; omega) (by rw [HK.out]; omega))
            go_big_region
            rw [HG.out (F + root), HG.out (F + (ch + 1))]
            obtain ⟨wr4, hwr4⟩ : ∃ W, ((wr3.setCell ⟨bk, F + root, none⟩ (.int .u64 dk[F + (ch + 1)]!)).setCell ⟨bk, F + (ch + 1), none⟩ (.int .u64 dk[F + root]!)).drew = W := ⟨_, rfl⟩
            have HX4 : Aside0 (SU w0 bk (swp dk (F + root) (F + (ch + 1))) wr4) := ⟨hwr4 ▸ SW.drew HX.out⟩
            rw [hwr4]
            clear v0 v1 f0 f1
            clear hwr4 HX
            go_wp2
            go_roundg (hi - (ch + 1))
            case measure => omega
            case rel =>
              refine ⟨ch + 1, swp dk (F + root) (F + (ch + 1)), by push_cast; rfl, by omega, Nat.le_refl _, ⟨by rw [size_swp]; exact HK.out⟩, HX4, ⟨?_⟩⟩
              rw [← HE.out, sd_right_go ltInt dk h1 (by have := HCH.out; subst this; rw [← HG.out, ← HG.out]; exact hL) (by have := HCH.out; subst this; rw [← HG.out, ← HG.out]; exact HS4.out), ← HCH.out]
        · have hL : ltInt (G (F + ch)) (G (F + ch + 1)) = false := by assumption
          revert nq; intro nq1
          have HW2 := Aside0.mk (SW.drewN HW.out nq1)
          obtain ⟨wr2, hwr2⟩ : ∃ W, wr.drewN nq1 = W := ⟨_, rfl⟩
          rw [hwr2] at HW2 ⊢
          clear v0 v1
          clear hwr2
          have hs0 : dk.size = d0.size := by rw [HK.out, ← HN.out]; exact HS.out
          have hcw := SU.cells HW2.out HR.out hs0 (n := n) (by rw [← hs0]; exact HK.out.symm) G HG.out
          have hfw := SU.free HW2.out HR.out hs0 (n := n) (by rw [← hs0]; exact HK.out.symm)
          have v0 := hcw (F + root) (by omega)
          have v1 := hcw (F + (ch)) (by omega)
          clear hs0 hcw hfw
          go_big_quiet (first | (go_at_call 91; refine Calls.quiet_of_same (Less_T _ _ _)))
          go_wp2_with (fail)
          · have hS : ltInt (G (F + root)) (G (F + (ch))) = false := by
              have : (!ltInt (G (F + root)) (G (F + (ch)))) = true := by assumption
              simpa using this
            have HW3 := Aside0.mk (SW.drewN HW2.out nq)
            (try simp only [Exit.inBlock, Exit.then])
            refine bodyPost_ret (results_none rfl _ _ _) rfl ?_
            refine ⟨rfl, ?_⟩
            rw [← HE.out, sd_left_stop ltInt dk (by omega) (fun _ => by have := HCH.out; subst this; rw [← HG.out, ← HG.out]; exact hL) (by have := HCH.out; subst this; rw [← HG.out, ← HG.out]; exact hS)]
            exact HW3.out
          · have hS : ltInt (G (F + root)) (G (F + (ch))) = true := by
              have : (!ltInt (G (F + root)) (G (F + (ch)))) = false := by assumption
              simpa using this
            have HS4 := Aside0.mk hS
            have HW3 := Aside0.mk (SW.drewN HW2.out nq)
            obtain ⟨wr3, hwr3⟩ : ∃ W, wr2.drewN nq = W := ⟨_, rfl⟩
            rw [hwr3] at HW3 ⊢
            clear v0 v1
            clear hwr3 hS
            have hs0 : dk.size = d0.size := by rw [HK.out, ← HN.out]; exact HS.out
            have hcw := SU.cells HW3.out HR.out hs0 (n := n) (by rw [← hs0]; exact HK.out.symm) G HG.out
            have hfw := SU.free HW3.out HR.out hs0 (n := n) (by rw [← hs0]; exact HK.out.symm)
            have v0 := hcw (F + root) (by omega)
            have f0 := hfw (F + root) (by omega)
            have v1 := hcw (F + (ch)) (by omega)
            have f1 := hfw (F + (ch)) (by omega)
            clear hs0 hcw hfw
            have HX := Aside0.mk (SU.exch HW3.out HR.out.hblk (F + root) (F + (ch)) (by rw [HK.out]; omega) (by rw [HK.out]; omega))
            go_big_region
            rw [HG.out (F + root), HG.out (F + (ch))]
            obtain ⟨wr4, hwr4⟩ : ∃ W, ((wr3.setCell ⟨bk, F + root, none⟩ (.int .u64 dk[F + (ch)]!)).setCell ⟨bk, F + (ch), none⟩ (.int .u64 dk[F + root]!)).drew = W := ⟨_, rfl⟩
            have HX4 : Aside0 (SU w0 bk (swp dk (F + root) (F + (ch))) wr4) := ⟨hwr4 ▸ SW.drew HX.out⟩
            rw [hwr4]
            clear v0 v1 f0 f1
            clear hwr4 HX
            go_wp2
            go_roundg (hi - (ch))
            case measure => omega
            case rel =>
              refine ⟨ch, swp dk (F + root) (F + (ch)), by push_cast; rfl, by omega, Nat.le_refl _, ⟨by rw [size_swp]; exact HK.out⟩, HX4, ⟨?_⟩⟩
              rw [← HE.out, sd_left_go ltInt dk (by omega) (fun _ => by have := HCH.out; subst this; rw [← HG.out, ← HG.out]; exact hL) (by have := HCH.out; subst this; rw [← HG.out, ← HG.out]; exact HS4.out), ← HCH.out]
      · have h1z : decide ((ch : Int) + 1 < (hi : Int)) = false := decide_eq_false (by omega)
        go_wp2_with (fail)
        go_big_quiet (first | (go_at_call 91; refine Calls.quiet_of_same (Less_T _ _ _)))
        go_wp2_with (fail)
        revert nq; intro nq1
        have HW2 := Aside0.mk (SW.drewN HW.out nq1)
        obtain ⟨wr2, hwr2⟩ : ∃ W, wr.drewN nq1 = W := ⟨_, rfl⟩
        rw [hwr2] at HW2 ⊢
        clear hwr2
        have hs0 : dk.size = d0.size := by rw [HK.out, ← HN.out]; exact HS.out
        have hcw := SU.cells HW2.out HR.out hs0 (n := n) (by rw [← hs0]; exact HK.out.symm) G HG.out
        have hfw := SU.free HW2.out HR.out hs0 (n := n) (by rw [← hs0]; exact HK.out.symm)
        have v0 := hcw (F + root) (by omega)
        have v1 := hcw (F + (ch)) (by omega)
        clear hs0 hcw hfw
        go_big_quiet (first | (go_at_call 91; refine Calls.quiet_of_same (Less_T _ _ _)))
        go_wp2_with (fail)
        · have hS : ltInt (G (F + root)) (G (F + (ch))) = false := by
            have : (!ltInt (G (F + root)) (G (F + (ch)))) = true := by assumption
            simpa using this
          have HW3 := Aside0.mk (SW.drewN HW2.out nq)
          (try simp only [Exit.inBlock, Exit.then])
          refine bodyPost_ret (results_none rfl _ _ _) rfl ?_
          refine ⟨rfl, ?_⟩
          rw [← HE.out, sd_left_stop ltInt dk (by omega) (fun h => absurd h h1) (by have := HCH.out; subst this; rw [← HG.out, ← HG.out]; exact hS)]
          exact HW3.out
        · have hS : ltInt (G (F + root)) (G (F + (ch))) = true := by
            have : (!ltInt (G (F + root)) (G (F + (ch)))) = false := by assumption
            simpa using this
          have HS4 := Aside0.mk hS
          have HW3 := Aside0.mk (SW.drewN HW2.out nq)
          obtain ⟨wr3, hwr3⟩ : ∃ W, wr2.drewN nq = W := ⟨_, rfl⟩
          rw [hwr3] at HW3 ⊢
          clear v0 v1
          clear hwr3 hS
          have hs0 : dk.size = d0.size := by rw [HK.out, ← HN.out]; exact HS.out
          have hcw := SU.cells HW3.out HR.out hs0 (n := n) (by rw [← hs0]; exact HK.out.symm) G HG.out
          have hfw := SU.free HW3.out HR.out hs0 (n := n) (by rw [← hs0]; exact HK.out.symm)
          have v0 := hcw (F + root) (by omega)
          have f0 := hfw (F + root) (by omega)
          have v1 := hcw (F + (ch)) (by omega)
          have f1 := hfw (F + (ch)) (by omega)
          clear hs0 hcw hfw
          have HX := Aside0.mk (SU.exch HW3.out HR.out.hblk (F + root) (F + (ch)) (by rw [HK.out]; omega) (by rw [HK.out]; omega))
          go_big_region
          rw [HG.out (F + root), HG.out (F + (ch))]
          obtain ⟨wr4, hwr4⟩ : ∃ W, ((wr3.setCell ⟨bk, F + root, none⟩ (.int .u64 dk[F + (ch)]!)).setCell ⟨bk, F + (ch), none⟩ (.int .u64 dk[F + root]!)).drew = W := ⟨_, rfl⟩
          have HX4 : Aside0 (SU w0 bk (swp dk (F + root) (F + (ch))) wr4) := ⟨hwr4 ▸ SW.drew HX.out⟩
          rw [hwr4]
          clear v0 v1 f0 f1
          clear hwr4 HX
          go_wp2
          go_roundg (hi - (ch))
          case measure => omega
          case rel =>
            refine ⟨ch, swp dk (F + root) (F + (ch)), by push_cast; rfl, by omega, Nat.le_refl _, ⟨by rw [size_swp]; exact HK.out⟩, HX4, ⟨?_⟩⟩
            rw [← HE.out, sd_left_go ltInt dk (by omega) (fun h => absurd h h1) (by have := HCH.out; subst this; rw [← HG.out, ← HG.out]; exact HS4.out), ← HCH.out]
end Go.Proofs.YtplhihakeodadaaDoor.Sg
namespace Go.Proofs.YtplhihakeodadaaDoor.Sg
open Go Go.Sort Go.RowKit Go.Proofs Go.Proofs.YtplhihakeodadaaDoorW.PrintWords Go.Proofs.YtplhihakeodadaaDoorW.PrintLast Go.Proofs.YtplhihakeodadaaDoorW.PrintMore
set_option linter.unusedVariables false
set_option linter.unusedSimpArgs false
theorem sd_size (lt : Int → Int → Bool) (hi F root : Nat) (d : Array Int) : (siftDown lt hi F root d).size = d.size := size_siftDown lt hi F (hi - root) root d (Nat.le_refl _)
set_option maxHeartbeats 16000000 in
set_option maxRecDepth 100000 in
theorem heapSort_T (w0 : World) (bk c a b : Nat) (d0 d : Array Int) (w : World) (R : RU w0 bk d0) (hs : d.size = d0.size) (h : SU w0 bk d w) (hab : a < b) (hb : b ≤ d.size) (hl : d.size ≤ 1000000000) :
    Calls Tryd.prog 86 #[.slice (some ⟨bk, 0, none⟩) d.size c, .int .i64 (a : Int), .int .i64 (b : Int)] w fun e w' => e = .returned (.tuple #[]) ∧ SU w0 bk (heapSort ltInt d a b) w' := by
  have HR := Aside0.mk R
  have HW := Aside0.mk h
  have HS := Aside0.mk hs
  obtain ⟨n, hn⟩ : ∃ n, d.size = n := ⟨_, rfl⟩
  have HN := Aside0.mk hn
  rw [hn] at hb hl ⊢
  obtain ⟨hi, hhi⟩ : ∃ q, b - a = q := ⟨_, rfl⟩
  have ehi : (b : Int) - (a : Int) = (hi : Int) := by omega
  have whi : wrap64 ((b : Int) - (a : Int)) = (hi : Int) := by unfold wrap64; omega
  have hpos : 0 < hi := by omega
  obtain ⟨m, hm⟩ : ∃ q, (hi - 1) / 2 = q := ⟨_, rfl⟩
  have etd : Int.tdiv ((hi : Int) - 1) 2 = (m : Int) := by rw [show (hi : Int) - 1 = ((hi - 1 : Nat) : Int) by omega, Int.tdiv_eq_ediv_of_nonneg (by omega)]; omega
  have emm : m ≤ hi := by omega
  have HGO : Aside0 (heapSort ltInt d a b = heapPop ltInt a hi (heapBuild ltInt hi a (m + 1) d)) := ⟨by unfold heapSort; rw [hhi, hm]⟩
  clear R h hs hn hm
  go_enter Tryd.func86, Tryd.ntmps86
  go_wp2
  go_loopg [9] (m + 1) (fun kq v9 w' => ∃ (k : Nat) (dk : Array Int), v9 = .int .i64 ((k : Int) - 1) ∧ k ≤ kq ∧ k ≤ m + 1 ∧ Aside0 (dk.size = n) ∧ Aside0 (SU w0 bk dk w') ∧ Aside0 (heapBuild ltInt hi a k dk = heapBuild ltInt hi a (m + 1) d))
  case atStart => exact ⟨m + 1, d, by push_cast; congr 1; omega, Nat.le_refl _, Nat.le_refl _, HN, HW, ⟨rfl⟩⟩
  case round =>
    clear HW
    obtain ⟨k, dk, rfl, hk, hkm, HK, HW, HE⟩ := hrel
    cases k with
    | succ q =>
      have eq1 : ((q + 1 : Nat) : Int) - 1 = (q : Int) := by omega
      rw [eq1]
      have e1 : decide ((q : Int) ≥ 0) = true := decide_eq_true (by omega)
      have e2 : (0 : Int) ≤ (q : Int) := by omega
      have K := siftDown_T w0 bk c q hi a d0 dk wr HR.out (by rw [HK.out, ← HN.out]; exact HS.out) HW.out (by omega) (by rw [HK.out]; omega) (by rw [HK.out]; exact hl)
      rw [HK.out] at K
      have HKK := Aside0.mk K
      clear K
      go_wp2_with (fail)
      refine HKK.out.mono ?_
      rintro e w1 ⟨rfl, hS⟩
      have HW1 := Aside0.mk hS
      clear HKK hS
      go_wp2
      go_roundg (gk - 1)
      case measure => omega
      case rel => exact ⟨q, _, by first | rfl | (congr 1; go_num), by omega, by omega, ⟨by rw [sd_size]; exact HK.out⟩, HW1, ⟨by rw [← HE.out]; rfl⟩⟩
    | zero =>
      have eq1 : ((0 : Nat) : Int) - 1 = -1 := by omega
      rw [eq1]
      have HD := HE.out
      rw [show heapBuild ltInt hi a 0 dk = dk from rfl] at HD
      have HDK := Aside0.mk HD
      clear HD
      go_wp2
      go_loopg [10] hi (fun kq v10 w' => ∃ (k : Nat) (dj : Array Int), v10 = .int .i64 ((k : Int) - 1) ∧ k ≤ kq ∧ k ≤ hi ∧ Aside0 (dj.size = n) ∧ Aside0 (SU w0 bk dj w') ∧ Aside0 (heapPop ltInt a k dj = heapPop ltInt a hi dk))
      case atStart => exact ⟨hi, dk, by first | rfl | (congr 1; go_num), Nat.le_refl _, Nat.le_refl _, HK, HW, ⟨rfl⟩⟩
      case round =>
        rename_i J0 K0 hJ0 hK0
        clear HW
        obtain ⟨k, dj, rfl, hk2, hkm2, HKJ, HW, HEP⟩ := hrel
        cases k with
        | succ q =>
          rcases Nat.eq_zero_or_pos q with hq0 | hq0
          · subst hq0
            have eq1 : ((0 + 1 : Nat) : Int) - 1 = 0 := by omega
            rw [eq1]
            have hs0 : dj.size = d0.size := by rw [HKJ.out, ← HN.out]; exact HS.out
            have b1 : a < n := by omega
            obtain ⟨G, hG⟩ : ∃ G : Nat → Int, ∀ t, G t = dj[t]! := ⟨fun t => dj[t]!, fun _ => rfl⟩
            have HG := Aside0.mk hG
            have hcw := SU.cells HW.out HR.out hs0 (n := n) (by rw [← hs0]; exact HKJ.out.symm) G hG
            have hfw := SU.free HW.out HR.out hs0 (n := n) (by rw [← hs0]; exact HKJ.out.symm)
            have v1 := hcw a b1
            have f1 := hfw a b1
            have HX := Aside0.mk (SU.exch HW.out HR.out.hblk a a (by rw [HKJ.out]; exact b1) (by rw [HKJ.out]; exact b1))
            clear hcw hfw hG hs0
            go_wp2_with (fail)
            go_big_region
            rw [HG.out a]
            obtain ⟨wr4, hwr4⟩ : ∃ W, ((wr.setCell ⟨bk, a, none⟩ (.int .u64 dj[a]!)).setCell ⟨bk, a, none⟩ (.int .u64 dj[a]!)).drew = W := ⟨_, rfl⟩
            have HX4 : Aside0 (SU w0 bk (swp dj a a) wr4) := ⟨hwr4 ▸ SW.drew HX.out⟩
            rw [hwr4]
            clear hwr4 HX v1 f1
            have K := siftDown_T w0 bk c 0 0 a d0 (swp dj a a) wr4 HR.out (by rw [size_swp, HKJ.out, ← HN.out]; exact HS.out) HX4.out (by omega) (by rw [size_swp, HKJ.out]; omega) (by rw [size_swp, HKJ.out]; exact hl)
            rw [size_swp, HKJ.out] at K
            have HKK := Aside0.mk K
            clear K
            go_wp2_with (fail)
            refine HKK.out.mono ?_
            rintro e w1 ⟨rfl, hS⟩
            have HW1 := Aside0.mk hS
            clear HKK hS
            go_wp2
            go_roundg (gk - 1)
            case measure => omega
            case rel => exact ⟨0, _, by first | rfl | (congr 1; go_num), by omega, by omega, ⟨by rw [sd_size, size_swp]; exact HKJ.out⟩, HW1, ⟨by rw [← HEP.out]; rfl⟩⟩
          · have eq1 : ((q + 1 : Nat) : Int) - 1 = (q : Int) := by omega
            rw [eq1]
            have e1 : decide ((q : Int) ≥ 0) = true := decide_eq_true (by omega)
            have e2 : (0 : Int) ≤ (q : Int) := by omega
            have hs0 : dj.size = d0.size := by rw [HKJ.out, ← HN.out]; exact HS.out
            have b1 : a < n := by omega
            have b2 : a + q < n := by omega
            obtain ⟨G, hG⟩ : ∃ G : Nat → Int, ∀ t, G t = dj[t]! := ⟨fun t => dj[t]!, fun _ => rfl⟩
            have HG := Aside0.mk hG
            have hcw := SU.cells HW.out HR.out hs0 (n := n) (by rw [← hs0]; exact HKJ.out.symm) G hG
            have hfw := SU.free HW.out HR.out hs0 (n := n) (by rw [← hs0]; exact HKJ.out.symm)
            have v1 := hcw a b1
            have v2 := hcw (a + q) b2
            have f1 := hfw a b1
            have f2 := hfw (a + q) b2
            have HX := Aside0.mk (SU.exch HW.out HR.out.hblk a (a + q) (by rw [HKJ.out]; exact b1) (by rw [HKJ.out]; exact b2))
            clear hcw hfw hG hs0
            go_wp2_with (fail)
            go_big_region
            rw [HG.out a, HG.out (a + q)]
            obtain ⟨wr4, hwr4⟩ : ∃ W, ((wr.setCell ⟨bk, a, none⟩ (.int .u64 dj[a + q]!)).setCell ⟨bk, a + q, none⟩ (.int .u64 dj[a]!)).drew = W := ⟨_, rfl⟩
            have HX4 : Aside0 (SU w0 bk (swp dj a (a + q)) wr4) := ⟨hwr4 ▸ SW.drew HX.out⟩
            rw [hwr4]
            clear hwr4 HX v1 v2 f1 f2
            have K := siftDown_T w0 bk c 0 q a d0 (swp dj a (a + q)) wr4 HR.out (by rw [size_swp, HKJ.out, ← HN.out]; exact HS.out) HX4.out (by omega) (by rw [size_swp, HKJ.out]; omega) (by rw [size_swp, HKJ.out]; exact hl)
            rw [size_swp, HKJ.out] at K
            have HKK := Aside0.mk K
            clear K
            go_wp2_with (fail)
            refine HKK.out.mono ?_
            rintro e w1 ⟨rfl, hS⟩
            have HW1 := Aside0.mk hS
            clear HKK hS
            go_wp2
            go_roundg (gk - 1)
            case measure => omega
            case rel => exact ⟨q, _, by first | rfl | (congr 1; go_num), by omega, by omega, ⟨by rw [sd_size, size_swp]; exact HKJ.out⟩, HW1, ⟨by rw [← HEP.out]; rfl⟩⟩
        | zero =>
          have eq1 : ((0 : Nat) : Int) - 1 = -1 := by omega
          rw [eq1]
          go_wp2
          go_end0
          refine ⟨rfl, ?_⟩
          rw [HGO.out, ← HDK.out, ← HEP.out]
          exact HW.out
end Go.Proofs.YtplhihakeodadaaDoor.Sg
namespace Go.Proofs.YtplhihakeodadaaDoor.Sg
open Go Go.Sort Go.RowKit Go.Proofs Go.Proofs.YtplhihakeodadaaDoorW.PrintWords Go.Proofs.YtplhihakeodadaaDoorW.PrintLast Go.Proofs.YtplhihakeodadaaDoorW.PrintMore
set_option linter.unusedVariables false
set_option linter.unusedSimpArgs false
theorem rev_go {i j : Nat} (d : Array Int) (h : i < j) : reverseLoop i j d = reverseLoop (i + 1) (j - 1) (swp d i j) := by rw [reverseLoop, if_pos h]
theorem rev_stop {i j : Nat} (d : Array Int) (h : ¬ i < j) : reverseLoop i j d = d := by rw [reverseLoop, if_neg h]
set_option maxHeartbeats 16000000 in
set_option maxRecDepth 100000 in
theorem revRange_T (w0 : World) (bk c a b : Nat) (d0 d : Array Int) (w : World) (R : RU w0 bk d0) (hs : d.size = d0.size) (h : SU w0 bk d w) (hab : a < b) (hb : b ≤ d.size) (hl : d.size ≤ 1000000000) :
    Calls Tryd.prog 89 #[.slice (some ⟨bk, 0, none⟩) d.size c, .int .i64 (a : Int), .int .i64 (b : Int)] w fun e w' => e = .returned (.tuple #[]) ∧ SU w0 bk (reverseRange d a b) w' := by
  have HR := Aside0.mk R
  have HW := Aside0.mk h
  have HS := Aside0.mk hs
  obtain ⟨n, hn⟩ : ∃ n, d.size = n := ⟨_, rfl⟩
  have HN := Aside0.mk hn
  rw [hn] at hb hl ⊢
  obtain ⟨b, rfl⟩ : ∃ q, b = q + 1 := ⟨b - 1, by omega⟩
  have eb : ((b + 1 : Nat) : Int) - 1 = (b : Int) := by omega
  clear R h hs hn
  go_enter Tryd.func89, Tryd.ntmps89
  go_wp2
  go_loopg [6, 7] (b + 1) (fun kq v6 v7 w' => ∃ (i j : Nat) (dk : Array Int), v6 = .int .i64 (i : Int) ∧ v7 = .int .i64 (j : Int) ∧ i ≤ j + 1 ∧ j ≤ b ∧ j + 1 ≤ kq + i ∧ Aside0 (dk.size = n) ∧ Aside0 (SU w0 bk dk w') ∧ Aside0 (reverseLoop i j dk = reverseLoop a b d))
  case atStart => exact ⟨a, b, d, by first | rfl | (congr 1; go_num), by first | rfl | (congr 1; go_num), by omega, by omega, by omega, HN, HW, ⟨rfl⟩⟩
  case round =>
    clear HW
    obtain ⟨i, j, dk, rfl, rfl, hij, hjb, hk, HK, HW, HE⟩ := hrel
    by_cases hlt : i < j
    · have e1 : decide ((i : Int) < (j : Int)) = true := decide_eq_true (by omega)
      have e2 : (i : Int) < (j : Int) := by omega
      have hs0 : dk.size = d0.size := by rw [HK.out, ← HN.out]; exact HS.out
      have b1 : i < n := by omega
      have b2 : j < n := by omega
      obtain ⟨G, hG⟩ : ∃ G : Nat → Int, ∀ t, G t = dk[t]! := ⟨fun t => dk[t]!, fun _ => rfl⟩
      have HG := Aside0.mk hG
      have hcw := SU.cells HW.out HR.out hs0 (n := n) (by rw [← hs0]; exact HK.out.symm) G hG
      have hfw := SU.free HW.out HR.out hs0 (n := n) (by rw [← hs0]; exact HK.out.symm)
      have v1 := hcw i b1
      have v2 := hcw j b2
      have f1 := hfw i b1
      have f2 := hfw j b2
      have HX := Aside0.mk (SU.exch HW.out HR.out.hblk i j (by rw [HK.out]; exact b1) (by rw [HK.out]; exact b2))
      have HE2 := Aside0.mk (rev_go dk hlt)
      clear hcw hfw hG hs0
      go_wp2_with (fail)
      go_big_region
      rw [HG.out i, HG.out j]
      obtain ⟨wr4, hwr4⟩ : ∃ W, ((wr.setCell ⟨bk, i, none⟩ (.int .u64 dk[j]!)).setCell ⟨bk, j, none⟩ (.int .u64 dk[i]!)).drew = W := ⟨_, rfl⟩
      have HX4 : Aside0 (SU w0 bk (swp dk i j) wr4) := ⟨hwr4 ▸ SW.drew HX.out⟩
      rw [hwr4]
      clear hwr4 HX v1 v2 f1 f2
      obtain ⟨jp, rfl⟩ : ∃ q, j = q + 1 := ⟨j - 1, by omega⟩
      go_wp2
      go_roundg (gk - 1)
      case measure => omega
      case rel => exact ⟨i + 1, jp, _, by first | rfl | (congr 1; go_num), by first | rfl | (congr 1; go_num), by omega, by omega, by omega, ⟨by rw [size_swp]; exact HK.out⟩, HX4, ⟨by rw [← HE.out, HE2.out]; rfl⟩⟩
    · have e1 : decide ((i : Int) < (j : Int)) = false := decide_eq_false (by omega)
      have e2 : ¬ (i : Int) < (j : Int) := by omega
      go_wp2
      go_end0
      refine ⟨rfl, ?_⟩
      unfold reverseRange
      rw [Nat.add_sub_cancel, ← HE.out, rev_stop dk hlt]
      exact HW.out
end Go.Proofs.YtplhihakeodadaaDoor.Sg
namespace Go.Proofs.YtplhihakeodadaaDoor.Sg
open Go Go.Sort Go.RowKit Go.Proofs Go.Proofs.YtplhihakeodadaaDoorW.PrintWords Go.Proofs.YtplhihakeodadaaDoorW.PrintLast Go.Proofs.YtplhihakeodadaaDoorW.PrintMore
set_option linter.unusedVariables false
set_option linter.unusedSimpArgs false
/-- The row, and breakPatterns' random state beside it. -/
def XU (w0 : World) (b : Nat) (d : Array Int) (g X : Nat) (W : World) : Prop := SU w0 b d W ∧ W.cell? ⟨g, 0, none⟩ = some (.int .u64 (X : Int)) ∧ W.frozen? ⟨g, 0, none⟩ = false ∧ w0.heap.size ≤ g ∧ g < W.heap.size
theorem XU.next {w0 W : World} {b g X : Nat} {d : Array Int} (h : XU w0 b d g X W) (Y n : Nat) : XU w0 b d g Y ((W.setCell ⟨g, 0, none⟩ (.int .u64 (Y : Int))).drewN n) :=
  ⟨SW.drewN (SW.setCell_new h.1 g 0 _ h.2.2.2.1) n, by
    show (W.setCell ⟨g, 0, none⟩ (.int .u64 (Y : Int))).cell? _ = _
    exact World.cell?_setCell_same' _ _ _ (by rw [h.2.1]; rfl), by
    show (W.setCell ⟨g, 0, none⟩ (.int .u64 (Y : Int))).frozen? _ = _
    rw [World.frozen?_setCell]; exact h.2.2.1, h.2.2.2.1, by
    show g < (W.setCell ⟨g, 0, none⟩ (.int .u64 (Y : Int))).heap.size
    simpa using h.2.2.2.2⟩
set_option maxHeartbeats 4000000 in
set_option maxRecDepth 1000000 in
theorem xnext_T (g X : Nat) (hX : X < 18446744073709551616) (w : World) (hc : w.cell? ⟨g, 0, none⟩ = some (.int .u64 (X : Int))) (hf : w.frozen? ⟨g, 0, none⟩ = false) :
    Calls Tryd.prog 100 #[.pointer (some ⟨g, 0, none⟩)] w fun e w' => e = .returned (.int .u64 ((xorNextN X : Nat) : Int)) ∧ w' = (w.setCell ⟨g, 0, none⟩ (.int .u64 ((xorNextN X : Nat) : Int))).drewN 3 := by
  obtain ⟨p, hp⟩ : ∃ p : Nat, X ^^^ (X * 8192 % 18446744073709551616) = p := ⟨_, rfl⟩
  obtain ⟨q, hq⟩ : ∃ q : Nat, p ^^^ (p / 128) = q := ⟨_, rfl⟩
  obtain ⟨r, hr⟩ : ∃ r : Nat, q ^^^ (q * 131072 % 18446744073709551616) = r := ⟨_, rfl⟩
  have lp : p < 18446744073709551616 := by rw [← hp]; exact Nat.xor_lt_two_pow (n := 64) (by omega) (by omega)
  have lq : q < 18446744073709551616 := by rw [← hq]; exact Nat.xor_lt_two_pow (n := 64) (by omega) (by omega)
  have e1 : bits .xor .u64 (X : Int) (IntKind.u64.wrap ((X : Int) * 8192)) = (p : Int) := by
    rw [IntKind.wrap_u64, show ((X : Int) * 8192 % 18446744073709551616) = ((X * 8192 % 18446744073709551616 : Nat) : Int) by omega, bits_xor_u64_nat _ _ hX (by omega), hp]
  have e2 : bits .xor .u64 (p : Int) ((p : Int) / 128) = (q : Int) := by
    rw [show ((p : Int) / 128) = ((p / 128 : Nat) : Int) by omega, bits_xor_u64_nat _ _ lp (by omega), hq]
  have e3 : bits .xor .u64 (q : Int) (IntKind.u64.wrap ((q : Int) * 131072)) = (r : Int) := by
    rw [IntKind.wrap_u64, show ((q : Int) * 131072 % 18446744073709551616) = ((q * 131072 % 18446744073709551616 : Nat) : Int) by omega, bits_xor_u64_nat _ _ lq (by omega), hr]
  have hv : xorNextN X = r := by unfold xorNextN; simp only [hp, hq, hr]
  rw [hv]
  clear hp hq hr hv
  have hss : ∀ v v', (w.setCell ⟨g, 0, none⟩ v).setCell ⟨g, 0, none⟩ v' = w.setCell ⟨g, 0, none⟩ v' := setCell_setCell w g 0
  go_enter Tryd.func100, Tryd.ntmps100
  go_wp2
  go_region
  all_goals go_wp2
  all_goals go_region
  all_goals go_wp2
  all_goals go_region
  all_goals go_wp2
  go_ret
  exact ⟨rfl, rfl⟩
set_option maxHeartbeats 1000000 in
theorem npow_T (n : Nat) (hn : n < 4611686018427387904) (w : World) :
    Calls Tryd.prog 99 #[.int .i64 (n : Int)] w fun e w' => e = .returned (.int .u64 ((1 <<< bitsLen n : Nat) : Int)) ∧ w' = w := by
  have K := Aside0.mk (fun W => Len_T n (by omega) W)
  rw [bitLen_eq _ (by omega)] at K
  have hk : bitsLen n ≤ 62 := (bitsLen_le_iff n 62).2 (by omega)
  have hp := wrap_two_pow (bitsLen n) hk
  have hw : IntKind.u64.wrap (n : Int) = n := by simp only [IntKind.wrap, IntKind.bits, IntKind.signed]; simp; omega
  go_enter Tryd.func99, Tryd.ntmps99
  go_wp2_with (fail)
  refine (K.out _).mono ?_
  rintro e w1 ⟨rfl, rfl⟩
  go_wp2
  go_ret
  exact ⟨rfl, rfl⟩
end Go.Proofs.YtplhihakeodadaaDoor.Sg
namespace Go.Proofs.YtplhihakeodadaaDoor.Sg
open Go Go.Sort Go.RowKit Go.Proofs Go.Proofs.YtplhihakeodadaaDoorW.PrintWords Go.Proofs.YtplhihakeodadaaDoorW.PrintLast Go.Proofs.YtplhihakeodadaaDoorW.PrintMore
set_option linter.unusedVariables false
set_option linter.unusedSimpArgs false
theorem XU.start {w0 W : World} {b : Nat} {d : Array Int} (h : SU w0 b d W) (X : Nat) (T : TypeId) : XU w0 b d W.heap.size X (W.alloc (.cells #[.int .u64 (X : Int)] T)) := ⟨SW.alloc h _, by simp, by simp, SW.le h, by simp⟩
theorem XU.swap {w0 W : World} {b g X i j : Nat} {d : Array Int} (h : XU w0 b d g X W) (hb : b < w0.heap.size) (hi : i < d.size) (hj : j < d.size) : XU w0 b (swp d i j) g X ((W.setCell ⟨b, i, none⟩ (.int .u64 d[j]!)).setCell ⟨b, j, none⟩ (.int .u64 d[i]!)).drew := by
  have hne : g ≠ b := by have := h.2.2.2.1; omega
  obtain ⟨k1, k2⟩ := box_kept_swap1 hne h.2.1 h.2.2.1 i j (.int .u64 d[j]!) (.int .u64 d[i]!)
  exact ⟨SW.drew (SU.exch h.1 hb i j hi hj), k1, k2, h.2.2.2.1, by
    show g < ((W.setCell ⟨b, i, none⟩ (.int .u64 d[j]!)).setCell ⟨b, j, none⟩ (.int .u64 d[i]!)).heap.size
    simpa using h.2.2.2.2⟩
set_option maxHeartbeats 16000000 in
set_option maxRecDepth 100000 in
theorem breakPat_T (w0 : World) (bk c a b : Nat) (d0 d : Array Int) (w : World) (R : RU w0 bk d0) (hs : d.size = d0.size) (h : SU w0 bk d w) (hab : a + 12 < b) (hb : b ≤ d.size) (hl : d.size ≤ 1000000000) :
    Calls Tryd.prog 87 #[.slice (some ⟨bk, 0, none⟩) d.size c, .int .i64 (a : Int), .int .i64 (b : Int)] w fun e w' => e = .returned (.tuple #[]) ∧ SU w0 bk (breakPatterns d a b) w' := by
  obtain ⟨L, rfl⟩ : ∃ L, b = a + L := ⟨b - a, by omega⟩
  rw [breakPatterns_eq d a L (by omega)]
  obtain ⟨q, hq⟩ : ∃ q, L / 4 = q := ⟨_, rfl⟩
  rw [hq]
  obtain ⟨j0, hj0⟩ : ∃ j, a + q * 2 - 1 = j := ⟨_, rfl⟩
  rw [hj0]
  obtain ⟨M, hM⟩ : ∃ M : Nat, 1 <<< bitsLen L = M := ⟨_, rfl⟩
  have hM1 : 1 ≤ M := by rw [← hM, Nat.one_shiftLeft]; exact Nat.two_pow_pos _
  have hM2 : M ≤ 2 * L := by rw [← hM, Nat.one_shiftLeft]; exact two_pow_bitsLen_le (by omega)
  have KN := Aside0.mk (fun W => npow_T L (by omega) W)
  rw [hM] at KN ⊢
  have HR := Aside0.mk R
  have HS := Aside0.mk hs
  obtain ⟨n, hn⟩ : ∃ n, d.size = n := ⟨_, rfl⟩
  have HN := Aside0.mk hn
  rw [hn] at hb hl ⊢
  have HX0 := Aside0.mk (XU.start h L 140)
  have el2 : ((a + L : Nat) : Int) - (a : Int) = (L : Int) := by omega
  have el3 : (a : Int) + (L : Int) - (a : Int) = (L : Int) := by omega
  have et : Int.tdiv (L : Int) 4 = (q : Int) := by rw [Int.tdiv_eq_ediv_of_nonneg (by omega)]; omega
  have e8 : decide ((L : Int) ≥ 8) = true := decide_eq_true (by omega)
  clear R h hs hn hM
  go_enter Tryd.func87, Tryd.ntmps87
  go_wp2_with (fail)
  refine (KN.out _).mono ?_
  rintro e w1 ⟨rfl, rfl⟩
  clear KN
  go_wp2_with (fail)
  go_loopg [9] 3 (fun kq v9 w' => ∃ (t : Nat) (r : UInt64) (dk : Array Int), v9 = .int .i64 ((j0 + t : Nat) : Int) ∧ t ≤ 3 ∧ 3 ≤ kq + t ∧ Aside0 (dk.size = n) ∧ Aside0 (XU w0 bk dk w.heap.size r.toNat w') ∧ Aside0 (bpRest a L M j0 (3 - t) t (r, dk) = bpRest a L M j0 3 0 (UInt64.ofNat L, d)))
  case atStart => exact ⟨0, UInt64.ofNat L, d, by congr 1; omega, by omega, by omega, HN, ⟨by rw [show (UInt64.ofNat L).toNat = L by simp; omega]; exact HX0.out⟩, ⟨rfl⟩⟩
  case round =>
    clear HX0
    obtain ⟨t, r, dk, rfl, ht, hk, HK, HX, HE⟩ := hrel
    obtain ⟨j, hj⟩ : ∃ j, j0 + t = j := ⟨_, rfl⟩
    rw [hj]
    by_cases c3 : t = 3
    · subst c3
      have e1 : decide ((j : Int) ≤ (a : Int) + (q : Int) * 2 + 1) = false := decide_eq_false (by omega)
      have e0 : ¬ ((j : Int) ≤ (a : Int) + (q : Int) * 2 + 1) := by omega
      go_wp2
      go_end0
      refine ⟨rfl, ?_⟩
      rw [← HE.out]
      exact HX.out.1
    · have e1 : decide ((j : Int) ≤ (a : Int) + (q : Int) * 2 + 1) = true := decide_eq_true (by omega)
      have e0 : (j : Int) ≤ (a : Int) + (q : Int) * 2 + 1 := by omega
      have KX := Aside0.mk (xnext_T w.heap.size r.toNat r.toNat_lt wr HX.out.2.1 HX.out.2.2.1)
      obtain ⟨X, hX⟩ : ∃ X, xorNextN r.toNat = X := ⟨_, rfl⟩
      have lX : X < 18446744073709551616 := by rw [← hX]; exact xorNextN_lt _ r.toNat_lt
      rw [hX] at KX
      have HRN : Aside0 (X = (xorNext r).toNat) := ⟨by rw [xorNext_toNat, hX]⟩
      obtain ⟨O, hO⟩ : ∃ O, X &&& (M - 1) = O := ⟨_, rfl⟩
      have lO : O ≤ M - 1 := by rw [← hO]; exact Nat.and_le_right
      have eAnd : bits .and .u64 (X : Int) ((M : Int) - 1) = (O : Int) := by
        rw [show ((M : Int) - 1) = ((M - 1 : Nat) : Int) by omega, bits_and_u64_nat _ _ lX (by omega), hO]
      have HOO : Aside0 ((xorNext r).toNat &&& (M - 1) = O) := ⟨by rw [← HRN.out, hO]⟩
      clear hX hO
      go_wp2_with (fail)
      refine KX.out.mono ?_
      rintro e w6 ⟨rfl, rfl⟩
      have HX7 := Aside0.mk (XU.next HX.out X 3)
      obtain ⟨w7, hw7⟩ : ∃ W, (wr.setCell ⟨w.heap.size, 0, none⟩ (.int .u64 (X : Int))).drewN 3 = W := ⟨_, rfl⟩
      rw [hw7] at HX7 ⊢
      clear hw7 KX HX
      have hs0 : dk.size = d0.size := by rw [HK.out, ← HN.out]; exact HS.out
      obtain ⟨G, hG⟩ : ∃ G : Nat → Int, ∀ t, G t = dk[t]! := ⟨fun t => dk[t]!, fun _ => rfl⟩
      have HG := Aside0.mk hG
      have hcw := SU.cells HX7.out.1 HR.out hs0 (n := n) (by rw [← hs0]; exact HK.out.symm) G hG
      have hfw := SU.free HX7.out.1 HR.out hs0 (n := n) (by rw [← hs0]; exact HK.out.symm)
      have v1 := hcw j (by omega)
      have f1 := hfw j (by omega)
      clear hs0 hG
      by_cases hLO : L ≤ O
      · have d1 : decide ((O : Int) ≥ (L : Int)) = true := decide_eq_true (by omega)
        have d2 : (L : Int) ≤ (O : Int) := by omega
        obtain ⟨o, ho⟩ : ∃ o, O - L = o := ⟨_, rfl⟩
        have d3 : (O : Int) - (L : Int) = (o : Int) := by omega
        have HBP := Aside0.mk (bp_step a L M j0 t r dk o (by omega) (by rw [HOO.out, if_pos hLO, ho]))
        obtain ⟨k, hkk⟩ : ∃ k, a + o = k := ⟨_, rfl⟩
        have ek : (a : Int) + (o : Int) = (k : Int) := by omega
        rw [hkk, hj] at HBP
        by_cases hjk : j = k
        · subst hjk
          have HX := Aside0.mk (XU.swap (i := j) (j := j) HX7.out HR.out.hblk (by rw [HK.out]; omega) (by rw [HK.out]; omega))
          clear hcw hfw
          go_wp2_with (fail)
          go_big_region
          rw [HG.out j]
          obtain ⟨wr4, hwr4⟩ : ∃ W, ((w7.setCell ⟨bk, j, none⟩ (.int .u64 dk[j]!)).setCell ⟨bk, j, none⟩ (.int .u64 dk[j]!)).drew = W := ⟨_, rfl⟩
          rw [hwr4] at HX ⊢
          clear hwr4 v1 f1
          go_wp2
          go_roundg (gk - 1)
          case measure => omega
          case rel => exact ⟨t + 1, xorNext r, swp dk j (j), by first | rfl | (congr 1; omega) | (congr 1; go_num), by omega, by omega, ⟨by rw [size_swp]; exact HK.out⟩, by have := HX; rw [HRN.out] at this; exact this, ⟨by rw [← HE.out, HBP.out]⟩⟩
        · have v2 := hcw (k) (by omega)
          have f2 := hfw (k) (by omega)
          have HX := Aside0.mk (XU.swap (i := j) (j := k) HX7.out HR.out.hblk (by rw [HK.out]; omega) (by rw [HK.out]; omega))
          clear hcw hfw
          go_wp2_with (fail)
          go_big_region
          rw [HG.out j, HG.out (k)]
          obtain ⟨wr4, hwr4⟩ : ∃ W, ((w7.setCell ⟨bk, j, none⟩ (.int .u64 dk[k]!)).setCell ⟨bk, k, none⟩ (.int .u64 dk[j]!)).drew = W := ⟨_, rfl⟩
          rw [hwr4] at HX ⊢
          clear hwr4 v1 v2 f1 f2
          go_wp2
          go_roundg (gk - 1)
          case measure => omega
          case rel => exact ⟨t + 1, xorNext r, swp dk j (k), by first | rfl | (congr 1; omega) | (congr 1; go_num), by omega, by omega, ⟨by rw [size_swp]; exact HK.out⟩, by have := HX; rw [HRN.out] at this; exact this, ⟨by rw [← HE.out, HBP.out]⟩⟩
      · have d1 : decide ((O : Int) ≥ (L : Int)) = false := decide_eq_false (by omega)
        have d2 : ¬ (L : Int) ≤ (O : Int) := by omega
        have HBP := Aside0.mk (bp_step a L M j0 t r dk O (by omega) (by rw [HOO.out, if_neg hLO]))
        obtain ⟨k, hkk⟩ : ∃ k, a + O = k := ⟨_, rfl⟩
        have ek : (a : Int) + (O : Int) = (k : Int) := by omega
        rw [hkk, hj] at HBP
        by_cases hjk : j = k
        · subst hjk
          have HX := Aside0.mk (XU.swap (i := j) (j := j) HX7.out HR.out.hblk (by rw [HK.out]; omega) (by rw [HK.out]; omega))
          clear hcw hfw
          go_wp2_with (fail)
          go_big_region
          rw [HG.out j]
          obtain ⟨wr4, hwr4⟩ : ∃ W, ((w7.setCell ⟨bk, j, none⟩ (.int .u64 dk[j]!)).setCell ⟨bk, j, none⟩ (.int .u64 dk[j]!)).drew = W := ⟨_, rfl⟩
          rw [hwr4] at HX ⊢
          clear hwr4 v1 f1
          go_wp2
          go_roundg (gk - 1)
          case measure => omega
          case rel => exact ⟨t + 1, xorNext r, swp dk j (j), by first | rfl | (congr 1; omega) | (congr 1; go_num), by omega, by omega, ⟨by rw [size_swp]; exact HK.out⟩, by have := HX; rw [HRN.out] at this; exact this, ⟨by rw [← HE.out, HBP.out]⟩⟩
        · have v2 := hcw (k) (by omega)
          have f2 := hfw (k) (by omega)
          have HX := Aside0.mk (XU.swap (i := j) (j := k) HX7.out HR.out.hblk (by rw [HK.out]; omega) (by rw [HK.out]; omega))
          clear hcw hfw
          go_wp2_with (fail)
          go_big_region
          rw [HG.out j, HG.out (k)]
          obtain ⟨wr4, hwr4⟩ : ∃ W, ((w7.setCell ⟨bk, j, none⟩ (.int .u64 dk[k]!)).setCell ⟨bk, k, none⟩ (.int .u64 dk[j]!)).drew = W := ⟨_, rfl⟩
          rw [hwr4] at HX ⊢
          clear hwr4 v1 v2 f1 f2
          go_wp2
          go_roundg (gk - 1)
          case measure => omega
          case rel => exact ⟨t + 1, xorNext r, swp dk j (k), by first | rfl | (congr 1; omega) | (congr 1; go_num), by omega, by omega, ⟨by rw [size_swp]; exact HK.out⟩, by have := HX; rw [HRN.out] at this; exact this, ⟨by rw [← HE.out, HBP.out]⟩⟩
end Go.Proofs.YtplhihakeodadaaDoor.Sg
