import Derived.Test.YthefbeekcjchcaaInNum
namespace Go.Proofs.Ythefbeekcjchcaa.P
open Go Go.RowKit Go.Proofs.YthefbeekcjchcaaW.PrintWords Go.Proofs.YthefbeekcjchcaaW.PrintLast Go.Proofs.YthefbeekcjchcaaW.PrintMore
set_option linter.unusedVariables false
set_option linter.unusedSimpArgs false
theorem infoI3 : (Try.prog.info? 3).map (fun i => (i.zero, i.size, i.bytes)) = some (some (.int .i64 0), 1, 8) := by kernel_rfl
/-- What is left never grows, and stays bytes; the number is from nothing to 2 to the 40th. -/
theorem dn_left : ∀ (bs : List Int) (k : Nat) (n : Int), 0 ≤ n → Bytes bs → (0 ≤ (dn k n bs).1 ∧ (dn k n bs).1 ≤ 1099511627776) ∧ (dn k n bs).2.1.length ≤ bs.length ∧ Bytes (dn k n bs).2.1
  | [], k, n, hn, h => by rw [dn]; exact ⟨⟨by simp, by simp⟩, Nat.le_refl _, h⟩
  | c :: bs, k, n, hn, h => by
    have hc := h c (List.mem_cons_self ..)
    have ht : Bytes bs := fun x hx => h x (List.mem_cons_of_mem _ hx)
    have hp : (0 : Int) ≤ c % 128 * 128 ^ k := Int.mul_nonneg (by omega) (Int.pow_nonneg (by omega))
    rw [dn]
    split
    · exact ⟨⟨by simp, by simp⟩, by simp, ht⟩
    · rename_i h1
      split
      · exact ⟨⟨by dsimp only; omega, by dsimp only; omega⟩, by simp, ht⟩
      · have := dn_left bs (k + 1) (n + c % 128 * 128 ^ k) (by omega) ht
        exact ⟨this.1, by simp; omega, this.2.2⟩
theorem dnum_left (bs : List Int) (e : Int) (h : Bytes bs) : (0 ≤ (dnum bs e).1 ∧ (dnum bs e).1 ≤ 1099511627776) ∧ (dnum bs e).2.1.length ≤ bs.length ∧ Bytes (dnum bs e).2.1 := by
  unfold dnum
  split
  · exact dn_left bs 0 0 (by omega) h
  · exact ⟨⟨by simp, by simp⟩, Nat.le_refl _, h⟩
/-- How many come. -/
def dsize (bs : List Int) (e : Int) : Int × List Int × Int :=
  if (dnum bs e).1 > ((dnum bs e).2.1.length : Int) then (0, (dnum bs e).2.1, if (dnum bs e).2.2 = 0 then 13 else (dnum bs e).2.2) else dnum bs e
theorem dsize_left (bs : List Int) (e : Int) (h : Bytes bs) : (0 ≤ (dsize bs e).1 ∧ (dsize bs e).1 ≤ ((dsize bs e).2.1.length : Int)) ∧ (dsize bs e).2.1.length ≤ bs.length ∧ Bytes (dsize bs e).2.1 := by
  have := dnum_left bs e h
  unfold dsize
  split
  · exact ⟨⟨by simp, by simp⟩, this.2.1, this.2.2⟩
  · exact ⟨⟨this.1.1, by omega⟩, this.2.1, this.2.2⟩
set_option maxHeartbeats 4000000 in
set_option maxRecDepth 20000 in
theorem in_size_calls (g : Nat) (bs : List Int) (e : Int) (w0 w : World) (hI : IN w0 w g bs e) (hB : Below w0.heap.size w0 w) (hb : Bytes bs) (hlen : bs.length ≤ 1000000000) :
    Calls Try.prog 91 #[.pointer (some ⟨g, 0, none⟩)] w fun e' w' => e' = .returned (.int .i64 (dsize bs e).1) ∧ IN w0 w' g (dsize bs e).2.1 (dsize bs e).2.2 ∧ Below w0.heap.size w0 w' ∧ Only w w' g := by
  have K := Aside0.mk (in_num_calls g bs e w0 w hI hB hb hlen)
  unfold dsize
  generalize dnum bs e = r at K ⊢
  obtain ⟨n, xs, e1⟩ := r
  dsimp only at K ⊢
  clear hI hB hb hlen
  by_cases c : n > (xs.length : Int)
  · rw [if_pos c]
    have d : decide ((xs.length : Int) < n) = true := decide_eq_true c
    clear c
    obtain ⟨e2, he2⟩ : ∃ e2, (if e1 = 0 then 13 else e1) = e2 := ⟨_, rfl⟩
    dsimp only
    rw [he2]
    have HE2 := Aside0.mk he2
    clear he2
    go_enter Try.func91, Try.ntmps91
    go_wp2_with (fail)
    refine K.out.mono ?_
    rintro e w1 ⟨rfl, hi, hb, hk⟩
    have HI := Aside0.mk hi
    have HB := Aside0.mk hb
    have HK := Aside0.mk hk
    obtain ⟨A, c0, hg, _⟩ := hi
    have hc0 := (blk_cell hg) 0
    clear hb hk hg
    go_wp2_with (fail)
    refine (fail_calls g xs e1 13 w0 w1 HI.out HB.out).mono ?_
    rintro e w2 ⟨rfl, hi, hb, hk⟩
    rw [HE2.out] at hi
    have HI2 := Aside0.mk hi
    have HB2 := Aside0.mk hb
    have HK2 := Aside0.mk (HK.out.trans hk)
    clear hi hb hk
    go_wp2
    go_ret
    exact ⟨rfl, HI2.out, HB2.out, HK2.out⟩
  · rw [if_neg c]
    have d : decide ((xs.length : Int) < n) = false := decide_eq_false c
    clear c
    go_enter Try.func91, Try.ntmps91
    go_wp2_with (fail)
    refine K.out.mono ?_
    rintro e w1 ⟨rfl, hi, hb, hk⟩
    have HI := Aside0.mk hi
    have HB := Aside0.mk hb
    have HK := Aside0.mk hk
    obtain ⟨A, c0, hg, _⟩ := hi
    have hc0 := (blk_cell hg) 0
    clear hb hk hg
    go_wp2
    go_ret
    exact ⟨rfl, HI.out, HB.out, HK.out⟩
/-- So many numbers. -/
def tloop : Nat → List Int → List Int → Int → List Int × List Int × Int
  | 0, out, bs, e => (out, bs, e)
  | k + 1, out, bs, e => if e = 0 then tloop k (out ++ [(dnum bs e).1]) (dnum bs e).2.1 (dnum bs e).2.2 else ([], bs, e)
def gets (bs : List Int) (e : Int) : List Int × List Int × Int := tloop (dsize bs e).1.toNat [] (dsize bs e).2.1 (dsize bs e).2.2
theorem IN.grown {w0 w w1 : World} {g : Nat} {bs : List Int} {e : Int} (h : IN w0 w g bs e) {row : Option Nat} (hg : w.grownBy w1 row) (hne : some g ≠ row) : IN w0 w1 g bs e := by
  obtain ⟨A, c, hb, r⟩ := h
  exact ⟨A, c, (hg.block g (blk_lt hb) hne).trans hb, r⟩
theorem R_only {w w1 : World} {g e base : Nat} {α : Type} {d : Kd α} {v : Value} {xs : List α} (h : d.R e w base (fun k => k ≠ g) v xs) (hk : Only w w1 g) : d.R e w1 base (fun k => k ≠ g) v xs := Kd.R_step h (fun k ho hlt => hk.2 k hlt ho)
set_option maxHeartbeats 8000000 in
set_option maxRecDepth 20000 in
theorem things_int_calls (g : Nat) (bs : List Int) (e : Int) (w0 w : World) (hI : IN w0 w g bs e) (hB : Below w0.heap.size w0 w) (hb : Bytes bs) (hlen : bs.length ≤ 1000000000) :
    Calls Try.prog 89 #[.pointer (some ⟨g, 0, none⟩), .func (.func 49) #[.pointer (some ⟨g, 0, none⟩)] #[]] w fun e' w' => ∃ v, e' = .returned v ∧ Kd.R (Kd.int .i64) 3 w' w0.heap.size (fun k => k ≠ g) v (gets bs e).1 ∧ IN w0 w' g (gets bs e).2.1 (gets bs e).2.2 ∧ Below w0.heap.size w0 w' := by
  have K := Aside0.mk (in_size_calls g bs e w0 w hI hB hb hlen)
  have hs := dsize_left bs e hb
  obtain ⟨r, hr⟩ : ∃ r, gets bs e = r := ⟨_, rfl⟩
  rw [hr]
  unfold gets at hr
  generalize dsize bs e = s at K hs hr
  obtain ⟨n, ys, e1⟩ := s
  dsimp only at K hs hr
  obtain ⟨m, rfl⟩ : ∃ m : Nat, n = (m : Int) := ⟨n.toNat, by omega⟩
  rw [Int.toNat_natCast] at hr
  have HP := Aside0.mk hr
  have HY := Aside0.mk hs.2.2
  have HN : Aside0 (m ≤ 1000000000 ∧ ys.length ≤ 1000000000) := ⟨by omega, by omega⟩
  clear hI hB hb hlen hs hr
  go_enter Try.func89, Try.ntmps89
  go_wp2_with (fail)
  refine K.out.mono ?_
  rintro e w1 ⟨rfl, hi, hb, hk⟩
  have HI := Aside0.mk hi
  have HB := Aside0.mk hb
  clear hi hb hk
  go_wp2
  go_loopg [5, 8] m (fun kq v5 v8 w' => ∃ (i : Nat) (out xs : List Int) (ee : Int), v8 = .int .i64 (i : Int) ∧ Aside0 (i + kq = m) ∧ Aside0 (out.length = i) ∧ Aside0 (tloop kq out xs ee = r) ∧ Aside0 (Bytes xs) ∧ Aside0 (xs.length ≤ 1000000000) ∧ Aside0 (IN w0 w' g xs ee) ∧ Aside0 (Kd.R (Kd.int .i64) 3 w' w0.heap.size (fun k => k ≠ g) v5 out) ∧ Aside0 (Below w0.heap.size w0 w'))
  case atStart => exact ⟨0, [], ys, e1, rfl, ⟨by omega⟩, ⟨rfl⟩, HP, HY, ⟨HN.out.2⟩, HI, ⟨Kd.R_nil _ _ _ _ _⟩, HB⟩
  case round =>
    clear HI HB HP HY
    obtain ⟨i, out, xs, ee, rfl, HK, HOL, HP, HY, HXL, HI, HO, HB⟩ := hrel
    obtain ⟨A0, c0, hg, hg0, hC, hcc⟩ := HI.out
    have hc1 := (blk_cell hg) 1
    clear hg hC hcc
    have HG0 := Aside0.mk hg0
    clear hg0
    cases gk with
    | zero =>
      have e1 : decide (i < m) = false := decide_eq_false (by have := HK.out; omega)
      have hP := HP.out
      rw [tloop] at hP
      subst hP
      go_wp2
      go_ret
      exact ⟨_, rfl, HO.out, HI.out, HB.out⟩
    | succ gk =>
      have e1 : decide (i < m) = true := decide_eq_true (by have := HK.out; omega)
      have e5 : wrap64 ((i : Int) + 1) = ((i + 1 : Nat) : Int) := by have := HK.out; have := HN.out; unfold wrap64; omega
      have hP := HP.out
      rw [tloop] at hP
      by_cases he : ee = 0
      · rw [if_pos he] at hP
        have h0 : (ee == 0) = true := beq_iff_eq.2 he
        have h1 : (ee != 0) = false := bne_eq_false_iff_eq.2 he
        have K := Aside0.mk (in_num_calls g xs ee w0 wr HI.out HB.out HY.out HXL.out)
        have hl := dnum_left xs ee HY.out
        generalize dnum xs ee = t at K hP hl
        obtain ⟨x, zs, e2⟩ := t
        dsimp only at K hP hl
        have HP1 := Aside0.mk hP
        have HL := Aside0.mk hl
        clear he hP hl
        go_wp2_with (fail)
        refine K.out.mono ?_
        rintro e w2 ⟨rfl, hi, hb, hk⟩
        have HI1 := Aside0.mk hi
        have HB1 := Aside0.mk hb
        have HO1 := Aside0.mk (R_only HO.out hk)
        clear hi hb hk K
        go_wp2_with (first | ((with_reducible refine gate_dst (N := 18) rfl ?_); refine Kd.R_lit (Kd.int .i64) w2.heap.size 3 ?hg (N := 18) ?hd (xs := [x]) (inner := [.int .i64 x]) (ok := fun _ => True) (okp := fun _ => True) ?hr ?hp (fun _ hk => hk) trivial (Below.refl _ _) (Nat.le_refl _) (by simp) ?_; (case hd => rfl); (case hg => rfl); (case hr => first | (go_simp; done) | (go_simp; rfl)); (case hp => exact (Reps.one (show Kd.M (Kd.int .i64) _ _ _ x [.int .i64 x] from rfl) (Reps.none _ _))); intro v43 w7 ho hb hg_ hnew_; clear hg_ hnew_; obtain ⟨A43, c43, rfl, hcl43, hC43⟩ := Kd.R_reads ho; have HC43 := Aside0.mk hC43; have HO2 := Aside0.mk (Kd.R_below HO1.out hb); have HI2 := Aside0.mk (HI1.out.below hb); have HB2 := Aside0.mk (below_step HB1.out hb); clear ho hb hC43 hcl43) | ((with_reducible refine gate_builtin (b := .append) (xs := #[.tmp 15, .tmp 18]) rfl ?_); at_builtin; refine Kd.R_append_row (Value.int .i64) 0 (h1 := fun _ => rfl) (w0 := w0) w0.heap.size rfl (.tmp 15) (.tmp 18) 22 3 (.int .i64 0) 8 rfl Try.underlying22 infoI3 rfl (by decide) u5 out [x] A43 1 c43 (fun k => k ≠ g) rfl rfl (fun k hk => by obtain ⟨_, _, hgg, _⟩ := HI2.out; have := blk_lt hgg; omega) HO2.out HC43.out HB2.out (below_size HB2.out) (by have := HOL.out; have := HK.out; have := HN.out; omega) ?_; intro v44 w8 ho hb hgr hat; have HO3 := Aside0.mk ho; have HB3 := Aside0.mk hb; have HI3 := Aside0.mk (HI2.out.grown hgr (Kd.R_away HO2.out (fun k hk => hk))); clear ho hb hgr hat))
        go_roundg gk
        case measure => omega
        case rel => exact ⟨i + 1, out ++ [x], zs, e2, congrArg _ e5, ⟨by have := HK.out; omega⟩, ⟨by simp [HOL.out]⟩, HP1, ⟨HL.out.2.2⟩, ⟨by have := HL.out.2.1; have := HXL.out; omega⟩, HI3, HO3, HB3⟩
      · rw [if_neg he] at hP
        subst hP
        have h0 : (ee == 0) = false := beq_eq_false_iff_ne.2 he
        have h1 : (ee != 0) = true := bne_iff_ne.2 he
        clear he
        go_wp2
        go_ret
        exact ⟨_, rfl, Kd.R_nil _ _ _ _ _, HI.out, HB.out⟩
end Go.Proofs.Ythefbeekcjchcaa.P
