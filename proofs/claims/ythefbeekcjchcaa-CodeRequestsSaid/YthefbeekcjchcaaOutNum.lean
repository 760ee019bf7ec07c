import Derived.Test.YthefbeekcjchcaaOut
namespace Go.Proofs.Ythefbeekcjchcaa.P
open Go Go.RowKit Go.Proofs.YthefbeekcjchcaaW.PrintWords Go.Proofs.YthefbeekcjchcaaW.PrintLast Go.Proofs.YthefbeekcjchcaaW.PrintMore
set_option linter.unusedVariables false
set_option linter.unusedSimpArgs false
/-- Numbers one behind the other, up to the first that can't be written. -/
def putl : List Int → List Int × Bool → List Int × Bool
  | [], s => s
  | n :: l, s => if fits n = true then putl l (s.1 ++ enc n.toNat, s.2) else (s.1, true)
theorem putl_one (n : Int) (s : List Int × Bool) : putl [n] s = putn n s := by
  unfold putl putn putl
  rfl
theorem or128n (b : Nat) (h : b < 256) : b ||| 128 = b % 128 + 128 := by
  have h1 : (b % 128) ||| 128 = b % 128 + 128 := by
    have := Nat.two_pow_add_eq_or_of_lt (i := 7) (b := b % 128) (by omega) 1
    rw [Nat.or_comm] at this
    simpa [Nat.add_comm] using this.symm
  rcases Nat.lt_or_ge b 128 with c | c
  · rwa [Nat.mod_eq_of_lt c] at h1 ⊢
  · have e : b = b % 128 ||| 128 := by omega
    rw [e, Nat.or_assoc, Nat.or_self, ← e]
    omega
theorem or128 (a : Nat) : Go.bits .or .u8 ((a : Int) % 256) 128 = (a : Int) % 128 + 128 := by
  have h1 := u8_or_nat (a % 256) 128 (by omega) (by decide)
  rw [or128n _ (by omega)] at h1
  have e : ((a % 256 : Nat) : Int) = (a : Int) % 256 := by omega
  rw [e] at h1
  have e2 : ((128 : Nat) : Int) = 128 := rfl
  rw [e2] at h1
  rw [h1]
  omega
set_option maxHeartbeats 8000000 in
set_option maxRecDepth 20000 in
theorem out_num_keep (g : Nat) (bs : List Int) (bad : Bool) (A : Option Addr) (c : Nat) (l : List Int) (w0 w : World) (hO : OW 94 w0 w g bs bad) (hB : Below w0.heap.size w0 w) (hr : ∀ w', Keeps w w' g → Kd.C (Kd.int .i64) w' A l.length l) (hlen : bs.length + 6 * l.length ≤ 1000000000) :
    Calls Try.prog 45 #[.pointer (some ⟨g, 0, none⟩), .slice A l.length c] w fun e w' => e = .returned (.tuple #[]) ∧ OW 94 w0 w' g (putl l (bs, bad)).1 (putl l (bs, bad)).2 ∧ Below w0.heap.size w0 w' ∧ Keeps w w' g := by
  have HO := Aside0.mk hO
  have HB := Aside0.mk hB
  have HN := Aside0.mk hlen
  have HLEN : Aside0 (l.length ≤ 1000000000) := ⟨by omega⟩
  have HR0 := Aside0.mk hr
  clear hB hlen hO hr
  obtain ⟨r, hr⟩ : ∃ r, putl l (bs, bad) = r := ⟨_, rfl⟩
  rw [hr]
  have HP := Aside0.mk hr
  clear hr
  go_enter Try.func45, Try.ntmps45
  go_wp2
  go_loopg [5, 8] l.length (fun kq v5 v8 w' => ∃ (i : Nat) (cur : List Int), v8 = .int .i64 (i : Int) ∧ Aside0 (i + kq = l.length) ∧ Aside0 (cur.length + 6 * kq ≤ 1000000000) ∧ Aside0 (putl (l.drop i) (cur, bad) = r) ∧ Aside0 (OW 94 w0 w' g cur bad) ∧ Aside0 (Below w0.heap.size w0 w') ∧ Aside0 (Keeps w w' g))
  case atStart => exact ⟨0, bs, rfl, ⟨by omega⟩, HN, HP, HO, HB, ⟨Keeps.refl _ _⟩⟩
  case round =>
    clear HO HB HP HN
    obtain ⟨i, cur, rfl, HI, HN, HP, HO, HB, HKP⟩ := hrel
    by_cases c1 : i < l.length
    · have e1 : decide (i < l.length) = true := decide_eq_true c1
      have e5 : wrap64 ((i : Int) + 1) = ((i + 1 : Nat) : Int) := by have := HLEN.out; unfold wrap64; omega
      have hCl := HR0.out _ HKP.out
      obtain ⟨ad, ea, hx⟩ := Kd.at_int hCl (i : Int) (by omega) (by omega)
      cases ea
      rw [Int.toNat_natCast] at hx
      have hd : l.drop i = rd l (i : Int) :: l.drop (i + 1) := by
        rw [List.drop_eq_getElem_cons c1]
        congr 1
        unfold rd
        rw [Int.toNat_natCast, List.getD_eq_getElem?_getD, List.getElem?_eq_getElem c1]
        rfl
      generalize rd l (i : Int) = n at hx hd
      have HD := Aside0.mk hd
      have hP := HP.out
      rw [hd, putl] at hP
      clear hd hCl
      by_cases c2 : fits n = true
      · rw [if_pos c2] at hP
        have HP1 := Aside0.mk hP
        simp only [fits, Bool.and_eq_true, decide_eq_true_eq] at c2
        obtain ⟨m, rfl⟩ : ∃ m : Nat, n = (m : Int) := ⟨n.toNat, by omega⟩
        have d1 : decide ((m : Int) < 0) = false := decide_eq_false (by omega)
        have d2 : decide (1099511627776 < (m : Int)) = false := decide_eq_false (by omega)
        have HM := Aside0.mk c2
        clear c2 hP
        have HCUR := HN
        obtain ⟨ko, rfl⟩ : ∃ k, k = gk := ⟨_, rfl⟩
        go_wp2
        go_loopg [5] m (fun kq v5 w' => ∃ (q : Nat) (out : List Int), v5 = .int .i64 (q : Int) ∧ Aside0 (q ≤ kq) ∧ Aside0 (q ≤ 1099511627776) ∧ Aside0 (out ++ enc q = cur ++ enc m) ∧ Aside0 (OW 94 w0 w' g out bad) ∧ Aside0 (Below w0.heap.size w0 w') ∧ Aside0 (Keeps w w' g))
        case atStart => exact ⟨m, cur, rfl, ⟨Nat.le_refl _⟩, ⟨by have := HM.out; omega⟩, ⟨rfl⟩, HO, HB, HKP⟩
        case round =>
          clear HO HB hx
          clear HKP
          obtain ⟨q, out, rfl, HK, HQ, HE, HO, HB, HKP⟩ := hrel
          have hz := HO.out.free 0
          obtain ⟨v1, hg, hg0, hR⟩ := HO.out
          have hc := blk_cell hg
          have hc0 := hc 0
          have HR := Aside0.mk hR
          have HG := Aside0.mk hg
          have HG0 := Aside0.mk hg0
          clear hc hR hg hg0
          have HOL : Aside0 (out.length ≤ 1000000010) := ⟨by
            have h1 := congrArg List.length HE.out
            have h2 := enc_len 5 m (by have := HM.out; rw [show (128 : Nat) ^ (5 + 1) = 4398046511104 by decide]; omega)
            have := HN.out
            simp only [List.length_append] at h1
            omega⟩
          by_cases c3 : 128 ≤ q
          · have d3 : decide (128 ≤ q) = true := decide_eq_true c3
            have eor := or128 q
            go_wp2_with (first | ((with_reducible refine gate_dst (N := 33) rfl ?_); refine Kd.R_lit (Kd.int .u8) wr.heap.size 5 ?hg (N := 33) ?hd (xs := [(q : Int) % 128 + 128]) (inner := [.int .u8 ((q : Int) % 128 + 128)]) (ok := fun _ => True) (okp := fun _ => True) ?hr ?hp (fun _ hk => hk) trivial (Below.refl _ _) (Nat.le_refl _) (by simp) ?_; (case hd => rfl); (case hg => rfl); (case hr => first | (go_simp; done) | (go_simp; rfl)); (case hp => exact (Reps.one (show Kd.M (Kd.int .u8) _ _ _ ((q : Int) % 128 + 128) [.int .u8 ((q : Int) % 128 + 128)] from rfl) (Reps.none _ _))); intro v43 w7 ho hb hg_ hnew_; clear hg_ hnew_; obtain ⟨A43, c43, rfl, hcl43, hC43⟩ := Kd.R_reads ho; have HC43 := Aside0.mk hC43; have HO1 := Aside0.mk (Kd.R_below HR.out hb); have HG1 := Aside0.mk ((hb.block g (blk_lt HG.out)).trans HG.out); have HB1 := Aside0.mk (below_step HB.out hb); have HK1 := Aside0.mk (HKP.out.trans (Keeps.below hb)); clear ho hb hC43 hcl43) | ((with_reducible refine gate_builtin (b := .append) (xs := #[.tmp 29, .tmp 33]) rfl ?_); at_builtin; refine Kd.R_append_row (Value.int .u8) 0 (h1 := fun _ => rfl) (w0 := w0) w0.heap.size rfl (.tmp 29) (.tmp 33) 25 5 (.int .u8 0) 1 rfl Try.underlying25 infoB5 rfl (by decide) v1 out [(q : Int) % 128 + 128] A43 1 c43 (fun k => k ≠ g) rfl rfl (fun k hk => by have := blk_lt HG1.out; omega) HO1.out HC43.out HB1.out (below_size HB1.out) (by have := HOL.out; omega) ?_; intro v44 w8 ho hb hgr hat; obtain ⟨A44, c44, rfl⟩ := Kd.R_slice ho; rw [len_snoc] at ho ⊢; have HG2 := Aside0.mk ((hgr.block g (blk_lt HG1.out) (Kd.R_away HO1.out (fun k hk => hk))).trans HG1.out); have HO2 := Aside0.mk ho; have HB2 := Aside0.mk hb; have HK2 := Aside0.mk (HK1.out.trans (Keeps.grown HO1.out hgr)); have hz8 : w8.frozen? ⟨g, 0, none⟩ = false := free_of HG2.out 0; have hc8 := (blk_cell HG2.out) 0; clear ho hb hgr hat))
            go_roundg (gk - 1)
            case measure => have := HK.out; omega
            case rel =>
              have hq := HQ.out
              have hk := HK.out
              refine ⟨q / 128, out ++ [(q : Int) % 128 + 128], ?_, ⟨by omega⟩, ⟨by omega⟩, ⟨?_⟩, ⟨OW.put HG2.out HG0.out HO2.out⟩, ⟨HB2.out.setCell (p := ⟨g, 0, none⟩) HG0.out _⟩, ⟨HK2.out.trans (Keeps.set 0 _)⟩⟩
              · first | exact congrArg _ (by unfold wrap64; omega) | exact congrArg _ (by omega)
              · rw [← HE.out, enc_big (show ¬ q < 128 by omega), List.append_assoc]
                simp
          · have d3 : decide (128 ≤ q) = false := decide_eq_false c3
            have hE := HE.out
            rw [enc_small (show q < 128 by omega)] at hE
            have HEE := Aside0.mk hE
            have hq : (q : Int) % 256 = (q : Int) := by omega
            clear hE
            go_wp2_with (first | ((with_reducible refine gate_dst (N := 44) rfl ?_); refine Kd.R_lit (Kd.int .u8) wr.heap.size 5 ?hg (N := 44) ?hd (xs := [(q : Int)]) (inner := [.int .u8 ((q : Int))]) (ok := fun _ => True) (okp := fun _ => True) ?hr ?hp (fun _ hk => hk) trivial (Below.refl _ _) (Nat.le_refl _) (by simp) ?_; (case hd => rfl); (case hg => rfl); (case hr => first | (go_simp; done) | (go_simp; rfl)); (case hp => exact (Reps.one (show Kd.M (Kd.int .u8) _ _ _ ((q : Int)) [.int .u8 ((q : Int))] from rfl) (Reps.none _ _))); intro v43 w7 ho hb hg_ hnew_; clear hg_ hnew_; obtain ⟨A43, c43, rfl, hcl43, hC43⟩ := Kd.R_reads ho; have HC43 := Aside0.mk hC43; have HO1 := Aside0.mk (Kd.R_below HR.out hb); have HG1 := Aside0.mk ((hb.block g (blk_lt HG.out)).trans HG.out); have HB1 := Aside0.mk (below_step HB.out hb); have HK1 := Aside0.mk (HKP.out.trans (Keeps.below hb)); clear ho hb hC43 hcl43) | ((with_reducible refine gate_builtin (b := .append) (xs := #[.tmp 41, .tmp 44]) rfl ?_); at_builtin; refine Kd.R_append_row (Value.int .u8) 0 (h1 := fun _ => rfl) (w0 := w0) w0.heap.size rfl (.tmp 41) (.tmp 44) 25 5 (.int .u8 0) 1 rfl Try.underlying25 infoB5 rfl (by decide) v1 out [(q : Int)] A43 1 c43 (fun k => k ≠ g) rfl rfl (fun k hk => by have := blk_lt HG1.out; omega) HO1.out HC43.out HB1.out (below_size HB1.out) (by have := HOL.out; omega) ?_; intro v44 w8 ho hb hgr hat; obtain ⟨A44, c44, rfl⟩ := Kd.R_slice ho; rw [len_snoc] at ho ⊢; have HG2 := Aside0.mk ((hgr.block g (blk_lt HG1.out) (Kd.R_away HO1.out (fun k hk => hk))).trans HG1.out); have HO2 := Aside0.mk ho; have HB2 := Aside0.mk hb; have HK2 := Aside0.mk (HK1.out.trans (Keeps.grown HO1.out hgr)); have hz8 : w8.frozen? ⟨g, 0, none⟩ = false := free_of HG2.out 0; have hc8 := (blk_cell HG2.out) 0; clear ho hb hgr hat))
            have HO3 : Aside0 (OW 94 w0 _ g (cur ++ enc m) bad) := ⟨HEE.out ▸ OW.put HG2.out HG0.out HO2.out⟩
            go_roundg (ko - 1)
            case measure => have := HI.out; omega
            case rel =>
              refine ⟨i + 1, cur ++ enc m, congrArg _ e5, ⟨by have := HI.out; omega⟩, ⟨?_⟩, ⟨by have := HP1.out; rwa [Int.toNat_natCast] at this⟩, HO3, ⟨HB2.out.setCell (p := ⟨g, 0, none⟩) HG0.out _⟩, ⟨HK2.out.trans (Keeps.set 0 _)⟩⟩
              have h2 := enc_len 5 m (by have := HM.out; rw [show (128 : Nat) ^ (5 + 1) = 4398046511104 by decide]; omega)
              have := HN.out
              have := HI.out
              rw [List.length_append]
              omega
      · have c3 : n < 0 ∨ 1099511627776 < n := by
          simp only [fits, Bool.and_eq_true, decide_eq_true_eq] at c2
          omega
        rw [if_neg c2] at hP
        subst hP
        have hz := HO.out.free 1
        obtain ⟨v1, hg, hg0, hR⟩ := HO.out
        have hc1 := (blk_cell hg) 1
        have hS := Aside0.mk HO.out.spoil
        have hbb := Aside0.mk (HB.out.setCell (p := ⟨g, 1, none⟩) hg0 (.bool true))
        clear hg hR hg0
        by_cases c4 : n < 0
        · have d1 : decide (n < 0) = true := decide_eq_true c4
          clear c3 c4 c2
          go_wp2
          refine bodyPost_ret (results_none rfl _ _ _) rfl ?_
          exact ⟨rfl, hS.out, hbb.out, HKP.out.trans (Keeps.set 1 _)⟩
        · have d1 : decide (n < 0) = false := decide_eq_false c4
          have d2 : decide (1099511627776 < n) = true := decide_eq_true (by omega)
          clear c3 c4 c2
          go_wp2
          refine bodyPost_ret (results_none rfl _ _ _) rfl ?_
          exact ⟨rfl, hS.out, hbb.out, HKP.out.trans (Keeps.set 1 _)⟩
    · have e1 : decide (i < l.length) = false := decide_eq_false c1
      have hP := HP.out
      rw [List.drop_eq_nil_of_le (by omega), putl] at hP
      subst hP
      go_wp2
      go_end0
      exact ⟨rfl, HO.out, HB.out, HKP.out⟩
theorem R_Keeps {w w' : World} {g b T : Nat} {cs : Array Value} {v0 : Value} {l : List Int} (hr : Kd.R (Kd.int .i64) 3 w b (fun _ => True) v0 l) (hg : w.heap[g]? = some (.cells cs T (0, 0))) (hT : T ≠ 3) (hk : Keeps w w' g) : Kd.R (Kd.int .i64) 3 w' b (fun _ => True) v0 l := by
  refine Kd.R_mono (Kd.R_step (Kd.R_bound hr) (fun k hk' hlt => ?_)) (fun _ _ => trivial)
  obtain ⟨_, _, _, q, hq, cells, hc⟩ := hk'
  obtain rfl : q = 3 := by simpa [Kd.int, Kd.scalar] using hq
  rw [hc]
  refine hk k _ hc (fun e => ?_) (fun cs' m e => by cases e)
  subst e
  rw [hg] at hc
  cases hc
  exact hT rfl
theorem out_num_calls (g : Nat) (bs : List Int) (bad : Bool) (bl : Nat) (v0 : Value) (l : List Int) (w0 w : World) (hO : OW 94 w0 w g bs bad) (hB : Below w0.heap.size w0 w) (hr : Kd.R (Kd.int .i64) 3 w bl (fun _ => True) v0 l) (hlen : bs.length + 6 * l.length ≤ 1000000000) :
    Calls Try.prog 45 #[.pointer (some ⟨g, 0, none⟩), v0] w fun e w' => e = .returned (.tuple #[]) ∧ OW 94 w0 w' g (putl l (bs, bad)).1 (putl l (bs, bad)).2 ∧ Below w0.heap.size w0 w' ∧ Keeps w w' g := by
  obtain ⟨A, c, rfl⟩ := Kd.R_slice hr
  refine out_num_keep g bs bad A c l w0 w hO hB (fun w' hk => ?_) hlen
  obtain ⟨v, hg, _⟩ := hO
  exact (Kd.R_reads' (R_Keeps hr hg (by decide) hk)).2.2
end Go.Proofs.Ythefbeekcjchcaa.P
namespace Go.Proofs.Ythefbeekcjchcaa.P
open Go Go.RowKit Go.Proofs.YthefbeekcjchcaaW.PrintWords Go.Proofs.YthefbeekcjchcaaW.PrintLast Go.Proofs.YthefbeekcjchcaaW.PrintMore
set_option linter.unusedVariables false
set_option linter.unusedSimpArgs false
theorem putn_len (n : Int) (s : List Int × Bool) : (putn n s).1.length ≤ s.1.length + 6 := by
  unfold putn
  split
  · rename_i h
    simp only [fits, Bool.and_eq_true, decide_eq_true_eq] at h
    have h2 := enc_len 5 n.toNat (by rw [show (128 : Nat) ^ (5 + 1) = 4398046511104 by decide]; omega)
    simp
    omega
  · simp
/-- Numbers one by one, whatever can't be written passed over. -/
def putf (l : List Int) (s : List Int × Bool) : List Int × Bool := l.foldl (fun s n => putn n s) s
theorem putf_nil (s : List Int × Bool) : putf [] s = s := rfl
theorem putf_cons (n : Int) (l : List Int) (s : List Int × Bool) : putf (n :: l) s = putf l (putn n s) := rfl
def puts (l : List Int) (s : List Int × Bool) : List Int × Bool := putf l (putn (l.length : Int) s)
theorem drop_rd {l : List Int} {i : Nat} (c1 : i < l.length) : l.drop i = rd l (i : Int) :: l.drop (i + 1) := by
  rw [List.drop_eq_getElem_cons c1]
  congr 1
  unfold rd
  rw [Int.toNat_natCast, List.getD_eq_getElem?_getD, List.getElem?_eq_getElem c1]
  rfl
set_option maxHeartbeats 4000000 in
set_option maxRecDepth 20000 in
theorem W_Ints_calls (g : Nat) (bs : List Int) (bad : Bool) (A : Option Addr) (c : Nat) (l : List Int) (w0 w : World) (hO : OW 27 w0 w g bs bad) (hB : Below w0.heap.size w0 w) (hr : Kd.C (Kd.int .i64) w0 A l.length l) (hlen : bs.length + 6 + 6 * l.length ≤ 1000000000) :
    Calls Try.prog 12 #[.pointer (some ⟨g, 0, none⟩), .slice A l.length c] w fun e w' => e = .returned (.tuple #[]) ∧ OW 27 w0 w' g (puts l (bs, bad)).1 (puts l (bs, bad)).2 ∧ Below w0.heap.size w0 w' ∧ Keeps w w' g := by
  have HR := Aside0.mk hr
  have HN := Aside0.mk hlen
  have HLEN : Aside0 (l.length ≤ 1000000000) := ⟨by omega⟩
  have K := Aside0.mk (W_num_calls g bs bad (l.length : Int) w0 w hO hB (by omega))
  obtain ⟨r, hr⟩ : ∃ r, puts l (bs, bad) = r := ⟨_, rfl⟩
  rw [hr]
  have HP := Aside0.mk hr
  have hpl := putn_len (l.length : Int) (bs, bad)
  unfold puts at HP
  generalize putn (l.length : Int) (bs, bad) = s0 at *
  have HN0 : Aside0 (s0.1.length + 6 * l.length ≤ 1000000000) := ⟨by have := HN.out; simp at hpl; omega⟩
  clear hO hB hlen hr hpl
  go_enter Try.func12, Try.ntmps12
  go_wp2_with (fail)
  refine K.out.mono ?_
  rintro e w1 ⟨rfl, ho, hb, hk⟩
  have HO := Aside0.mk ho
  have HB := Aside0.mk hb
  have HKP := Aside0.mk hk
  clear ho hb hk K HN
  go_wp2
  go_loopg [4] l.length (fun kq v4 w' => ∃ (i : Nat) (s : List Int × Bool), v4 = .int .i64 (i : Int) ∧ Aside0 (i + kq = l.length) ∧ Aside0 (s.1.length + 6 * kq ≤ 1000000000) ∧ Aside0 (putf (l.drop i) s = r) ∧ Aside0 (OW 27 w0 w' g s.1 s.2) ∧ Aside0 (Below w0.heap.size w0 w') ∧ Aside0 (Keeps w w' g))
  case atStart => exact ⟨0, s0, rfl, ⟨by omega⟩, HN0, HP, HO, HB, HKP⟩
  case round =>
    clear HO HB HP HN0 HKP
    obtain ⟨i, s, rfl, HI, HN, HP, HO, HB, HKP⟩ := hrel
    by_cases c1 : i < l.length
    · have e1 : decide (i < l.length) = true := decide_eq_true c1
      have e5 : wrap64 ((i : Int) + 1) = ((i + 1 : Nat) : Int) := by have := HLEN.out; unfold wrap64; omega
      obtain ⟨ad, ea, hx⟩ := Kd.at_int (Kd.C_below HR.out HB.out) (i : Int) (by omega) (by omega)
      cases ea
      rw [Int.toNat_natCast] at hx
      have hP := HP.out
      rw [drop_rd c1, putf_cons] at hP
      generalize rd l (i : Int) = n at hx hP
      have hpl := putn_len n s
      have K := Aside0.mk (W_num_calls g s.1 s.2 n w0 wr HO.out HB.out (by have := HN.out; omega))
      change Aside0 (Calls Try.prog 35 _ _ fun e w' => _ ∧ OW 27 w0 w' g (putn n s).1 (putn n s).2 ∧ _) at K
      generalize putn n s = s1 at *
      have HP1 := Aside0.mk hP
      have HPL := Aside0.mk hpl
      clear hP hpl
      go_wp2_with (fail)
      refine K.out.mono ?_
      rintro e w2 ⟨rfl, ho, hb, hk⟩
      have HO1 := Aside0.mk ho
      have HB1 := Aside0.mk hb
      have HK1 := Aside0.mk (HKP.out.trans hk)
      clear ho hb hk K hx
      go_wp2
      go_roundg (gk - 1)
      case measure => have := HI.out; omega
      case rel => exact ⟨i + 1, s1, congrArg _ e5, ⟨by have := HI.out; omega⟩, ⟨by have := HN.out; have := HPL.out; have := HI.out; omega⟩, HP1, HO1, HB1, HK1⟩
    · have e1 : decide (i < l.length) = false := decide_eq_false c1
      have hP := HP.out
      rw [List.drop_eq_nil_of_le (by omega), putf_nil] at hP
      subst hP
      go_wp2
      go_end0
      exact ⟨rfl, HO.out, HB.out, HKP.out⟩
/-- A variable that a literal holds, with the place of what is written. -/
def BX (w : World) (gb g : Nat) : Prop := w.heap[gb]? = some (.cells #[.pointer (some ⟨g, 0, none⟩)] 92 (0, 0)) ∧ gb ≠ g
theorem BX.keep {w w1 : World} {gb g : Nat} (h : BX w gb g) (hk : Keeps w w1 g) : BX w1 gb g := ⟨hk gb _ h.1 h.2 (fun cs m e => by cases e), h.2⟩
theorem lit_R (W : World) (base : Nat) (hb : base ≤ W.heap.size) (n : Int) : Kd.R (Kd.int .i64) 3 (W.alloc (.cells #[.int .i64 n] 3)) base (fun _ => True) (.slice (some ⟨W.heap.size, 0, none⟩) 1 1) [n] := by
  have h2 := World.ownsRow_lit (base := base) (e := 3) (size := 1) W #[.int .i64 n] 1 hb (by simp [maxLen]) (by simp)
  exact Kd.R_of_own (h1 := fun _ => rfl) (by simpa [encs] using h2) (fun _ _ => trivial)
set_option maxHeartbeats 4000000 in
set_option maxRecDepth 20000 in
theorem ints1_calls (g gb : Nat) (bs : List Int) (bad : Bool) (n : Int) (w0 w : World) (hO : OW 94 w0 w g bs bad) (hX : BX w gb g) (hB : Below w0.heap.size w0 w) (hlen : bs.length + 6 ≤ 1000000000) :
    Calls Try.prog 87 #[.int .i64 n, .pointer (some ⟨gb, 0, none⟩)] w fun e w' => e = .returned (.tuple #[]) ∧ OW 94 w0 w' g (putn n (bs, bad)).1 (putn n (bs, bad)).2 ∧ Below w0.heap.size w0 w' ∧ Keeps w w' g := by
  have hc0 := (blk_cell hX.1) 0
  have HO := Aside0.mk (hO.below (below_alloc (Below.refl w.heap.size w) (Obj.cells #[.int .i64 n] 3)))
  have HB := Aside0.mk (below_alloc hB (Obj.cells #[.int .i64 n] 3))
  have HK := Aside0.mk (Keeps.below (g := g) (below_alloc (Below.refl w.heap.size w) (Obj.cells #[.int .i64 n] 3)))
  have HL := Aside0.mk (lit_R w w.heap.size (Nat.le_refl _) n)
  have HN := Aside0.mk hlen
  clear hO hB hX hlen
  go_enter Try.func87, Try.ntmps87
  go_wp2_with (fail)
  refine (out_num_calls g bs bad w.heap.size _ [n] w0 _ HO.out HB.out HL.out (by have := HN.out; simp; omega)).mono ?_
  rintro e w1 ⟨rfl, ho, hb, hk⟩
  rw [putl_one] at ho
  have HO1 := Aside0.mk ho
  have HB1 := Aside0.mk hb
  have HK1 := Aside0.mk (HK.out.trans hk)
  clear ho hb hk
  go_wp2
  go_end0
  exact ⟨rfl, HO1.out, HB1.out, HK1.out⟩
set_option maxHeartbeats 4000000 in
set_option maxRecDepth 20000 in
theorem list_int_calls (g gb : Nat) (bs : List Int) (bad : Bool) (A : Option Addr) (c : Nat) (l : List Int) (w0 w : World) (hO : OW 94 w0 w g bs bad) (hX : BX w gb g) (hB : Below w0.heap.size w0 w) (hr : Kd.C (Kd.int .i64) w0 A l.length l) (hlen : bs.length + 6 + 6 * l.length ≤ 1000000000) :
    Calls Try.prog 86 #[.pointer (some ⟨g, 0, none⟩), .slice A l.length c, .func (.func 87) #[] #[.pointer (some ⟨gb, 0, none⟩)]] w fun e w' => e = .returned (.tuple #[]) ∧ OW 94 w0 w' g (puts l (bs, bad)).1 (puts l (bs, bad)).2 ∧ Below w0.heap.size w0 w' ∧ Keeps w w' g := by
  have HR := Aside0.mk hr
  have HN := Aside0.mk hlen
  have HLEN : Aside0 (l.length ≤ 1000000000) := ⟨by omega⟩
  have HX := Aside0.mk hX
  have K := Aside0.mk (out_num_calls g bs bad w.heap.size _ [(l.length : Int)] w0 _ (hO.below (below_alloc (Below.refl w.heap.size w) (Obj.cells #[.int .i64 (l.length : Int)] 3))) (below_alloc hB _) (lit_R w w.heap.size (Nat.le_refl _) (l.length : Int)) (by simp; omega))
  have HK0 := Aside0.mk (Keeps.below (g := g) (below_alloc (Below.refl w.heap.size w) (Obj.cells #[.int .i64 (l.length : Int)] 3)))
  rw [putl_one] at K
  obtain ⟨r, hr⟩ : ∃ r, puts l (bs, bad) = r := ⟨_, rfl⟩
  rw [hr]
  have HP := Aside0.mk hr
  have hpl := putn_len (l.length : Int) (bs, bad)
  unfold puts at HP
  generalize putn (l.length : Int) (bs, bad) = s0 at *
  have HN0 : Aside0 (s0.1.length + 6 * l.length ≤ 1000000000) := ⟨by have := HN.out; simp at hpl; omega⟩
  clear hO hB hlen hr hpl hX
  go_enter Try.func86, Try.ntmps86
  go_wp2_with (fail)
  refine K.out.mono ?_
  rintro e w1 ⟨rfl, ho, hb, hk⟩
  have HO := Aside0.mk ho
  have HB := Aside0.mk hb
  have HKP := Aside0.mk (HK0.out.trans hk)
  clear ho hb hk K HN
  go_wp2
  go_loopg [7, 15] l.length (fun kq v7 v15 w' => ∃ (i : Nat) (s : List Int × Bool), v15 = .int .i64 (i : Int) ∧ Aside0 (i + kq = l.length) ∧ Aside0 (s.1.length + 6 * kq ≤ 1000000000) ∧ Aside0 (putf (l.drop i) s = r) ∧ Aside0 (OW 94 w0 w' g s.1 s.2) ∧ Aside0 (Below w0.heap.size w0 w') ∧ Aside0 (Keeps w w' g))
  case atStart => exact ⟨0, s0, rfl, ⟨by omega⟩, HN0, HP, HO, HB, HKP⟩
  case round =>
    clear HO HB HP HN0 HKP
    obtain ⟨i, s, rfl, HI, HN, HP, HO, HB, HKP⟩ := hrel
    by_cases c1 : i < l.length
    · have e1 : decide (i < l.length) = true := decide_eq_true c1
      have e5 : wrap64 ((i : Int) + 1) = ((i + 1 : Nat) : Int) := by have := HLEN.out; unfold wrap64; omega
      obtain ⟨ad, ea, hx⟩ := Kd.at_int (Kd.C_below HR.out HB.out) (i : Int) (by omega) (by omega)
      cases ea
      rw [Int.toNat_natCast] at hx
      have hP := HP.out
      rw [drop_rd c1, putf_cons] at hP
      generalize rd l (i : Int) = n at hx hP
      have hpl := putn_len n s
      have K := Aside0.mk (ints1_calls g gb s.1 s.2 n w0 wr HO.out (HX.out.keep HKP.out) HB.out (by have := HN.out; have := HI.out; omega))
      change Aside0 (Calls Try.prog 87 _ _ fun e w' => _ ∧ OW 94 w0 w' g (putn n s).1 (putn n s).2 ∧ _) at K
      generalize putn n s = s1 at *
      have HP1 := Aside0.mk hP
      have HPL := Aside0.mk hpl
      clear hP hpl
      go_wp2_with (fail)
      refine K.out.mono ?_
      rintro e w2 ⟨rfl, ho, hb, hk⟩
      have HO1 := Aside0.mk ho
      have HB1 := Aside0.mk hb
      have HK1 := Aside0.mk (HKP.out.trans hk)
      clear ho hb hk K hx
      go_wp2
      go_roundg (gk - 1)
      case measure => have := HI.out; omega
      case rel => exact ⟨i + 1, s1, congrArg _ e5, ⟨by have := HI.out; omega⟩, ⟨by have := HN.out; have := HPL.out; have := HI.out; omega⟩, HP1, HO1, HB1, HK1⟩
    · have e1 : decide (i < l.length) = false := decide_eq_false c1
      have hP := HP.out
      rw [List.drop_eq_nil_of_le (by omega), putf_nil] at hP
      subst hP
      go_wp2
      go_end0
      exact ⟨rfl, HO.out, HB.out, HKP.out⟩
end Go.Proofs.Ythefbeekcjchcaa.P
namespace Go.Proofs.Ythefbeekcjchcaa.P
open Go Go.RowKit Go.Proofs.YthefbeekcjchcaaW.PrintWords Go.Proofs.YthefbeekcjchcaaW.PrintLast Go.Proofs.YthefbeekcjchcaaW.PrintMore
set_option linter.unusedVariables false
set_option linter.unusedSimpArgs false
set_option maxHeartbeats 4000000 in
set_option maxRecDepth 20000 in
theorem ints_calls (g : Nat) (bs : List Int) (bad : Bool) (A : Option Addr) (c : Nat) (l : List Int) (w0 w : World) (hO : OW 94 w0 w g bs bad) (hB : Below w0.heap.size w0 w) (hr : Kd.C (Kd.int .i64) w0 A l.length l) (hlen : bs.length + 6 + 6 * l.length ≤ 1000000000) :
    Calls Try.prog 36 #[.pointer (some ⟨g, 0, none⟩), .slice A l.length c] w fun e w' => e = .returned (.tuple #[]) ∧ OW 94 w0 w' g (puts l (bs, bad)).1 (puts l (bs, bad)).2 ∧ Below w0.heap.size w0 w' ∧ Keeps w w' g := by
  have hmf : ∀ (fn : Fn) (first cap : Array Value) (w : World), (Instr.makeFunc fn first cap).run Try.prog w = .ok (.func fn first cap) w := fun _ _ _ _ => rfl
  have hg : g < w.heap.size := by obtain ⟨v, h, _⟩ := hO; exact blk_lt h
  have hbx := below_alloc (Below.refl w.heap.size w) (Obj.cells #[.pointer (some ⟨g, 0, none⟩)] 92)
  have hX : BX (w.alloc (.cells #[.pointer (some ⟨g, 0, none⟩)] 92)) w.heap.size g := ⟨by show (w.heap.push _)[w.heap.size]? = _; simp, by omega⟩
  have K := Aside0.mk (list_int_calls g w.heap.size bs bad A c l w0 _ (hO.below hbx) hX (below_alloc hB _) hr hlen)
  have HK0 := Aside0.mk (Keeps.below (g := g) hbx)
  have hc0 := (blk_cell hX.1) 0
  clear hO hB hr hbx hX hg
  go_enter Try.func36, Try.ntmps36
  go_wp2_with (fail)
  refine K.out.mono ?_
  rintro e w1 ⟨rfl, ho, hb, hk⟩
  have HO := Aside0.mk ho
  have HB := Aside0.mk hb
  have HKP := Aside0.mk (HK0.out.trans hk)
  clear ho hb hk K
  go_wp2
  go_end0
  exact ⟨rfl, HO.out, HB.out, HKP.out⟩
theorem done_calls (g : Nat) (bs : List Int) (bad : Bool) (w0 w : World) (hO : OW 94 w0 w g bs bad) :
    Calls Try.prog 37 #[.pointer (some ⟨g, 0, none⟩)] w fun e w' => ∃ v, e = .returned (.tuple #[v, .int .i64 (if bad = true then 12 else 0)]) ∧ Kd.R (Kd.int .u8) 5 w' w0.heap.size (fun _ => True) v (if bad = true then [] else bs) ∧ w' = w := by
  obtain ⟨v, hg, hg0, hR⟩ := hO
  have hc0 := (blk_cell hg) 0
  have hc1 := (blk_cell hg) 1
  have HR := Aside0.mk hR
  clear hg hR
  cases bad
  · go_enter Try.func37, Try.ntmps37
    go_wp2
    go_ret2
    exact ⟨_, rfl, Kd.R_mono HR.out (fun _ _ => trivial), rfl⟩
  · go_enter Try.func37, Try.ntmps37
    go_wp2
    go_ret2
    exact ⟨_, rfl, Kd.R_nil _ _ _ _ _, rfl⟩
/-- What PutNumbers gives. -/
def coded (l : List Int) : List Int := if (puts l ([], false)).2 = true then [] else (puts l ([], false)).1
def codedE (l : List Int) : Int := if (puts l ([], false)).2 = true then 12 else 0
set_option maxHeartbeats 4000000 in
set_option maxRecDepth 20000 in
theorem PutNumbers_calls (A : Option Addr) (c : Nat) (l : List Int) (w : World) (hr : Kd.C (Kd.int .i64) w A l.length l) (hlen : 6 + 6 * l.length ≤ 1000000000) :
    Calls Try.prog 13 #[.slice A l.length c] w fun e w' => ∃ v, e = .returned (.tuple #[v, .int .i64 (codedE l)]) ∧ Kd.R (Kd.int .u8) 5 w' w.heap.size (fun _ => True) v (coded l) ∧ Below w.heap.size w w' := by
  have hO : OW 94 w (w.alloc (.cells #[.slice none 0 0, .bool false] 94)) w.heap.size [] false := ⟨_, by show (w.heap.push _)[w.heap.size]? = _; simp, Nat.le_refl _, Kd.R_nil _ _ _ _ _⟩
  have K := Aside0.mk (ints_calls w.heap.size [] false A c l w _ hO (below_alloc (Below.refl _ _) _) hr (by simpa using hlen))
  clear hO hr hlen
  obtain ⟨E, hE⟩ : ∃ E, codedE l = E := ⟨_, rfl⟩
  rw [hE]
  go_enter Try.func13, Try.ntmps13
  go_wp2_with (fail)
  refine K.out.mono ?_
  rintro e w1 ⟨rfl, ho, hb, hk⟩
  have HO := Aside0.mk ho
  have HB := Aside0.mk hb
  clear ho hb hk K
  have KD := Aside0.mk (done_calls _ _ _ w w1 HO.out)
  change Aside0 (Calls Try.prog 37 _ _ fun e w' => ∃ v, e = .returned (.tuple #[v, .int .i64 (codedE l)]) ∧ Kd.R (Kd.int .u8) 5 w' w.heap.size (fun _ => True) v (coded l) ∧ _) at KD
  rw [hE] at KD
  go_wp2_with (fail)
  refine KD.out.mono ?_
  rintro e w2 ⟨v, rfl, hR, rfl⟩
  have HR := Aside0.mk hR
  clear hR
  go_wp2
  go_ret2
  exact ⟨v, rfl, HR.out, HB.out⟩
end Go.Proofs.Ythefbeekcjchcaa.P
