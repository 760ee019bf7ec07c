/- The law CodeCuts, walked. -/
import Derived.Test.YthefbeekcjchcaaMadeCat
import Derived.Test.YthefbeekcjchcaaGetAllC
import Derived.Test.YthefbeekcjchcaaCodeP2
import Derived.Test.YthefbeekcjchcaaAnchor
import Derived.Test.YthefbeekcjchcaaRead
namespace Go.Proofs.Ythefbeekcjchcaa.P
open Go Go.RowKit Go.Proofs.YthefbeekcjchcaaW.PrintWords Go.Proofs.YthefbeekcjchcaaW.PrintLast Go.Proofs.YthefbeekcjchcaaW.PrintMore Go.Proofs.Ythefbeekcjchcaa.Pure
set_option linter.unusedVariables false
set_option linter.unusedSimpArgs false
/-! How long a catalogue's form may be. -/
theorem cost_all {α : Type} (f : α → List Tok) (c : Nat) (l : List α) (h : ∀ x ∈ l, costT (f x) ≤ c) : costT (listT f l) ≤ 6 + l.length * c := by
  have e : costT (listT f l) = 6 + costT (l.flatMap f) := costT_num _ _
  rw [e]
  clear e
  induction l with
  | nil => simp [costT]
  | cons x l ih =>
    have h1 := h x (List.mem_cons_self ..)
    have h2 := ih (fun y hy => h y (List.mem_cons_of_mem _ hy))
    rw [List.flatMap_cons, costT_app, List.length_cons, Nat.succ_mul]
    omega
theorem cost_num1 (n : Int) (ts : List Tok) : costT (.num n :: ts) = 6 + costT ts := costT_num n ts
theorem cost_ver_le (v : Ver) : costT (tVer v) ≤ 24 + v.2.2.2.size := by
  unfold tVer
  simp only [costT_app, cost_text, tNum, costT_num, costT_nil, cost_num1]
  omega
theorem cost_cmp_le (c : Cmp) (h : okCmp c = true) : costT (tCmp c) ≤ 130 := by
  have h1 : c.2.2.2.2.size ≤ 100 := of_decide_eq_true h
  have h2 := cost_ver_le c.2
  have h3 : costT (if c.2 = noVer then [] else [Tok.bad]) ≤ 6 := by split <;> decide
  unfold tCmp
  rw [cost_num1]
  split <;> omega
theorem cost_rng_le (x : Rng) (h : okRng x = true) : costT (tRng x) ≤ 18798 := by
  unfold okRng at h
  rw [Bool.and_eq_true, List.all_eq_true] at h
  have h1 : x.length ≤ 12 := of_decide_eq_true h.1
  have := cost_all (listT tCmp) 1566 x (fun l hl => by
    have h2 := h.2 l hl
    unfold okCmps at h2
    rw [Bool.and_eq_true, List.all_eq_true] at h2
    have h3 : l.length ≤ 12 := of_decide_eq_true h2.1
    have := cost_all tCmp 130 l (fun c hc => cost_cmp_le c (h2.2 c hc))
    omega)
  show costT (listT (listT tCmp) x) ≤ _
  omega
theorem cost_nd_le (n : Nd) (h : okNd n = true) : costT (tNd n) ≤ 18804 := by
  have := cost_rng_le n.2 h
  unfold tNd
  simp only [costT_app, tNum, costT_num, costT_nil, cost_num1]
  omega
theorem cost_rel_le (r : Rel) (h : okRel r = true) : costT (tRel r) ≤ 225790 := by
  unfold okRel at h
  rw [Bool.and_eq_true, Bool.and_eq_true, List.all_eq_true] at h
  have h1 : r.2.2.length ≤ 12 := of_decide_eq_true h.1.1
  have h2 : r.1.2.2.2.size ≤ 100 := of_decide_eq_true h.1.2
  have h3 := cost_all tNd 18804 r.2.2 (fun n hn => cost_nd_le n (h.2 n hn))
  have h4 := cost_ver_le r.1
  unfold tRel
  simp only [costT_app, tNum, costT_num, costT_nil, cost_num1]
  omega
theorem cost_svc_le (s : Svc) (h : okSvc s = true) : costT (tSvc s) ≤ 3612760 := by
  unfold okSvc at h
  rw [Bool.and_eq_true, Bool.and_eq_true, List.all_eq_true] at h
  have h1 : s.1.size ≤ 100 := of_decide_eq_true h.1.1
  have h2 : s.2.length ≤ 16 := of_decide_eq_true h.1.2
  have h3 := cost_all tRel 225790 s.2 (fun n hn => cost_rel_le n (h.2 n hn))
  unfold tSvc
  simp only [costT_app, cost_text]
  omega
theorem cost_cat_le (x : List Svc) (h : okCat x = true) : costT (tCat x) ≤ 60000000 := by
  unfold okCat at h
  rw [Bool.and_eq_true, List.all_eq_true] at h
  have h1 : x.length ≤ 16 := of_decide_eq_true h.1
  have h2 := cost_all tSvc 3612760 x (fun n hn => cost_svc_le n (h.2 n hn))
  show costT (listT tSvc x) ≤ _
  omega
/-- A form that is cut off ends too early; one with more behind it is none. -/
theorem fin_cut {α : Type} {p : Rdr α} {f : α → List Tok} (hp : Fit p f) (x : α) (h : okT (f x) = true) (j : Nat) (hj : j < (outT (f x)).length) : finP p ((outT (f x)).take j) = 13 := by
  unfold finP
  rw [hp.cut x j h hj]
theorem fin_more {α : Type} {p : Rdr α} {f : α → List Tok} (hp : Fit p f) (x : α) (h : okT (f x) = true) (m : List Int) (hm : m ≠ []) : finP p (outT (f x) ++ m) = 12 := by
  unfold finP
  rw [hp.back x m h]
  cases m with
  | nil => exact absurd rfl hm
  | cons a m => rfl
/-! The form's bytes. -/
theorem bo_app {a b : List Tok} (ha : Bytes (outT a)) (hb : Bytes (outT b)) : Bytes (outT (a ++ b)) := by
  rw [outT_app]
  exact bytes_app ha hb
theorem bo_nil : Bytes (outT []) := fun x hx => by simp [outT] at hx
theorem bo_num {n : Int} {b : List Tok} (hb : Bytes (outT b)) : Bytes (outT (.num n :: b)) :=
  bo_app (a := [.num n]) (out_bytes _ (fun l hl => by simp at hl)) hb
theorem bo_text (s : ByteArray) : Bytes (outT (tText s)) := out_bytes _ (fun l hl => by
  simp only [tText, rawT, List.mem_cons, List.not_mem_nil, or_false, reduceCtorEq, false_or, Tok.raw.injEq] at hl
  subst hl
  intro x hx
  simp only [bytesOf, List.mem_map] at hx
  obtain ⟨b, _, rfl⟩ := hx
  have := b.toNat_lt
  omega)
theorem bo_list {α : Type} {f : α → List Tok} (h : ∀ x, Bytes (outT (f x))) (l : List α) : Bytes (outT (listT f l)) := by
  refine bo_num ?_
  induction l with
  | nil => exact bo_nil
  | cons x l ih => rw [List.flatMap_cons]; exact bo_app (h x) ih
theorem bo_ver (v : Ver) : Bytes (outT (tVer v)) := bo_num (bo_num (bo_num (bo_text _)))
theorem bo_cmp (c : Cmp) : Bytes (outT (tCmp c)) := by
  refine bo_num ?_
  split
  · split
    · exact bo_nil
    · exact out_bytes _ (fun l hl => by simp at hl)
  · exact bo_ver _
theorem bo_rng (x : Rng) : Bytes (outT (tRng x)) := bo_list (fun l => bo_list bo_cmp l) x
theorem bo_nd (n : Nd) : Bytes (outT (tNd n)) := bo_num (bo_rng _)
theorem bo_rel (r : Rel) : Bytes (outT (tRel r)) := bo_app (bo_ver _) (bo_num (bo_list bo_nd _))
theorem bo_svc (s : Svc) : Bytes (outT (tSvc s)) := bo_app (bo_text _) (bo_list bo_rel _)
theorem bo_cat (x : List Svc) : Bytes (outT (tCat x)) := bo_list bo_svc x
theorem out_ne (x : List Svc) (h : okT (tCat x) = true) : 0 < (outT (tCat x)).length := by
  rcases Nat.eq_zero_or_pos (outT (tCat x)).length with h0 | h0
  · have h1 : outT (tCat x) = [] := List.length_eq_zero_iff.1 h0
    have h2 := fit_cat.back x [] h
    rw [h1] at h2
    exact absurd h2 (by unfold rCat; simp [rlist, rbind, rsize, rnum, dn])
  · exact h0
set_option maxHeartbeats 8000000 in
set_option maxRecDepth 20000 in
theorem Join_T (A B : Option Addr) (c d : Nat) (l m : List Int) (w : World) (hl : Kd.C (Kd.int .u8) w A l.length l) (hm : Kd.C (Kd.int .u8) w B m.length m) (hle : l.length + m.length ≤ 1000000000) :
    Calls Try.prog 34 #[.slice A l.length c, .slice B m.length d] w fun e w' => ∃ v, e = .returned v ∧ Kd.R (Kd.int .u8) 5 w' w.heap.size (fun _ => True) v (l ++ m) ∧ Below w.heap.size w w' := by
  have HLL := Aside0.mk hl
  have HMM := Aside0.mk hm
  have HLE := Aside0.mk hle
  clear hl hm hle
  go_enter Try.func34, Try.ntmps34
  go_wp2_with (first
    | ((with_reducible refine gate_dst (N := 6) rfl ?_); go_must (refine Kd.R_lit (Kd.int .u8) (w0 := w) w.heap.size 5 ?hg (N := 6) ?hd (xs := []) (inner := []) (ok := fun _ => True) (okp := fun _ => True) ?hr ?hp (fun _ hk => hk) trivial (Below.refl _ _) (Nat.le_refl _) (by simp) ?_; (case hd => rfl); (case hg => rfl); (case hr => first | (go_simp; done) | (go_simp; rfl)); (case hp => exact Reps.none _ _); intro v43 w7 ho hb hg_ hnew_; have O7 := Aside0.mk ho; have HB7 := Aside0.mk hb; have L7 := Aside0.mk (Kd.C_below HLL.out hb); clear ho hb hg_ hnew_))
    | ((with_reducible refine gate_builtin (b := .append) (xs := #[.tmp 6, .tmp 7]) rfl ?_); at_builtin; go_must (refine Kd.R_append_row (Value.int .u8) 0 (h1 := fun _ => rfl) (w0 := w) w.heap.size rfl (.tmp 6) (.tmp 7) 25 5 (.int .u8 0) 1 rfl Try.underlying25 infoB5 rfl (by decide) v43 [] l A l.length c (fun _ => True) rfl rfl (fun _ _ => trivial) O7.out L7.out HB7.out (below_size HB7.out) (by have := HLE.out; simp only [List.length_nil]; omega) ?_; intro v44 w8 ho hb hgr hat; have O8 := Aside0.mk ho; have HB8 := Aside0.mk hb; have M8 := Aside0.mk (Kd.C_below HMM.out hb); clear ho hb hgr hat))
    | ((with_reducible refine gate_builtin (b := .append) (xs := #[.tmp 9, .tmp 10]) rfl ?_); at_builtin; go_must (refine Kd.R_append_row (Value.int .u8) 0 (h1 := fun _ => rfl) (w0 := w) w.heap.size rfl (.tmp 9) (.tmp 10) 25 5 (.int .u8 0) 1 rfl Try.underlying25 infoB5 rfl (by decide) v44 l m B m.length d (fun _ => True) rfl rfl (fun _ _ => trivial) O8.out M8.out HB8.out (below_size HB8.out) (by have := HLE.out; omega) ?_; intro v45 w9 ho hb hgr hat; have O9 := Aside0.mk ho; have HB9 := Aside0.mk hb; clear ho hb hgr hat)))
  go_ret
  exact ⟨_, rfl, O9.out, HB9.out⟩
set_option maxHeartbeats 8000000 in
set_option maxRecDepth 20000 in
theorem CodeCuts_main (x : List Svc) (A B : Option Addr) (c d : Nat) (at_ : Int) (more : List Int) (w : World) (h0 : Kd.C kSvc w A x.length x) (hm : Kd.C (Kd.int .u8) w B more.length more) (hd : more.length ≤ d) (hby : Bytes more) (hat : -9223372036854775808 ≤ at_ ∧ at_ < 9223372036854775808) :
    Calls Try.prog 10 #[.agg #[.slice A x.length c], .int .i64 at_, .slice B more.length d] w fun e w' => e = .returned (.bool true) ∧ Below w.heap.size w w' := by
  have HC := Aside0.mk h0
  have HM := Aside0.mk hm
  have HBY := Aside0.mk hby
  have HD := Aside0.mk hd
  have HAT := Aside0.mk hat
  obtain ⟨R, hR⟩ : ∃ r, okCat x = r := ⟨_, rfl⟩
  have HR := Aside0.mk hR
  obtain ⟨d1, hd1⟩ : ∃ b, decide (at_ < 0) = b := ⟨_, rfl⟩
  obtain ⟨d2, hd2⟩ : ∃ b, decide ((more.length : Int) < 1) = b := ⟨_, rfl⟩
  obtain ⟨d3, hd3⟩ : ∃ b, decide (50 < (more.length : Int)) = b := ⟨_, rfl⟩
  have H1 := Aside0.mk hd1
  have H2 := Aside0.mk hd2
  have H3 := Aside0.mk hd3
  have hbx := below_alloc (Below.refl w.heap.size w) (Obj.cells #[.slice A x.length c] 61)
  have HBX := Aside0.mk hbx
  have HBOX := Aside0.mk (heap_last w (Obj.cells #[.slice A x.length c] 61))
  clear h0 hm hby hd hat hR hbx
  go_enter Try.func10, Try.ntmps10
  go_wp2_with (fail)
  refine (anchor_calls _).mono ?_
  rintro e w1 ⟨rfl, hb⟩
  have HB := Aside0.mk (below_step HBX.out hb)
  have HP := Aside0.mk ((hb.block _ (blk_lt HBOX.out)).trans HBOX.out)
  have hp0 := (blk_cell HP.out) 0
  have K := Aside0.mk (Catalog_T x A c w1 (Kd.C_below HC.out HB.out))
  rw [HR.out] at K
  clear hb HBX HBOX
  go_wp2_with (fail)
  refine K.out.mono ?_
  rintro e w2 ⟨Au, nu, cu, rfl, _, hb⟩
  have hb3 := below_alloc (Below.refl w2.heap.size w2) (Obj.cells #[.slice Au nu cu] 64)
  have HB3 := Aside0.mk (below_step (below_step HB.out hb) hb3)
  have HP3 := Aside0.mk ((hb3.block _ (by have := hb.size; have := blk_lt HP.out; omega)).trans ((hb.block _ (blk_lt HP.out)).trans HP.out))
  clear hb hb3 K hp0
  have hp3 := (blk_cell HP3.out) 0
  by_cases hbad : R = false ∨ d1 = true ∨ d2 = true ∨ d3 = true
  · have hcase : (R = false) ∨ (R = true ∧ d1 = true) ∨ (R = true ∧ d1 = false ∧ d2 = true) ∨ (R = true ∧ d1 = false ∧ d2 = false ∧ d3 = true) := by
      cases R <;> cases d1 <;> cases d2 <;> cases d3 <;> simp at hbad ⊢
    clear hbad
    rcases hcase with rfl | ⟨rfl, rfl⟩ | ⟨rfl, rfl, rfl⟩ | ⟨rfl, rfl, rfl, rfl⟩
    all_goals
      go_wp2
      go_ret
      exact ⟨rfl, HB3.out⟩
  · obtain ⟨rfl, rfl, rfl, rfl⟩ : R = true ∧ d1 = false ∧ d2 = false ∧ d3 = false := by
      cases R <;> cases d1 <;> cases d2 <;> cases d3 <;> simp at hbad ⊢
    clear hbad
    have HCO := Aside0.mk (cost_cat_le x HR.out)
    have K := Aside0.mk (PutCatalog_T x A c _ (Kd.C_below HC.out HB3.out) (by have := HCO.out; omega))
    obtain ⟨ok, hok⟩ : ∃ b, okT (tCat x) = b := ⟨_, rfl⟩
    rw [endE, endL, hok] at K
    have HOK := Aside0.mk hok
    clear hok
    cases ok with
    | false =>
      rw [if_neg (by decide), if_neg (by decide)] at K
      go_wp2_with (fail)
      refine K.out.mono ?_
      rintro e w4 ⟨v, rfl, hr, hb⟩
      have HB4 := Aside0.mk (below_step HB3.out hb)
      obtain ⟨Ad, cd, rfl, _⟩ := Kd.R_reads hr
      clear hr hb K
      go_wp2
      go_ret
      exact ⟨rfl, HB4.out⟩
    | true =>
      rw [if_pos rfl, if_pos rfl] at K
      have hne := out_ne x HOK.out
      have hol := outT_cost (tCat x)
      obtain ⟨L, hL⟩ : ∃ L, outT (tCat x) = L := ⟨_, rfl⟩
      rw [hL] at K hne hol
      have HLV := Aside0.mk hL
      have HNE := Aside0.mk hne
      have HOL : Aside0 (L.length ≤ 60000000) := ⟨by have := HCO.out; omega⟩
      clear hL hne hol
      go_wp2_with (fail)
      refine K.out.mono ?_
      rintro e w4 ⟨v, rfl, hr, hb⟩
      have HB4 := Aside0.mk (below_step HB3.out hb)
      obtain ⟨Ad, cd, rfl, hcd, hCd⟩ := Kd.R_reads hr
      have HCD := Aside0.mk hCd
      have HCDc := Aside0.mk hcd
      obtain ⟨k, hk⟩ : ∃ k : Nat, Int.tmod at_ (L.length : Int) = (k : Int) ∧ k < L.length := by
        have h1 := HNE.out
        have h2 : 0 ≤ at_ := by have := of_decide_eq_false H1.out; omega
        have h3 : Int.tmod at_ (L.length : Int) = at_ % (L.length : Int) := Int.tmod_eq_emod_of_nonneg h2
        have h4 := Int.emod_nonneg at_ (show (L.length : Int) ≠ 0 by omega)
        have h5 := Int.emod_lt_of_pos at_ (show (0 : Int) < L.length by omega)
        exact ⟨(at_ % (L.length : Int)).toNat, by omega, by omega⟩
      have HK := Aside0.mk hk.2
      have hk1 := hk.1
      have z0 : ((L.length : Int) == 0) = false := by have := HNE.out; simp; intro h; rw [h] at this; simp at this
      have hl0 : ¬ L.length = 0 := by have := HNE.out; omega
      have hl2 : ¬ L = [] := fun h => hl0 (by rw [h]; rfl)
      have hl1 : ¬ (L.length : Int) = 0 := by omega
      obtain ⟨i0, hi0, _, hsz, _⟩ := info_parts infoB5
      obtain ⟨hcut, hA1, _⟩ := (print_take_of (P := Try.prog) (Value.int .u8) 0 25 5 .i64 Try.underlying25 hi0 hsz Ad cd L (k : Int) (by omega) (by have := HK.out; omega) hcd)
      rw [Int.toNat_natCast] at hcut hA1
      have hCT : Kd.C (Kd.int .u8) w4 Ad (L.take k).length (L.take k) := Kd.C_of_reads (h1 := fun _ => rfl) (hA1 w4 (Kd.reads_of_C (h1 := fun _ => rfl) hCd))
      have hF1 : finP rCat (L.take k) = 13 := by rw [← HLV.out]; exact fin_cut fit_cat x HOK.out k (by rw [HLV.out]; exact HK.out)
      have hF2 : finP rCat (L ++ more) = 12 := by
        rw [← HLV.out]
        refine fin_more fit_cat x HOK.out more (fun h => ?_)
        have := of_decide_eq_false H2.out
        rw [h] at this
        exact this (by decide)
      have hBL : Bytes L := by rw [← HLV.out]; exact bo_cat x
      have HF2 := Aside0.mk hF2
      have HBL := Aside0.mk hBL
      have HBT := Aside0.mk (show Bytes (L.take k) from fun y hy => hBL y (List.mem_of_mem_take hy))
      have HTL := Aside0.mk (show (L.take k).length ≤ L.length from by rw [List.length_take]; omega)
      have HML : Aside0 (more.length ≤ 50) := ⟨by have := of_decide_eq_false H3.out; omega⟩
      generalize L.take k = T at hcut hCT hF1 HBT HTL
      have HCT := Aside0.mk hCT
      have HF1 := Aside0.mk hF1
      clear hr hb K hcd hCd hk hA1 hi0 hsz hCT hF1 hF2 hBL
      go_wp2_with (fail)
      refine (GetCatalog_T Ad cd T w4 HCT.out (by have := HTL.out; have := HCDc.out; omega) HBT.out (by have := HTL.out; have := HOL.out; omega)).mono ?_
      rintro e w5 ⟨x1, u0, rfl, r0, _, _, hb⟩
      rw [HF1.out]
      obtain ⟨B0, e0, rfl, _⟩ := Kd.R_reads r0
      have hb6 := below_alloc (Below.refl w5.heap.size w5) (Obj.cells #[.slice B0 x1.length e0] 61)
      have HB46 := Aside0.mk (below_step hb hb6)
      have HB6 := Aside0.mk (below_step HB4.out HB46.out)
      have K := Aside0.mk (Join_T Ad B cd d L more _ (Kd.C_below HCD.out HB46.out) (Kd.C_below HM.out HB6.out) (by have := HOL.out; have := HML.out; omega))
      clear r0 hb hb6 hcut hk1 z0 hl0 hl1 hl2
      go_wp2_with (fail)
      refine K.out.mono ?_
      rintro e w7 ⟨v, rfl, hr, hb⟩
      have HB7 := Aside0.mk (below_step HB6.out hb)
      obtain ⟨Aj, cj, rfl, hcj, hCj⟩ := Kd.R_reads hr
      have HCJ := Aside0.mk hCj
      have HCJc := Aside0.mk hcj
      have HLJ : Aside0 ((L ++ more).length ≤ 1000000000) := ⟨by rw [List.length_append]; have := HOL.out; have := HML.out; omega⟩
      have HBJ := Aside0.mk (bytes_app HBL.out HBY.out)
      obtain ⟨J, hJ⟩ : ∃ J, L ++ more = J := ⟨_, rfl⟩
      rw [hJ] at HCJ HCJc HLJ HBJ HF2 ⊢
      clear hr hb K hcj hCj hJ
      go_wp2_with (fail)
      refine (GetCatalog_T Aj cj J w7 HCJ.out HCJc.out HBJ.out HLJ.out).mono ?_
      rintro e w8 ⟨x2, u0, rfl, r0, _, _, hb⟩
      rw [HF2.out]
      obtain ⟨B2, e2, rfl, _⟩ := Kd.R_reads r0
      have HB8 := Aside0.mk (below_step HB7.out hb)
      clear r0 hb
      go_wp2
      go_ret
      exact ⟨rfl, below_alloc HB8.out _⟩
def byteK (l : List Int) : Bool := l.all fun x => decide (0 ≤ x) && decide (x < 256)
theorem byteK_of {l : List Int} (h : byteK l = true) : Bytes l := fun x hx => by
  have := List.all_eq_true.1 h x hx
  simpa using this
abbrev kCatA : Kd (List Svc) := Kd.slice 113 kSvc
def slipwaylaw12_CodeCuts.f (_k : Nat) (x : List Svc) (a : Int) (l : List Int) : Option Bool := if byteK l = true ∧ (-9223372036854775808 ≤ a ∧ a < 9223372036854775808) then some true else none
theorem slipwaylaw12_CodeCuts.calls (k : Nat) (cs : Array Value) (x : List Svc) (a : Int) (A1 : Option Addr) (c1 : Nat) (l1 : List Int) (r : Bool) (w : World) (hK : kCatA.K w x cs.toList) (hr1 : Kd.C (Kd.int .u8) w A1 l1.length l1) (hc1 : l1.length ≤ c1) (h : slipwaylaw12_CodeCuts.f k x a l1 = some r) :
    Calls Try.prog 10 #[.agg cs, .int .i64 a, .slice A1 l1.length c1] w fun e w' => e = .returned (.bool r) ∧ Below w.heap.size w w' := by
  unfold slipwaylaw12_CodeCuts.f at h
  split at h
  · rename_i hb
    obtain rfl := Option.some.inj h
    obtain ⟨A0, k0, hz, _, h0⟩ := hK
    obtain rfl : cs = #[.slice A0 x.length k0] := by
      apply Array.ext'
      exact hz
    exact CodeCuts_main x A0 A1 k0 c1 a l1 w h0 hr1 hc1 (byteK_of hb.1) hb.2
  · cases h
end Go.Proofs.Ythefbeekcjchcaa.P
namespace Go.Proofs.Ythefbeekcjchcaa.Pure
open Go Go.Proofs.Ythefbeekcjchcaa.P Go.Proofs.Ythefbeekcjchcaa.Read
set_option linter.unusedVariables false
theorem CodeCuts (x : List Svc) {G : Prop} (gp : G) (a : Int) (ga : (Lit.int .i64 a).wf = true) (l : List Int) (g : goodList (fun x => (Lit.int .u8 x).wf = true) l) : ∃ k, slipwaylaw12_CodeCuts.f k x a l = some true := by
  refine ⟨0, if_pos ⟨List.all_eq_true.2 fun x hx => ?_, ?_⟩⟩
  · have h := g.2 x hx
    simp only [Lit.wf, decide_eq_true_eq, Bool.and_eq_true] at h
    rw [show IntKind.u8.min = 0 from rfl, show IntKind.u8.max = 255 from rfl] at h
    simp
    omega
  · simp only [Lit.wf, decide_eq_true_eq, Bool.and_eq_true] at ga
    rw [show IntKind.i64.min = -9223372036854775808 from rfl, show IntKind.i64.max = 9223372036854775807 from rfl] at ga
    omega
end Go.Proofs.Ythefbeekcjchcaa.Pure
