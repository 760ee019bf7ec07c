/- The law WalOwn, walked. (written by gen_ow.py) -/
import Derived.Test.YtoimpjmoikjibaaWlL
import Derived.Test.YtoimpjmoikjibaaRead
namespace Go.Proofs.Ytoimpjmoikjibaa.Wl
open Go Go.RowKit Go.Proofs.Ytoimpjmoikjibaa.IMap Go.Proofs.Ytoimpjmoikjibaa.Pure Go.Proofs.Ytoimpjmoikjibaa.P Go.Proofs.Ytoimpjmoikjibaa.Dk Go.Proofs.YtoimpjmoikjibaaW.PrintWords Go.Proofs.YtoimpjmoikjibaaW.PrintLast Go.Proofs.YtoimpjmoikjibaaW.PrintMore
set_option linter.unusedVariables false
set_option linter.unusedSimpArgs false
theorem LX.spoiled {w0 w w1 : World} {g l : Nat} {s : DS} {t : WS} {X : Nat → Prop} (h : LX w0 w g l s t X) {v : Value} (ho : Own1 v w w1) (hx : ∀ k, v.ownBlock = some k → X k ∧ w0.heap.size ≤ k) : LX w0 w1 g l s t X := by
  have b0 : Below 0 w0 w1 := (h.from.mono (Nat.zero_le _)).trans ho.2.1
  have hb : Below w0.heap.size w0 w1 := ⟨b0.os, b0.tape, b0.output, b0.size, fun k hk => (ho.2.2 k (fun e => by have := (hx k e).2; omega)).trans (h.from.block k hk)⟩
  exact (h.keep hb (Nat.le_of_eq ho.1.symm) (fun k hk hn => ho.2.2 k (fun e => hn (hx k e).1))).mono (fun k hk => .inl hk)
theorem B_img {b : List Int} {rs : List (List Int)} (hb : B b) (h : ∀ r ∈ rs, B r) : B (img b rs) := by
  unfold img
  refine B_append (frame_B (B_cons (by omega) hb)) ?_
  induction rs with
  | nil => exact Pure.B_nil
  | cons r rs ih =>
    rw [recB_cons]
    exact B_append (frame_B (B_cons (by omega) (h r List.mem_cons_self))) (ih (fun x hx => h x (List.mem_cons_of_mem _ hx)))
theorem img_len (b : List Int) (rs : List (List Int)) (r : List Int) : (img b (rs ++ [r])).length = (img b rs).length + (r.length + 9) := by
  rw [img_app, List.length_append, frame_len, List.length_cons]
theorem img_small {b : List Int} {rs : List (List Int)} {n : Nat} (hb : b.length ≤ 300) (hn : rs.length ≤ n) (h : ∀ r ∈ rs, r.length ≤ 300) : (img b rs).length ≤ 309 + 309 * n := by
  unfold img
  rw [List.length_append, frame_len, List.length_cons]
  have : ∀ rs : List (List Int), (∀ r ∈ rs, r.length ≤ 300) → (recB rs).length ≤ 309 * rs.length := fun rs => by
    induction rs with
    | nil => intro _; exact Nat.le_refl _
    | cons r rs ih =>
      intro h
      rw [recB_cons, List.length_append, frame_len, List.length_cons, List.length_cons]
      have h1 := ih (fun x hx => h x (List.mem_cons_of_mem _ hx))
      have h2 := h r List.mem_cons_self
      omega
  have := this rs h
  omega
theorem WalOwn_big (l0 : List Int) (l1 : List (List Int)) (A0 A1 : Option Addr) (c0 c1 : Nat) (w : World) (hbig : ¬ (l0.length ≤ 300 ∧ l1.length ≤ 20)) :
    Calls Try.prog 10 #[.slice A0 l0.length c0, .slice A1 l1.length c1] w fun e w' => e = .returned (.bool true) ∧ Below w.heap.size w w' := by
  obtain ⟨n0, hn0⟩ : ∃ n, l0.length = n := ⟨_, rfl⟩
  obtain ⟨n1, hn1⟩ : ∃ n, l1.length = n := ⟨_, rfl⟩
  rw [hn0, hn1] at hbig ⊢
  clear hn0 hn1
  have HQ := Aside0.mk hbig
  clear hbig
  go_enter Try.func10, Try.ntmps10
  go_wp2_with (fail)
  refine (anchor_T w).mono ?_
  rintro e w1 ⟨rfl, hb1⟩
  have HB1 := Aside0.mk hb1
  clear hb1
  by_cases q0 : n0 ≤ 300
  · have q1 : ¬ n1 ≤ 20 := fun h => HQ.out ⟨q0, h⟩
    have d0 : decide (300 < (n0 : Int)) = false := decide_eq_false (by omega)
    have d1 : decide (20 < (n1 : Int)) = true := decide_eq_true (by omega)
    clear q0 q1
    go_wp2
    go_ret
    exact ⟨rfl, HB1.out⟩
  · have d0 : decide (300 < (n0 : Int)) = true := decide_eq_true (by omega)
    clear q0
    go_wp2
    go_ret
    exact ⟨rfl, HB1.out⟩
set_option maxHeartbeats 8000000 in
set_option maxRecDepth 100000 in
theorem WalOwn_main (l0 : List Int) (l1 : List (List Int)) (A0 A1 : Option Addr) (c0 c1 : Nat) (w : World) (h0 : Kd.C kB w A0 l0.length l0) (hc0 : l0.length ≤ c0) (h1 : Kd.C kBs w A1 l1.length l1) (hc1 : l1.length ≤ c1)
    (hB0 : B l0) (hB1 : ∀ b ∈ l1, B b) (q0 : l0.length ≤ 300) (q1 : l1.length ≤ 20) :
    Calls Try.prog 10 #[.slice A0 l0.length c0, .slice A1 l1.length c1] w fun e w' => e = .returned (.bool true) ∧ Below w.heap.size w w' := by
  have HC1 := Aside0.mk h1
  have HL1 := Aside0.mk hc1
  have HL0 := Aside0.mk hc0
  have HB0 := Aside0.mk hB0
  have HBB := Aside0.mk hB1
  have HC00 := Aside0.mk h0
  obtain ⟨n0, hn0⟩ : ∃ n, l0.length = n := ⟨_, rfl⟩
  obtain ⟨n1, hn1⟩ : ∃ n, l1.length = n := ⟨_, rfl⟩
  rw [hn0] at q0 h0 ⊢
  rw [hn1] at q1 ⊢
  have HC0 := Aside0.mk h0
  have HN0 := Aside0.mk hn0
  have HN1 := Aside0.mk hn1
  have d0 : decide (300 < (n0 : Int)) = false := decide_eq_false (by omega)
  have d1 : decide (20 < (n1 : Int)) = false := decide_eq_false (by omega)
  clear h0 h1 hc0 hc1 hB0 hB1 hn0 hn1
  go_enter Try.func10, Try.ntmps10
  go_wp2_with (fail)
  refine (anchor_T w).mono ?_
  rintro e w1 ⟨rfl, hb1⟩
  have HB1 := Aside0.mk hb1
  clear hb1
  go_wp2_with (fail)
  refine (New_L (w0 := w) 1048576 w1 (by omega) (by omega) HB1.out).mono ?_
  rintro e w2 ⟨g, rfl, h2⟩
  have KO := Aside0.mk (Open_L h2 (BD_new _) (open_new 1048576 (by omega)) rfl)
  clear h2 HB1
  go_wp2_with (fail)
  refine KO.out.mono ?_
  rintro e w3 ⟨l, rfl, h3⟩
  have H3 : Aside0 (LL w w3 g l (Dk.one 0 (frame [0]) 9 1048576) (ws 0 9 [] [])) := ⟨h3⟩
  have HC3 := Aside0.mk (Kd.C_below HC0.out h3.from)
  have HS3 := Aside0.mk h3.from.size
  clear h3 KO d0 d1
  go_wp2_with (first
    | ((with_reducible refine gate_dst (N := 41) rfl ?_); go_must (refine Kd.R_lit kB (w0 := w3) w3.heap.size 5 ?hg (N := 41) ?hd (xs := ([] : List Int)) (inner := []) (ok := fun _ => True) (okp := fun _ => True) ?hr ?hp (fun _ hk => hk) trivial (Below.refl _ _) (Nat.le_refl _) (by simp) ?_; (case hd => rfl); (case hg => rfl); (case hr => first | (go_simp; done) | (go_simp; rfl)); (case hp => exact Reps.none _ _); intro v20 w20 ho hb hg_ hnew_; clear hg_ hnew_; obtain ⟨A20, c20, rfl⟩ := Kd.R_slice ho; have HO20 := Aside0.mk ho; have HB20 := Aside0.mk hb; clear ho hb))
    | ((with_reducible refine gate_builtin (b := .append) (xs := #[.tmp 41, .tmp 42]) rfl ?_); at_builtin; go_must (refine Kd.R_append_rows kB (Rr := kB.K w20) (w0 := w3) w3.heap.size rfl (.tmp 41) (.tmp 42) 22 5 (.int .u8 0) 1 rfl Try.underlying22 infoB8 rfl (by decide) (by decide) (.slice A20 0 c20) [] l0 A0 n0 c0 (fun _ => True) (fun _ => False) rfl rfl HO20.out ?hrr (fun _ _ h => h) (fun _ h => h.elim) (fun _ _ => trivial) HB20.out HB20.out.size ?hll ?_; (case hrr => exact Kd.C_below HC3.out HB20.out); (case hll => simp; omega); intro v21 w21 ho hb hgr hat; obtain ⟨A21, c21, rfl⟩ := Kd.R_slice ho; have HO21 := Aside0.mk ho; have HB21 := Aside0.mk hb; clear ho hb hgr hat; refine Halt.out ?_)))
  unfold Halt
  have hO21 : Kd.R kB 5 w21 w3.heap.size (fun _ => True) (.slice A21 ([] ++ l0).length c21) l0 := HO21.out
  rw [List.nil_append, HN0.out] at hO21
  have HR21 := Aside0.mk hO21
  (try simp only [List.nil_append])
  (try rw [HN0.out])
  have HX21 : Aside0 (LX w w21 g l _ _ (fun k => w3.heap.size ≤ k ∧ k < w21.heap.size)) := ⟨((LX.of H3.out).below HB21.out).mono (fun k hk => .inr hk)⟩
  have HV21 : Aside0 (Kd.V kB 5 w21 0 (fun k => w3.heap.size ≤ k ∧ k < w21.heap.size) (.slice A21 n0 c21) l0) := ⟨Kd.V_mono (Kd.V_bound (Kd.R_V (base' := 0) (Kd.R_reok rfl hO21 (ok := fun k => w3.heap.size ≤ k) (fun k hk => Kd.R_base hO21 k hk)))) (fun k hk => hk)⟩
  clear hO21 HO21
  have KR := Rot_X HX21.out A21 c21 l0 (by rw [HN0.out]; exact HV21.out) (fun k hk => .inr hk) HB0.out (by rw [HN0.out]; omega) (by show -10 ≤ (0 : Int) ∧ (0 : Int) ≤ 10000000; omega) (rot_ws 0 (frame [0]) 9 1048576 9 [] [] l0 (by omega) (by omega) (by rw [HN0.out]; omega) (by rw [f0_len, HN0.out]; omega))
  rw [HN0.out] at KR
  have KR := Aside0.mk KR
  clear H3 HC3 HO20 HB20
  go_wp2_with (fail)
  refine KR.out.mono ?_
  rintro e w4 ⟨rfl, hx4, hk4⟩
  have hx4 : LX w w4 g l (Dk.one 1 (img l0 []) (n0 + 9) 1048576) (ws 1 (img l0 []).length l0 []) (fun k => w3.heap.size ≤ k ∧ k < w21.heap.size) := by
    rw [show (img l0 []).length = n0 + 9 from by rw [img_nil, frame_len, List.length_cons, HN0.out], img_nil]
    exact hx4
  have hR4 := Kd.R_step (Kd.R_reok rfl HR21.out (ok := fun k => w3.heap.size ≤ k ∧ k < w21.heap.size) (fun k hk => ⟨Kd.R_base HR21.out k hk, Kd.R_lt HR21.out k hk⟩)) (fun k hk _ => hk4 k hk)
  have KSP := Aside0.mk (spoil_T A21 n0 c21 l0 _ _ w4 hR4)
  have HX4 := Aside0.mk hx4
  have HOB : Aside0 (∀ k, (Value.slice A21 n0 c21).ownBlock = some k → (w3.heap.size ≤ k ∧ k < w21.heap.size) ∧ w.heap.size ≤ k) := ⟨fun k hk => by
    have a1 := Kd.R_base HR21.out k hk
    exact ⟨⟨a1, Kd.R_lt HR21.out k hk⟩, by have := HS3.out; omega⟩⟩
  clear KR hx4 hk4 hR4 HV21 HX21
  go_wp2_with (fail)
  refine KSP.out.mono ?_
  rintro e w5 ⟨rfl, ho5⟩
  have H5 := Aside0.mk (HX4.out.spoiled ho5 HOB.out).ll
  clear KSP ho5 HX4 HOB HR21 HB21
  go_wp2
  go_loopg [53] n1 (fun kq v53 w' => ∃ (j : Nat), v53 = .int .i64 (j : Int) ∧ j + kq = n1 ∧ Aside0 (LL w w' g l (Dk.one 1 (img l0 (l1.take j)) (n0 + 9) 1048576) (ws 1 (img l0 (l1.take j)).length l0 (l1.take j))) ∧ Aside0 (∀ x ∈ l1.take j, x.length ≤ 300))
  case atStart => exact ⟨0, rfl, by omega, H5, ⟨fun x hx => by cases hx⟩⟩
  case round =>
    clear H5
    obtain ⟨j, rfl, hk, HJ, HJ3⟩ := hrel
    by_cases hj : j < n1
    · have e2 : decide (j < n1) = true := decide_eq_true hj
      have hjl : j < l1.length := by rw [HN1.out]; exact hj
      obtain ⟨r, hr⟩ : ∃ b, l1[j]? = some b := ⟨_, List.getElem?_eq_getElem hjl⟩
      obtain ⟨ad, Ab, cb, hA, hcell, hCb, hcb⟩ := rows_at HC1.out j r hr
      cases hA
      have hx0 := hcell wr HJ.out.from
      have HBb := Aside0.mk (HBB.out r (List.mem_of_getElem? hr))
      have HTK : Aside0 (l1.take (j + 1) = l1.take j ++ [r]) := ⟨by
        rw [List.take_add_one, hr]
        rfl⟩
      obtain ⟨nb, hnb⟩ : ∃ n, r.length = n := ⟨_, rfl⟩
      rw [hnb] at hx0 hCb
      have HNB := Aside0.mk hnb
      have HCB := Aside0.mk (Kd.C_below hCb HJ.out.from)
      have HWI : Aside0 (wrap64 ((j : Int) + 1) = ((j + 1 : Nat) : Int)) := ⟨by unfold wrap64; omega⟩
      clear hjl hr hcell hCb hcb hnb
      by_cases hbg : 300 < nb
      · have d2 : decide (300 < (nb : Int)) = true := decide_eq_true (by omega)
        clear hbg
        go_wp2
        go_ret
        exact ⟨rfl, HJ.out.from⟩
      · have d2 : decide (300 < (nb : Int)) = false := decide_eq_false (by omega)
        have hnb3 : nb ≤ 300 := by omega
        clear hbg
        go_wp2_with (first
          | ((with_reducible refine gate_dst (N := 60) rfl ?_); go_must (refine Kd.R_lit kB (w0 := wr) wr.heap.size 5 ?hg (N := 60) ?hd (xs := ([] : List Int)) (inner := []) (ok := fun _ => True) (okp := fun _ => True) ?hr ?hp (fun _ hk => hk) trivial (Below.refl _ _) (Nat.le_refl _) (by simp) ?_; (case hd => rfl); (case hg => rfl); (case hr => first | (go_simp; done) | (go_simp; rfl)); (case hp => exact Reps.none _ _); intro v20 w20 ho hb hg_ hnew_; clear hg_ hnew_; obtain ⟨A20, c20, rfl⟩ := Kd.R_slice ho; have HO20 := Aside0.mk ho; have HB20 := Aside0.mk hb; clear ho hb))
          | ((with_reducible refine gate_builtin (b := .append) (xs := #[.tmp 60, .tmp 61]) rfl ?_); at_builtin; go_must (refine Kd.R_append_rows kB (Rr := kB.K w20) (w0 := wr) wr.heap.size rfl (.tmp 60) (.tmp 61) 22 5 (.int .u8 0) 1 rfl Try.underlying22 infoB8 rfl (by decide) (by decide) (.slice A20 0 c20) [] r Ab nb cb (fun _ => True) (fun _ => False) rfl rfl HO20.out ?hrr (fun _ _ h => h) (fun _ h => h.elim) (fun _ _ => trivial) HB20.out HB20.out.size ?hll ?_; (case hrr => exact Kd.C_below HCB.out HB20.out); (case hll => simp; omega); intro v21 w21 ho hb hgr hat; obtain ⟨A21, c21, rfl⟩ := Kd.R_slice ho; have HO21 := Aside0.mk ho; have HB21 := Aside0.mk hb; clear ho hb hgr hat; refine Halt.out ?_)))
        unfold Halt
        have hO21 : Kd.R kB 5 w21 wr.heap.size (fun _ => True) (.slice A21 ([] ++ r).length c21) r := HO21.out
        rw [List.nil_append, HNB.out] at hO21
        have HR21 := Aside0.mk hO21
        (try simp only [List.nil_append])
        (try rw [HNB.out])
        have HX21 : Aside0 (LX w w21 g l _ _ (fun k => wr.heap.size ≤ k ∧ k < w21.heap.size)) := ⟨((LX.of HJ.out).below HB21.out).mono (fun k hk => .inr hk)⟩
        have HV21 : Aside0 (Kd.V kB 5 w21 0 (fun k => wr.heap.size ≤ k ∧ k < w21.heap.size) (.slice A21 nb c21) r) := ⟨Kd.V_mono (Kd.V_bound (Kd.R_V (base' := 0) (Kd.R_reok rfl hO21 (ok := fun k => wr.heap.size ≤ k) (fun k hk => Kd.R_base hO21 k hk)))) (fun k hk => hk)⟩
        clear hO21 HO21
        have hsm := img_small (b := l0) (rs := l1.take j) (n := 20) (by rw [HN0.out]; exact q0) (by rw [List.length_take]; omega) HJ3.out
        have KA := App_X HX21.out A21 c21 r (by rw [HNB.out]; exact HV21.out) (fun k hk => .inr hk) HBb.out (by rw [HNB.out]; omega) (by show (l1.take j).length ≤ 1000000; rw [List.length_take]; omega) (by show 0 ≤ ((img l0 (l1.take j)).length : Int) ∧ ((img l0 (l1.take j)).length : Int) ≤ 1000000000; omega) (app_ws 1 (img l0 (l1.take j)) (n0 + 9) 1048576 _ l0 (l1.take j) r (by omega) (by omega) (by rw [HNB.out]; omega) (by rw [HNB.out]; omega))
        rw [← img_app, ← img_len, ← HTK.out, HNB.out] at KA
        have KA := Aside0.mk KA
        clear hsm HO20 HB20
        go_wp2_with (fail)
        refine KA.out.mono ?_
        rintro e w4 ⟨rfl, hx4, hk4⟩
        have hR4 := Kd.R_step (Kd.R_reok rfl HR21.out (ok := fun k => wr.heap.size ≤ k ∧ k < w21.heap.size) (fun k hk => ⟨Kd.R_base HR21.out k hk, Kd.R_lt HR21.out k hk⟩)) (fun k hk _ => hk4 k hk)
        have KSP := Aside0.mk (spoil_T A21 nb c21 r _ _ w4 hR4)
        have HX4 := Aside0.mk hx4
        have HOB : Aside0 (∀ k, (Value.slice A21 nb c21).ownBlock = some k → (wr.heap.size ≤ k ∧ k < w21.heap.size) ∧ w.heap.size ≤ k) := ⟨fun k hk => by
          have a1 := Kd.R_base HR21.out k hk
          exact ⟨⟨a1, Kd.R_lt HR21.out k hk⟩, by have := HJ.out.from.size; omega⟩⟩
        clear KA hx4 hk4 hR4 HV21 HX21
        go_wp2_with (fail)
        refine KSP.out.mono ?_
        rintro e w5 ⟨rfl, ho5⟩
        have H5 := Aside0.mk (HX4.out.spoiled ho5 HOB.out).ll
        have HJ4 : Aside0 (∀ x ∈ l1.take (j + 1), x.length ≤ 300) := ⟨fun x hx => by
          rw [HTK.out] at hx
          rcases List.mem_append.1 hx with hx | hx
          · exact HJ3.out x hx
          · rw [List.mem_singleton.1 hx, HNB.out]; exact hnb3⟩
        clear KSP ho5 HX4 HOB HR21 HB21
        go_wp2
        go_roundg (gk - 1)
        case measure => omega
        case rel => exact ⟨j + 1, (by first | exact congrArg _ HWI.out | rfl | (congr 1; go_num)), by omega, H5, HJ4⟩
    · have e2 : decide (j < n1) = false := decide_eq_false hj
      have hjn : l1.take j = l1 := List.take_of_length_le (by rw [HN1.out]; omega)
      rw [hjn] at HJ HJ3
      clear hjn hj
      have KB := Aside0.mk (Base_L HJ.out (b := l0) rfl (by rw [HN0.out]; omega))
      go_wp2_with (fail)
      refine KB.out.mono ?_
      rintro e w5 ⟨v5, rfl, hv5, hb5⟩
      obtain ⟨A5, c5, rfl⟩ := Kd.R_slice hv5
      rw [HN0.out] at hv5 ⊢
      have HX5 := Aside0.mk ((LX.of HJ.out).below hb5)
      have KSP := Aside0.mk (spoil_T A5 n0 c5 l0 _ _ w5 hv5)
      have HOB : Aside0 (∀ k, (Value.slice A5 n0 c5).ownBlock = some k → (False ∨ (wr.heap.size ≤ k ∧ k < w5.heap.size)) ∧ w.heap.size ≤ k) := ⟨fun k hk => by
        have a1 := Kd.R_base hv5 k hk
        exact ⟨.inr ⟨a1, Kd.R_lt hv5 k hk⟩, by have := HJ.out.from.size; omega⟩⟩
      clear KB hv5 hb5
      go_wp2_with (fail)
      refine KSP.out.mono ?_
      rintro e w6 ⟨rfl, ho6⟩
      have h6 := (HX5.out.spoiled ho6 HOB.out).ll
      have KRC : Aside0 (Calls Try.prog 38 #[.pointer (some ⟨l, 0, none⟩)] w6 fun e w' => ∃ v us, e = .returned v ∧ Kd.R (Kd.raw 1) 22 w' w6.heap.size (fun _ => True) v (us.map fun u => [u]) ∧ Els w' w6.heap.size v us l1 ∧ Below w6.heap.size w6 w') := ⟨by
        obtain ⟨T, hlg, _, _⟩ := h6
        exact Rec2_T hlg (fun r hr => Nat.le_trans (HJ3.out r hr) (by decide)) (by show l1.length ≤ 1000000; rw [HN1.out]; omega)⟩
      have H6 := Aside0.mk h6
      clear KSP ho6 HX5 HOB h6 HJ
      go_wp2_with (fail)
      refine KRC.out.mono ?_
      rintro e w7 ⟨v7, us, rfl, hr7, he7, hb7⟩
      have hul : us.length = n1 := he7.1.trans HN1.out
      obtain ⟨A7, c7, rfl, _⟩ := Kd.R_reads hr7
      rw [List.length_map, hul] at hr7 ⊢
      have HUL := Aside0.mk hul
      have HE7 := Aside0.mk he7
      have HLW := Aside0.mk H6.out.from.size
      have HX7 : Aside0 (LX w w7 g l (Dk.one 1 (img l0 l1) (n0 + 9) 1048576) (ws 1 (img l0 l1).length l0 l1) (fun k => w6.heap.size ≤ k ∧ k < w7.heap.size)) := ⟨((LX.of H6.out).below hb7).mono (fun k hk => .inr hk)⟩
      have HR7 := Aside0.mk (Kd.R_tight rfl hr7)
      have HE8 : Aside0 (∀ j u, 0 ≤ j → us[j]? = some u → ∃ A n c x, u = .slice A n c ∧ Kd.R kB 5 w7 w6.heap.size (fun k => some k = u.ownBlock) u x ∧ ∀ k, u.ownBlock = some k → (Value.slice A7 n1 c7).ownBlock ≠ some k) := ⟨fun j u _ hu => by
        obtain ⟨A, n, c, x, h1, h2, h3⟩ := he7.2.2 u (List.mem_of_getElem? hu)
        rw [List.length_map, hul] at h3
        exact ⟨A, n, c, x, h1, h2, h3⟩⟩
      have HPW := Aside0.mk he7.2.1
      clear KRC hr7 he7 hb7 hul H6
      go_wp2
      go_loopg [78] n1 (fun kq v78 w' => ∃ (j : Nat), v78 = .int .i64 (j : Int) ∧ j + kq = n1 ∧ Aside0 (LX w w' g l (Dk.one 1 (img l0 l1) (n0 + 9) 1048576) (ws 1 (img l0 l1).length l0 l1) (fun k => w6.heap.size ≤ k ∧ k < w7.heap.size)) ∧ Aside0 (w'.heap.size = w7.heap.size) ∧ Aside0 (Kd.R (Kd.raw 1) 22 w' w6.heap.size (fun k => some k = (Value.slice A7 n1 c7).ownBlock) (.slice A7 n1 c7) (us.map fun u => [u])) ∧ Aside0 (∀ i u, j ≤ i → us[i]? = some u → ∃ A n c x, u = .slice A n c ∧ Kd.R kB 5 w' w6.heap.size (fun k => some k = u.ownBlock) u x ∧ ∀ k, u.ownBlock = some k → (Value.slice A7 n1 c7).ownBlock ≠ some k))
      case atStart => exact ⟨0, rfl, by omega, HX7, ⟨rfl⟩, HR7, HE8⟩
      case round =>
        clear HX7 HR7 HE8
        obtain ⟨j, rfl, hk, HX8, HS8, HR8, HE8⟩ := hrel
        by_cases hj : j < n1
        · have e2 : decide (j < n1) = true := decide_eq_true hj
          have hju : j < us.length := by rw [HUL.out]; exact hj
          obtain ⟨u, hu⟩ : ∃ u, us[j]? = some u := ⟨_, List.getElem?_eq_getElem hju⟩
          obtain ⟨Au, nu, cu, xu, rfl, hru, hnu⟩ := HE8.out j u (Nat.le_refl _) hu
          have hA7 : ∃ gg, A7 = some ⟨gg, 0, none⟩ := by
            obtain ⟨inner, hz, ho⟩ := Kd.R_own HR8.out
            rcases ho with ⟨hv, h0⟩ | ⟨gg, cap, cur, hv, _⟩
            · rw [List.length_map] at h0; omega
            · injection hv with h1
              exact ⟨gg, h1⟩
          obtain ⟨gg, rfl⟩ := hA7
          obtain ⟨cs, hcl, hM, hcc, hfz⟩ := Kd.R_elem HR8.out ([] : List Value) (j : Int) (by omega) (by omega)
          have hce : wr.cell? ⟨gg, j, none⟩ = some (.slice Au nu cu) := by
            have hcs : cs = [Value.slice Au nu cu] := by
              have h2 : (us.map fun u => [u]).getD (j : Int).toNat [] = cs := hM.1.symm
              rw [← h2, Int.toNat_natCast, List.getD_eq_getElem?_getD, List.getElem?_map, hu]
              rfl
            rw [hcs] at hcc
            have h9 := hcc 0 _ rfl
            rw [Int.toNat_natCast, show j * (Kd.raw 1).sz + 0 = j from by show j * 1 + 0 = j; omega] at h9
            exact h9
          have KSP := Aside0.mk (spoil_T Au nu cu xu _ _ wr hru)
          have HWI : Aside0 (wrap64 ((j : Int) + 1) = ((j + 1 : Nat) : Int)) := ⟨by unfold wrap64; omega⟩
          have HRU := Aside0.mk hru
          have HNU := Aside0.mk hnu
          have HU := Aside0.mk hu
          clear hju hu hru hnu hcl hM hcc hfz
          go_wp2_with (fail)
          refine KSP.out.mono ?_
          rintro e w9 ⟨rfl, ho9⟩
          have HX9 : Aside0 (LX w w9 g l (Dk.one 1 (img l0 l1) (n0 + 9) 1048576) (ws 1 (img l0 l1).length l0 l1) (fun k => w6.heap.size ≤ k ∧ k < w7.heap.size)) := ⟨HX8.out.spoiled ho9 (fun k hk => by
            have a1 := Kd.R_base HRU.out k hk
            have a2 := Kd.R_lt HRU.out k hk
            have a3 := HS8.out
            have a4 := HLW.out
            exact ⟨⟨a1, by omega⟩, by omega⟩)⟩
          have HS9 : Aside0 (w9.heap.size = w7.heap.size) := ⟨ho9.1.trans HS8.out⟩
          have HR9 := Aside0.mk (Kd.R_step HR8.out (fun k hk _ => ho9.2.2 k (fun e => HNU.out k e hk.symm)))
          have HE9 : Aside0 (∀ i u, j + 1 ≤ i → us[i]? = some u → ∃ A n c x, u = .slice A n c ∧ Kd.R kB 5 w9 w6.heap.size (fun k => some k = u.ownBlock) u x ∧ ∀ k, u.ownBlock = some k → (Value.slice (some ⟨gg, 0, none⟩) n1 c7).ownBlock ≠ some k) := ⟨fun i u hi hu => by
            obtain ⟨A, n, c, x, h1, h2, h3⟩ := HE8.out i u (by omega) hu
            refine ⟨A, n, c, x, h1, Kd.R_step h2 (fun k hk _ => ho9.2.2 k (fun e => ?_)), h3⟩
            obtain ⟨hj1, hj2⟩ := List.getElem?_eq_some_iff.1 HU.out
            obtain ⟨hi1, hi2⟩ := List.getElem?_eq_some_iff.1 hu
            have hp := List.pairwise_iff_getElem.1 HPW.out j i hj1 hi1 (by omega)
            rw [hj2, hi2] at hp
            exact hp k e hk.symm⟩
          clear KSP ho9 HX8 HS8 HR8 HE8 hce
          go_wp2
          go_roundg (gk - 1)
          case measure => omega
          case rel => exact ⟨j + 1, (by first | exact congrArg _ HWI.out | rfl | (congr 1; go_num)), by omega, HX9, HS9, HR9, HE9⟩
        · have e2 : decide (j < n1) = false := decide_eq_false hj
          have HL9 := Aside0.mk HX8.out.ll
          have hrs : ∀ r ∈ l1, B r ∧ r.length ≤ 65535 := fun r hr => ⟨HBB.out r hr, Nat.le_trans (HJ3.out r hr) (by decide)⟩
          have KO2 := Aside0.mk (Open_L HL9.out.lw (fun p hp => by
            have hp2 : p = (1, (img l0 l1, n0 + 9)) := List.mem_singleton.1 hp
            rw [hp2]
            exact B_img HB0.out (fun r hr => HBB.out r hr)) (open_img 1 l0 l1 (n0 + 9) 1048576 (by omega) HB0.out (by rw [HN0.out]; omega) hrs) rfl)
          clear hj hrs HX8 HS8 HR8 HE8
          go_wp2_with (fail)
          refine KO2.out.mono ?_
          rintro e w9 ⟨l2, rfl, h9⟩
          have H9 : Aside0 (LL w w9 g l2 (Dk.one 1 (img l0 l1) (img l0 l1).length 1048576) (ws 1 (img l0 l1).length l0 l1)) := ⟨h9⟩
          have KB := Aside0.mk (Base_L H9.out (b := l0) rfl (by rw [HN0.out]; omega))
          clear KO2 h9 HL9
          go_wp2_with (fail)
          refine KB.out.mono ?_
          rintro e w10 ⟨v10, rfl, hv10, hb⟩
          obtain ⟨A10, c10, rfl⟩ := Kd.R_slice hv10
          have H10 := Aside0.mk (H9.out.below hb)
          have r10 := Kd.R_reads' hv10
          have KE := same_T A10 A0 c10 c0 l0 l0 w10 r10.2.2 r10.2.1 (Kd.C_below HC00.out H10.out.from) HL0.out (by rw [HN0.out]; omega)
          rw [HN0.out, decide_eq_true (rfl : l0 = l0)] at KE
          have KE := Aside0.mk KE
          rw [HN0.out]
          clear hv10 hb KB H9 r10
          go_wp2_with (fail)
          refine KE.out.mono ?_
          rintro e w11 ⟨rfl, hb⟩
          have H11 := Aside0.mk (H10.out.below hb)
          have KR := Aside0.mk (Records_L H11.out (rs := l1) rfl (fun r hr => Nat.le_trans (HJ3.out r hr) (by decide)) (by rw [HN1.out]; omega))
          clear hb KE H10
          go_wp2_with (fail)
          refine KR.out.mono ?_
          rintro e w12 ⟨v12, rfl, hv12, hb⟩
          obtain ⟨A12, c12, rfl⟩ := Kd.N_slice hv12
          have H12 := Aside0.mk (H11.out.below hb)
          have r12 := Kd.N_reads' hv12
          have KE := sames_T A12 A1 c12 c1 l1 l1 w12 r12.2.2 r12.2.1 (Kd.C_below HC1.out H12.out.from) HL1.out (by rw [HN1.out]; omega) (fun x hx => Nat.le_trans (HJ3.out x hx) (by decide))
          rw [HN1.out, decide_eq_true (rfl : l1 = l1)] at KE
          have KE := Aside0.mk KE
          rw [HN1.out]
          clear hv12 hb KR H11 r12
          go_wp2_with (fail)
          refine KE.out.mono ?_
          rintro e w13 ⟨rfl, hb⟩
          have H13 := Aside0.mk (H12.out.below hb)
          clear hb KE H12
          go_wp2
          go_ret
          exact ⟨rfl, H13.out.from⟩
def byteL (l : List Int) : Bool := l.all fun x => decide (0 ≤ x ∧ x < 256)
theorem byteL_B {l : List Int} (h : byteL l = true) : B l := fun x hx => by
  have := List.all_eq_true.1 h x hx
  simp only [decide_eq_true_eq] at this
  exact this
def byteRs (l : List (List Int)) : Bool := l.all byteL
theorem byteRs_B {l : List (List Int)} (h : byteRs l = true) : ∀ b ∈ l, B b := fun b hb => byteL_B (List.all_eq_true.1 h b hb)
def slipwaylaw14_WalOwn.f (_k : Nat) (l0 : List Int) (l1 : List (List Int)) : Option Bool := if (byteL l0 && byteRs l1) = true then some true else none
theorem slipwaylaw14_WalOwn.calls (k : Nat) (A0 : Option Addr) (c0 : Nat) (l0 : List Int) (A1 : Option Addr) (c1 : Nat) (l1 : List (List Int)) (r : Bool) (w : World) (hr0 : Kd.C kB w A0 l0.length l0) (hc0 : l0.length ≤ c0) (hr1 : Kd.C kBs w A1 l1.length l1) (hc1 : l1.length ≤ c1) (h : slipwaylaw14_WalOwn.f k l0 l1 = some r) :
    Calls Try.prog 10 #[.slice A0 l0.length c0, .slice A1 l1.length c1] w fun e w' => e = .returned (.bool r) ∧ Below w.heap.size w w' := by
  unfold slipwaylaw14_WalOwn.f at h
  split at h
  · rename_i hq
    obtain rfl := Option.some.inj h
    rw [Bool.and_eq_true] at hq
    by_cases q : l0.length ≤ 300 ∧ l1.length ≤ 20
    · exact WalOwn_main l0 l1 A0 A1 c0 c1 w hr0 hc0 hr1 hc1 (byteL_B hq.1) (byteRs_B hq.2) q.1 q.2
    · exact WalOwn_big l0 l1 A0 A1 c0 c1 w q
  · cases h
end Go.Proofs.Ytoimpjmoikjibaa.Wl
namespace Go.Proofs.Ytoimpjmoikjibaa.Pure
open Go Go.Proofs.Ytoimpjmoikjibaa.Wl Go.Proofs.Ytoimpjmoikjibaa.Read
set_option linter.unusedVariables false
theorem byteL_good {l : List Int} (g : goodList (fun x => (Lit.int .u8 x).wf = true) l) : byteL l = true := List.all_eq_true.2 fun x hx => by
  have h := g.2 x hx
  simp only [Lit.wf, decide_eq_true_eq, Bool.and_eq_true] at h
  rw [show IntKind.u8.min = 0 from rfl, show IntKind.u8.max = 255 from rfl] at h
  exact decide_eq_true (by omega)
theorem WalOwn (l0 : List Int) (g0 : goodList (fun x => (Lit.int .u8 x).wf = true) l0) (l1 : List (List Int)) (g1 : goodList (goodList (fun x => (Lit.int .u8 x).wf = true)) l1) : ∃ k, slipwaylaw14_WalOwn.f k l0 l1 = some true :=
  ⟨0, if_pos (by rw [byteL_good g0, show byteRs l1 = true from List.all_eq_true.2 fun b hb => byteL_good (g1.2 b hb)]; rfl)⟩
end Go.Proofs.Ytoimpjmoikjibaa.Pure
