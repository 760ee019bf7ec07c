/- The log's told and Sync, walked. -/
import Derived.Test.YtoimpjmoikjibaaWlM
import Derived.Test.YtoimpjmoikjibaaSgPart
namespace Go.Proofs.Ytoimpjmoikjibaa.Wl
open Go Go.RowKit Go.Proofs.Ytoimpjmoikjibaa.IMap Go.Proofs.Ytoimpjmoikjibaa.Pure Go.Proofs.Ytoimpjmoikjibaa.P Go.Proofs.Ytoimpjmoikjibaa.Dk Go.Proofs.YtoimpjmoikjibaaW.PrintWords Go.Proofs.YtoimpjmoikjibaaW.PrintLast Go.Proofs.YtoimpjmoikjibaaW.PrintMore
set_option linter.unusedVariables false
set_option linter.unusedSimpArgs false
section
variable {w : World} {g l : Nat} {T : Nat → Prop} {s : DS} {t : WS}
theorem box1 {w : World} {l T : Nat} {a0 a1 a2 a3 a4 a5 b5 : Value} (h : w.heap[l]? = some (.cells #[a0, a1, a2, a3, a4, a5] T (0, 0))) : (w.setCell ⟨l, 5, none⟩ b5).heap[l]? = some (.cells #[a0, a1, a2, a3, a4, b5] T (0, 0)) := box_set h b5
set_option maxHeartbeats 4000000 in
set_option maxRecDepth 100000 in
theorem told_T {S U : Nat → Prop} {vb vr : Value} (h : LgI w g l S U s t vb vr) (z : Int) :
    Calls Try.prog 60 #[.pointer (some ⟨l, 0, none⟩), .int .i64 z] w fun e w' => e = .returned (.int .i64 z) ∧ LgI w' g l S U s (told t z) vb vr ∧ At1 l w w' := by
  have HI := Aside0.mk h
  have q5 := h.c5
  have f5 := h.fz 5
  obtain ⟨nm, sz, ba, re, cl⟩ := t
  dsimp only at q5
  have fin : ∀ x : Bool, x = (cl || z == 51) → LgI (w.setCell ⟨l, 5, none⟩ (.bool x)) g l S U s (told ⟨nm, sz, ba, re, cl⟩ z) vb vr ∧ At1 l w (w.setCell ⟨l, 5, none⟩ (.bool x)) := fun x hx => by
    have hA := At1.set w l 5 (.bool x)
    refine ⟨HI.out.set hA (t1 := told ⟨nm, sz, ba, re, cl⟩ z) (box1 HI.out.lc |>.trans ?_) HI.out.us HI.out.ub HI.out.base HI.out.recs, hA⟩
    unfold logv told
    rw [hx]
  have FIN := Aside0.mk fin
  clear h fin
  cases cl with
  | true =>
    go_enter Try.func60, Try.ntmps60
    go_wp2
    go_ret
    exact ⟨rfl, FIN.out true rfl⟩
  | false =>
    obtain ⟨x, hx⟩ : ∃ x, (z == 51) = x := ⟨_, rfl⟩
    go_enter Try.func60, Try.ntmps60
    cases x with
    | true =>
      go_wp2
      go_ret
      exact ⟨rfl, FIN.out true (by rw [hx]; rfl)⟩
    | false =>
      go_wp2
      go_ret
      exact ⟨rfl, FIN.out false (by rw [hx]; rfl)⟩
set_option maxHeartbeats 4000000 in
set_option maxRecDepth 100000 in
theorem lsync_T (h : Lg w g l T s t) : Calls Try.prog 42 #[.pointer (some ⟨l, 0, none⟩)] w (LTurned w g l T (synL s t)) := by
  obtain ⟨S, U, vb, vr, hI, hS, hU, hl, hT⟩ := h
  have HI := Aside0.mk hI
  have HS := Aside0.mk hS
  have HU := Aside0.mk hU
  have HL := Aside0.mk hl
  have HT := Aside0.mk hT
  obtain ⟨r, hr⟩ : ∃ r, synL s t = r := ⟨_, rfl⟩
  rw [hr]
  have HR := Aside0.mk hr
  obtain ⟨cl, hcl⟩ : ∃ c, t.closed = c := ⟨_, rfl⟩
  have HCL := Aside0.mk hcl
  have q5 := hI.c5
  rw [hcl] at q5
  cases cl with
  | true =>
    clear hI hS hU hl hT hr hcl
    go_enter Try.func42, Try.ntmps42
    go_wp2
    go_ret
    have hrr : synL s t = (74, s, t) := by unfold synL; rw [if_pos HCL.out]
    rw [← HR.out, hrr]
    exact ⟨rfl, Lg.of HI.out (fun q hq => .inl (HS.out q hq)) (fun q hq => .inl (HU.out q hq)) (.inl HL.out) HT.out (Nat.le_refl _), Chg.refl _ _⟩
  | false =>
    have hI1 := hI.below (below_drew (Below.refl w.heap.size w))
    have HI1 := Aside0.mk hI1
    have q0 := hI.c0
    have q1 := hI.c1
    obtain ⟨nm, hnm⟩ : ∃ n, t.name = n := ⟨_, rfl⟩
    have KS := Aside0.mk (Sync_T w.drew g S s nm hI1.dk)
    obtain ⟨y, hy⟩ : ∃ y, syn s nm = y := ⟨_, rfl⟩
    rw [hy] at KS
    rw [hnm] at q1
    have HY := Aside0.mk hy
    have HNM := Aside0.mk hnm
    clear hI hS hU hl hT hr hcl hI1 hy hnm
    go_enter Try.func42, Try.ntmps42
    go_wp2_with (fail)
    go_region_law (first
      | (go_simp; go_at_call 17; go_must (refine KS.out.mono ?_; rintro e w2 ⟨rfl, hd, hc⟩; have HI2 := Aside0.mk (HI1.out.dock hd hc); have HC2 := Aside0.mk hc; have KT := Aside0.mk (told_T HI2.out y.1); clear hd hc))
      | (go_simp; go_at_call 60; go_must (refine KT.out.mono ?_; rintro e w3 ⟨rfl, hi, ha⟩; have HI3 := Aside0.mk hi; have HA3 := Aside0.mk ha; clear hi ha)))
    all_goals go_wp2
    all_goals go_ret
    all_goals (
      have hrr : synL s t = (y.1, y.2, told t y.1) := by unfold synL; rw [if_neg (by rw [HCL.out]; decide), HNM.out, HY.out]
      rw [← HR.out, hrr]
      have h1 : Chg S w w2 := Chg.trans (Chg.ofBelow (below_drew (Below.refl w.heap.size w))) HC2.out
      have h2 : Chg T w w3 := Chg.frm (Chg.mono h1 HS.out) (HA3.out.chg (S := fun k => k = l) rfl) (fun k e => .inl (e ▸ HL.out))
      have hw3 := HA3.out.2.1
      exact ⟨rfl, Lg.of HI3.out (Fr.grow (Fr.up (fun q hq => .inl (HS.out q hq) : ∀ q, S q → Fr T w w.drew q) (Nat.le_refl _) HC2.out.1.size) (by omega)) (fun q hq => .inl (HU.out q hq)) (.inl HL.out) HT.out h2.1.size, h2⟩)
end
end Go.Proofs.Ytoimpjmoikjibaa.Wl
namespace Go.Proofs.Ytoimpjmoikjibaa.Wl
open Go Go.RowKit Go.Proofs.Ytoimpjmoikjibaa.IMap Go.Proofs.Ytoimpjmoikjibaa.Pure Go.Proofs.Ytoimpjmoikjibaa.P Go.Proofs.Ytoimpjmoikjibaa.Dk Go.Proofs.YtoimpjmoikjibaaW.PrintWords Go.Proofs.YtoimpjmoikjibaaW.PrintLast Go.Proofs.YtoimpjmoikjibaaW.PrintMore
set_option linter.unusedVariables false
set_option linter.unusedSimpArgs false
theorem told_zero (t : WS) : told t 0 = t := by
  obtain ⟨nm, sz, ba, re, cl⟩ := t
  unfold told
  cases cl <;> rfl
section
variable {w : World} {g l : Nat} {T : Nat → Prop} {s : DS} {t : WS}
set_option maxHeartbeats 8000000 in
set_option maxRecDepth 100000 in
theorem lapp_T (h : Lg w g l T s t) (A : Option Addr) (c : Nat) (b : List Int) (hA : Arg w T A c b) (hB : B b) (hm : b.length ≤ 100000000) (hrl : t.recs.length ≤ 1000000) (hsz : 0 ≤ t.size ∧ t.size ≤ 1000000000) :
    Calls Try.prog 39 #[.pointer (some ⟨l, 0, none⟩), .slice A b.length c] w (LTurned w g l T (appL s t b)) := by
  obtain ⟨S, U, vb, vr, hI, hS, hU, hl, hT⟩ := h
  have KF := Aside0.mk (framed_T 1 A c b w hA.c.1 hA.c.2 (by decide) hB (by omega))
  have HI := Aside0.mk hI
  have HA := Aside0.mk hA
  have HS := Aside0.mk hS
  have HU := Aside0.mk hU
  have HL := Aside0.mk hl
  have HT := Aside0.mk hT
  have HM := Aside0.mk hm
  have HRC := Aside0.mk hrl
  have HSZB := Aside0.mk hsz
  obtain ⟨r, hr⟩ : ∃ r, appL s t b = r := ⟨_, rfl⟩
  rw [hr]
  have HR := Aside0.mk hr
  obtain ⟨nb, hnb⟩ : ∃ n, b.length = n := ⟨_, rfl⟩
  have HNB := Aside0.mk hnb
  obtain ⟨cl, hcl⟩ : ∃ c, t.closed = c := ⟨_, rfl⟩
  have HCL := Aside0.mk hcl
  rw [hnb] at KF ⊢
  clear hI hA hB hm hS hU hl hT hr hcl hrl hsz
  go_enter Try.func39, Try.ntmps39
  go_wp2_with (fail)
  refine KF.out.mono ?_
  rintro e w1 ⟨v, rfl, hv, hb⟩
  have HB1 := Aside0.mk hb
  have HI1 := Aside0.mk (HI.out.below hb)
  have q5 := HI1.out.c5
  rw [HCL.out] at q5
  cases cl with
  | true =>
    obtain ⟨A1, c1, rfl⟩ := Kd.R_slice hv
    obtain ⟨dd, hdd⟩ : ∃ d, decide (nb ≤ 65535) = d := ⟨_, rfl⟩
    obtain ⟨nn, hnn⟩ : ∃ n, (if nb ≤ 65535 then frame (1 :: b) else []).length = n := ⟨_, rfl⟩
    rw [hdd, hnn]
    clear KF hb hv hdd hnn
    go_wp2
    go_ret
    have hrr : appL s t b = (74, s, t) := by unfold appL; rw [if_pos HCL.out]
    rw [← HR.out, hrr]
    exact ⟨rfl, Lg.of HI1.out (fun q hq => .inl (HS.out q hq)) (fun q hq => .inl (HU.out q hq)) (.inl HL.out) HT.out HB1.out.size, Chg.ofBelow HB1.out⟩
  | false =>
    by_cases hbig : nb ≤ 65535
    · rw [decide_eq_true hbig]
      rw [if_pos hbig] at hv
      obtain ⟨fr, hfr⟩ : ∃ f, frame (1 :: b) = f := ⟨_, rfl⟩
      rw [hfr] at hv
      have hfl : fr.length = nb + 9 := by rw [← hfr, frame_len]; simp only [List.length_cons]; omega
      obtain ⟨A1, c1, rfl⟩ := Kd.R_slice hv
      have hI1 := HI1.out.below (below_drew (Below.refl w1.heap.size w1))
      have HI1D := Aside0.mk hI1
      have q0 := HI1.out.c0
      have q1 := HI1.out.c1
      obtain ⟨nm, hnm⟩ : ∃ n, t.name = n := ⟨_, rfl⟩
      rw [hnm] at q1
      have KA := Aside0.mk (Append_T w1.drew g S s nm A1 c1 fr hI1.dk (Kd.C_drew (Kd.R_reads' hv).2.2) (by omega))
      have HFR0 := Aside0.mk hfr
      have HNM := Aside0.mk hnm
      obtain ⟨nf, hnf⟩ : ∃ n, fr.length = n := ⟨_, rfl⟩
      rw [hnf] at KA hfl ⊢
      have HFL := Aside0.mk hfl
      obtain ⟨a1, ha1⟩ : ∃ x, app s nm fr = x := ⟨_, rfl⟩
      rw [ha1] at KA
      have HA1 := Aside0.mk ha1
      have HNF : Aside0 (nf = nb + 9) := ⟨hfl⟩
      have hnb9 : nb ≤ 65535 := hbig
      clear KF hb hv hfr hnf ha1 hfl hI1 hnm
      go_wp2_with (fail)
      go_region_law (first
        | (go_simp; go_at_call 16; go_must (refine KA.out.mono ?_; rintro e w2 ⟨rfl, hd, hc⟩; have HI2 := Aside0.mk (HI1D.out.dock hd hc); have HC2 := Aside0.mk hc; have KT := Aside0.mk (told_T HI2.out a1.1); clear hd hc))
        | (go_simp; go_at_call 60; go_must (refine KT.out.mono ?_; rintro e w3 ⟨rfl, hi, ha⟩; have HI3 := Aside0.mk hi; have HA3 := Aside0.mk ha; clear hi ha)))
      all_goals (
        have h1 : Chg S w w2 := Chg.trans (Chg.ofBelow HB1.out) (Chg.trans (Chg.ofBelow (below_drew (Below.refl w1.heap.size w1))) HC2.out)
        have h2 : Chg T w w3 := Chg.frm (Chg.mono h1 HS.out) (HA3.out.chg (S := fun k => k = l) rfl) (fun k e => .inl (e ▸ HL.out))
        have HCC := Aside0.mk h2
        have HS3 := Aside0.mk (Fr.grow (Fr.up (fun q hq => .inl (HS.out q hq) : ∀ q, S q → Fr T w w1.drew q) HB1.out.size HC2.out.1.size) (Nat.le_of_eq HA3.out.2.1.symm))
        clear h1 h2 KA KT q0 q1 q5)
      all_goals (by_cases z1 : a1.1 = 0)
      all_goals first
        | (rw [z1]
           have HZ1 := Aside0.mk z1
           have HI3' := Aside0.mk HI3.out
           rw [z1, told_zero] at HI3'
           clear z1 HI3
           have HI3 := HI3'
           clear HI3'
           have HI4 := Aside0.mk (HI3.out.below (below_drew (Below.refl w3.heap.size w3)))
           have HAR := HA.out.move HCC.out
           have KC := Aside0.mk (Clone_T A c b w3.drew (Kd.C_drew HAR.c.1) HAR.c.2 (by have := HM.out; omega))
           rw [HNB.out] at KC
           obtain ⟨sz, hsz⟩ : ∃ x, t.size = x := ⟨_, rfl⟩
           have HSZE := Aside0.mk hsz
           have HSZ2 : Aside0 (w3.drew.cell? ⟨l, 2, none⟩ = some (.int .i64 sz)) := ⟨by rw [← hsz]; exact HI4.out.c2⟩
           have hszb : 0 ≤ sz ∧ sz ≤ 1000000000 := by rw [← hsz]; exact HSZB.out
           obtain ⟨hszb1, hszb2⟩ := hszb
           have hnf9 : nf ≤ 65544 := by have := HNF.out; omega
           have HRL : Aside0 ((t.recs.length + 1) * 24 ≤ 140737488355328) := ⟨by have := HRC.out; omega⟩
           clear HAR hsz
           go_upto_region 9 with (fail)
           refine Halt.out ?_)
        | (obtain ⟨z, hz⟩ : ∃ z, a1.1 = z := ⟨_, rfl⟩
           rw [hz] at z1 ⊢
           have e2 : (z != 0) = true := bne_iff_ne.2 z1
           have HZ1 := Aside0.mk z1
           have HZZ := Aside0.mk hz
           clear z1 hz
           go_wp2
           go_ret
           have hrr : appL s t b = (z, a1.2, told t z) := by
             unfold appL
             rw [if_neg (by rw [HCL.out]; decide), if_neg (by rw [HNB.out]; omega), HNM.out, HFR0.out, HA1.out, if_pos (by rw [HZZ.out]; exact HZ1.out), HZZ.out]
           rw [← HR.out, hrr]
           rw [HZZ.out] at HI3
           exact ⟨rfl, Lg.of HI3.out HS3.out (fun q hq => .inl (HU.out q hq)) (.inl HL.out) HT.out HCC.out.1.size, HCC.out⟩)
      all_goals (unfold Halt)
      all_goals (
        go_cut [] (fun wx => Aside0 (Lg wx g l (Fr T w wx) a1.2 { t with recs := t.recs ++ [b], size := t.size + ((nb + 9 : Nat) : Int) }) ∧ Aside0 (Chg T w wx))
        case first =>
          refine Sg.wp_region_part (S := fun w' => w'.cell? ⟨l, 2, none⟩ = some (.int .i64 sz)) 20 (by kernel_rfl) (by kernel_rfl) HSZ2.out (fun hHeld => ?_)
          simp only [List.take_succ_cons, List.take_zero]
          refine wpAnyH_take (i := 0) (oi := { dst := _, op := _, type := _, pos := _, after := _, guard := _ }) (v := ?_) rfl (by kernel_rfl) (by kernel_rfl) (by kernel_rfl) (fun _ _ _ h => h) (Or.inl ⟨by rfl, ?_⟩) (by assumption) ?_
          rotate_left
          · (intro wq hSw; (try dsimp only at hSw); go_simp <;> with_reducible rfl)
          (try simp only [Act.put, List.setIfInBounds_toArray, List.set_cons_zero, List.set_cons_succ])
          refine wpAnyH_take (i := 1) (oi := { dst := _, op := _, type := _, pos := _, after := _, guard := _ }) (v := ?_) rfl (by kernel_rfl) (by kernel_rfl) (by kernel_rfl) (fun _ _ _ h => h) (Or.inl ⟨by rfl, ?_⟩) (by assumption) ?_
          rotate_left
          · (intro wq hSw; (try dsimp only at hSw); go_simp <;> with_reducible rfl)
          (try simp only [Act.put, List.setIfInBounds_toArray, List.set_cons_zero, List.set_cons_succ])
          refine wpAnyH_take (i := 2) (oi := { dst := _, op := _, type := _, pos := _, after := _, guard := _ }) (v := ?_) rfl (by kernel_rfl) (by kernel_rfl) (by kernel_rfl) (fun _ _ _ h => h) (Or.inl ⟨by rfl, ?_⟩) (by assumption) ?_
          rotate_left
          · (intro wq hSw; (try dsimp only at hSw); go_simp <;> with_reducible rfl)
          (try simp only [Act.put, List.setIfInBounds_toArray, List.set_cons_zero, List.set_cons_succ])
          refine wpAnyH_take (i := 3) (oi := { dst := _, op := _, type := _, pos := _, after := _, guard := _ }) (v := ?_) rfl (by kernel_rfl) (by kernel_rfl) (by kernel_rfl) (fun _ _ _ h => h) (Or.inl ⟨by rfl, ?_⟩) (by assumption) ?_
          rotate_left
          · (intro wq hSw; (try dsimp only at hSw); go_simp <;> with_reducible rfl)
          (try simp only [Act.put, List.setIfInBounds_toArray, List.set_cons_zero, List.set_cons_succ])
          refine wpAnyH_take (i := 4) (oi := { dst := _, op := _, type := _, pos := _, after := _, guard := _ }) (v := ?_) rfl (by kernel_rfl) (by kernel_rfl) (by kernel_rfl) (fun _ _ _ h => h) (Or.inl ⟨by rfl, ?_⟩) (by assumption) ?_
          rotate_left
          · (intro wq hSw; (try dsimp only at hSw); go_simp <;> with_reducible rfl)
          (try simp only [Act.put, List.setIfInBounds_toArray, List.set_cons_zero, List.set_cons_succ])
          refine wpAnyH_take (i := 6) (oi := { dst := _, op := _, type := _, pos := _, after := _, guard := _ }) (v := ?_) rfl (by kernel_rfl) (by kernel_rfl) (by kernel_rfl) (fun _ _ _ h => h) (Or.inl ⟨by rfl, ?_⟩) (by assumption) ?_
          rotate_left
          · (intro wq hSw; (try dsimp only at hSw); go_simp <;> with_reducible rfl)
          (try simp only [Act.put, List.setIfInBounds_toArray, List.set_cons_zero, List.set_cons_succ])
          refine wpAnyH_take (i := 10) (oi := { dst := _, op := _, type := _, pos := _, after := _, guard := _ }) (v := ?_) rfl (by kernel_rfl) (by kernel_rfl) (by kernel_rfl) (fun _ _ _ h => h) (Or.inl ⟨by rfl, ?_⟩) (by assumption) ?_
          rotate_left
          · (intro wq hSw; (try dsimp only at hSw); go_simp <;> with_reducible rfl)
          (try simp only [Act.put, List.setIfInBounds_toArray, List.set_cons_zero, List.set_cons_succ])
          refine wpAnyH_take (i := 11) (oi := { dst := _, op := _, type := _, pos := _, after := _, guard := _ }) (v := ?_) rfl (by kernel_rfl) (by kernel_rfl) (by kernel_rfl) (fun _ _ _ h => h) (Or.inl ⟨by rfl, ?_⟩) (by assumption) ?_
          rotate_left
          · (intro wq hSw; (try dsimp only at hSw); go_simp <;> with_reducible rfl)
          (try simp only [Act.put, List.setIfInBounds_toArray, List.set_cons_zero, List.set_cons_succ])
          refine wpAnyH_take (i := 12) (oi := { dst := _, op := _, type := _, pos := _, after := _, guard := _ }) (v := ?_) rfl (by kernel_rfl) (by kernel_rfl) (by kernel_rfl) (fun _ _ _ h => h) (Or.inl ⟨by rfl, ?_⟩) (by assumption) ?_
          rotate_left
          · (intro wq hSw; (try dsimp only at hSw); go_simp <;> with_reducible rfl)
          (try simp only [Act.put, List.setIfInBounds_toArray, List.set_cons_zero, List.set_cons_succ])
          refine wpAnyH_take (i := 13) (oi := { dst := _, op := _, type := _, pos := _, after := _, guard := _ }) (v := ?_) rfl (by kernel_rfl) (by kernel_rfl) (by kernel_rfl) (fun _ _ _ h => h) (Or.inl ⟨by rfl, ?_⟩) (by assumption) ?_
          rotate_left
          · (intro wq hSw; (try dsimp only at hSw); go_simp <;> with_reducible rfl)
          (try simp only [Act.put, List.setIfInBounds_toArray, List.set_cons_zero, List.set_cons_succ])
          refine wpAnyH_take (i := 14) (oi := { dst := _, op := _, type := _, pos := _, after := _, guard := _ }) (v := ?_) rfl (by kernel_rfl) (by kernel_rfl) (by kernel_rfl) (fun _ _ _ h => h) (Or.inl ⟨by rfl, ?_⟩) (by assumption) ?_
          rotate_left
          · (intro wq hSw; (try dsimp only at hSw); go_simp <;> with_reducible rfl)
          (try simp only [Act.put, List.setIfInBounds_toArray, List.set_cons_zero, List.set_cons_succ])
          refine wpAnyH_take (i := 15) (oi := { dst := _, op := _, type := _, pos := _, after := _, guard := _ }) (v := ?_) rfl (by kernel_rfl) (by kernel_rfl) (by kernel_rfl) (fun _ _ _ h => h) (Or.inl ⟨by rfl, ?_⟩) (by assumption) ?_
          rotate_left
          · (intro wq hSw; (try dsimp only at hSw); go_simp <;> with_reducible rfl)
          (try simp only [Act.put, List.setIfInBounds_toArray, List.set_cons_zero, List.set_cons_succ])
          refine wpAnyH_take (i := 16) (oi := { dst := _, op := _, type := _, pos := _, after := _, guard := _ }) (v := ?_) rfl (by kernel_rfl) (by kernel_rfl) (by kernel_rfl) (fun _ _ _ h => h) (Or.inl ⟨by rfl, ?_⟩) (by assumption) ?_
          rotate_left
          · (intro wq hSw; (try dsimp only at hSw); go_simp <;> with_reducible rfl)
          (try simp only [Act.put, List.setIfInBounds_toArray, List.set_cons_zero, List.set_cons_succ])
          refine wpAnyH_ready (rs := [5, 7]) (by kernel_rfl) (by simp) ?_
          refine AllReadyH.cons (o := { dst := _, op := _, type := _, pos := _, after := _, guard := _ }) rfl (fun K hK => ?_) ?_
          rotate_left
          refine AllReadyH.cons (o := { dst := _, op := _, type := _, pos := _, after := _, guard := _ }) rfl (fun K hK => ?_) AllReadyH.nil
          rotate_left
          · --
            have q4 := HI4.out.c4
            go_simp
            refine hK.out _ _ (HI4.out.c2.trans (by rw [HSZE.out])) (fun hHeld => ?_)
            clear hK K q4
            (try simp only [Act.put, List.setIfInBounds_toArray, List.set_cons_zero, List.set_cons_succ])
            refine wpAnyH_ready (rs := [7]) (by kernel_rfl) (by simp) ?_
            refine AllReadyH.cons (o := { dst := _, op := _, type := _, pos := _, after := _, guard := _ }) rfl (fun K hK => ?_) ?_
            rotate_left
            · exact AllReadyH.nil
            go_simp
            go_at_call 48
            refine KC.out.mono ?_
            rintro e w5 ⟨v5, rfl, hv5, hb5⟩
            obtain ⟨A5, c5, rfl⟩ := Kd.R_slice hv5
            rw [HNB.out]
            have HI5 := Aside0.mk (HI4.out.below hb5)
            have HB5 := Aside0.mk hb5
            have HV5 := Aside0.mk (show Kd.R kB 5 w5 w3.drew.heap.size (fun _ => True) (.slice A5 nb c5) b by rw [HNB.out] at hv5; exact hv5)
            clear hv5 hb5 hHeld
            refine hK.out _ _ (HI5.out.c2.trans (by rw [HSZE.out])) (fun hHeld => ?_)
            clear hK K
            (try simp only [Act.put, List.setIfInBounds_toArray, List.set_cons_zero, List.set_cons_succ])
            refine wpAnyH_ready (rs := [8]) (by kernel_rfl) (by simp) ?_
            refine AllReadyH.cons (o := { dst := _, op := _, type := _, pos := _, after := _, guard := _ }) rfl (fun K hK => ?_) ?_
            rotate_left
            · exact AllReadyH.nil
            go_simp
            refine hK.out _ _ ((HI5.out.below (below_alloc (Below.refl _ _) (.cells #[.slice A5 nb c5] 22))).c2.trans (by rw [HSZE.out])) (fun hHeld => ?_)
            clear hK K
            (try simp only [Act.put, List.setIfInBounds_toArray, List.set_cons_zero, List.set_cons_succ])
            refine wpAnyH_ready (rs := [9]) (by kernel_rfl) (by simp) ?_
            refine AllReadyH.cons (o := { dst := _, op := _, type := _, pos := _, after := _, guard := _ }) rfl (fun K hK => ?_) ?_
            rotate_left
            · exact AllReadyH.nil
            have HOP : Aside0 (Kd.FK kBs w5 (fun k => (U k ∨ w3.heap.size ≤ k) ∧ some k ≠ vr.ownBlock) b [.slice A5 nb c5]) := ⟨by
              have hlt := HI3.out.ub
              have h1 := Kd.V_mono (ok' := fun k => (U k ∨ w3.heap.size ≤ k) ∧ some k ≠ vr.ownBlock) (Kd.R_V (base' := 0) (Kd.R_reok rfl HV5.out (ok := fun k => w3.heap.size ≤ k) (fun k hk => Kd.R_base HV5.out k hk))) (fun k hk => ⟨.inr hk, fun e => by have := Kd.N_lt HI3.out.recs k e.symm; omega⟩)
              have h2 := (Kd.V_reads' h1).2.1
              have h3 := Kd.V_F h1
              have h4 : nb = b.length := HNB.out.symm
              subst h4
              exact Kd.FK_slice_mk h2 h3⟩
            have HNR := Aside0.mk (Kd.N_mono (ok' := fun k => U k ∨ w3.heap.size ≤ k) HI5.out.recs (fun k hk => .inl hk))
            have HFR : Aside0 (∀ k, w5.heap.size ≤ k → U k ∨ w3.heap.size ≤ k) := ⟨fun k hk => .inr (Nat.le_trans HB5.out.size hk)⟩
            refine Kd.N_append_step kBs (w0 := w5) 0 (by simp [Region.wanted]) (.tmp 41) (.tmp 44) 57 22 (.slice none 0 0) 24 rfl Try.underlying57 infoBS rfl (by decide) (by decide) vr t.recs b [.slice A5 nb c5] (fun k => U k ∨ w3.heap.size ≤ k) (fun k => (U k ∨ w3.heap.size ≤ k) ∧ some k ≠ vr.ownBlock) (by simp [Act.eval, Act.put]) (by simp [Act.eval, Act.put]) HOP.out (fun _ hk => hk) HFR.out HNR.out (Below.refl _ _) (Nat.zero_le _) HRL.out ?_
            intro v6 w6 hN hB6 hg hat
            obtain ⟨A6, c6, rfl⟩ := Kd.N_slice hN
            obtain ⟨n6, hn6⟩ : ∃ n, (t.recs ++ [b]).length = n := ⟨_, rfl⟩
            rw [hn6] at hN hat ⊢
            have HC6 := Aside0.mk (blk_grown HI5.out.lc hg HI5.out.row_ne.1)
            have HN6 := Aside0.mk hN
            have HG6 := Aside0.mk hg
            have HAT := Aside0.mk hat
            clear hN hB6 hg hat hHeld hn6
            refine hK.out _ _ (((blk_cell HC6.out) 2).trans (by rw [← HSZE.out]; rfl)) (fun hHeld => ?_)
            clear hK K
            (try simp only [Act.put, List.setIfInBounds_toArray, List.set_cons_zero, List.set_cons_succ])
            refine wpAnyH_take (i := 17) (oi := { dst := _, op := _, type := _, pos := _, after := _, guard := _ }) (v := ?_) rfl (by kernel_rfl) (by kernel_rfl) (by kernel_rfl) (fun _ _ _ h => h) (Or.inl ⟨by rfl, ?_⟩) (by assumption) ?_
            rotate_left
            · (intro wq hSw; (try dsimp only at hSw); go_simp <;> with_reducible rfl)
            (try simp only [Act.put, List.setIfInBounds_toArray, List.set_cons_zero, List.set_cons_succ])
            refine wpAnyH_take (i := 18) (oi := { dst := _, op := _, type := _, pos := _, after := _, guard := _ }) (v := ?_) rfl (by kernel_rfl) (by kernel_rfl) (by kernel_rfl) (fun _ _ _ h => h) (Or.inl ⟨by rfl, ?_⟩) (by assumption) ?_
            rotate_left
            · (intro wq hSw; (try dsimp only at hSw); go_simp <;> with_reducible rfl)
            (try simp only [Act.put, List.setIfInBounds_toArray, List.set_cons_zero, List.set_cons_succ])
            refine wpAnyH_ready (rs := [19]) (by kernel_rfl) (by simp) ?_
            refine AllReadyH.cons (o := { dst := _, op := _, type := _, pos := _, after := _, guard := _ }) rfl (fun K hK => ?_) ?_
            rotate_left
            · exact AllReadyH.nil
            have q4 : w6.cell? ⟨l, 4, none⟩ = some vr := (blk_cell HC6.out) 4
            have f4 := free_of HC6.out 4
            go_simp
            have HC7 := Aside0.mk (box_set (o := 4) HC6.out (.slice A6 n6 c6))
            refine hK.out _ _ (((blk_cell HC7.out) 2).trans (by rw [← HSZE.out]; rfl)) (fun hHeld => ?_)
            clear hK K q4 f4
            (try simp only [Act.put, List.setIfInBounds_toArray, List.set_cons_zero, List.set_cons_succ])
            have q2 : (w6.setCell ⟨l, 4, none⟩ (.slice A6 n6 c6)).cell? ⟨l, 2, none⟩ = some (.int .i64 sz) := ((blk_cell HC7.out) 2).trans (by rw [← HSZE.out]; rfl)
            have f2 := free_of HC7.out 2
            clear hHeld
            refine wpAnyH_done (by kernel_rfl) ?_ _
            refine Sg.Part.norm ?_
            simp only [List.drop_succ_cons, List.drop_zero]
            go_wp2_with (fail)
            go_meet
            case rel =>
              have hls : l < w3.heap.size := HI3.out.lt
              obtain ⟨hA, hC⟩ := HI5.out.app HG6.out HAT.out w3.heap.size HB5.out.size (fun k hk => HI3.out.sb k hk) hls HN6.out (sz + (nf : Int))
              have hc3 : Chg T w w5 := Chg.frm HCC.out (Chg.trans (Chg.ofBelow (S := fun _ => False) (below_drew (Below.refl w3.heap.size w3))) (Chg.ofBelow HB5.out)) (fun _ h => h.elim)
              have hcc := Chg.frm hc3 hC (fun k hk => by
                rcases hk with rfl | hk
                · exact .inl HL.out
                · exact .inl (HU.out k hk))
              have hwz : ((w6.setCell ⟨l, 4, none⟩ (.slice A6 n6 c6)).setCell ⟨l, 2, none⟩ (.int .i64 (sz + (nf : Int)))).heap.size = w6.heap.size := by simp
              have h56 : w5.heap.size ≤ w6.heap.size := HG6.out.size
              have h35 : w3.heap.size ≤ w5.heap.size := HB5.out.size
              refine ⟨⟨?_⟩, ⟨hcc⟩⟩
              have hA9 := Lg.of (w0 := w) (T := T) hA (Fr.grow HS3.out (by rw [hwz]; omega)) (fun q hq => by
                rcases hq.1 with hq1 | hq1
                · exact .inl (HU.out q hq1)
                · exact .inr ⟨by have := HCC.out.1.size; omega, by rw [hwz]; exact hq.2⟩) (.inl HL.out) HT.out hcc.1.size
              rw [HSZE.out, ← HNF.out]
              exact hA9
          · --
            go_simp
            go_at_call 48
            refine KC.out.mono ?_
            rintro e w5 ⟨v5, rfl, hv5, hb5⟩
            obtain ⟨A5, c5, rfl⟩ := Kd.R_slice hv5
            rw [HNB.out]
            have HI5 := Aside0.mk (HI4.out.below hb5)
            have HB5 := Aside0.mk hb5
            have HV5 := Aside0.mk (show Kd.R kB 5 w5 w3.drew.heap.size (fun _ => True) (.slice A5 nb c5) b by rw [HNB.out] at hv5; exact hv5)
            clear hv5 hb5 hHeld
            refine hK.out _ _ (HI5.out.c2.trans (by rw [HSZE.out])) (fun hHeld => ?_)
            clear hK K
            (try simp only [Act.put, List.setIfInBounds_toArray, List.set_cons_zero, List.set_cons_succ])
            refine wpAnyH_ready (rs := [5, 8]) (by kernel_rfl) (by simp) ?_
            refine AllReadyH.cons (o := { dst := _, op := _, type := _, pos := _, after := _, guard := _ }) rfl (fun K hK => ?_) ?_
            rotate_left
            refine AllReadyH.cons (o := { dst := _, op := _, type := _, pos := _, after := _, guard := _ }) rfl (fun K hK => ?_) AllReadyH.nil
            rotate_left
            · --
              have q4 := HI5.out.c4
              go_simp
              refine hK.out _ _ (HI5.out.c2.trans (by rw [HSZE.out])) (fun hHeld => ?_)
              clear hK K q4
              (try simp only [Act.put, List.setIfInBounds_toArray, List.set_cons_zero, List.set_cons_succ])
              refine wpAnyH_ready (rs := [8]) (by kernel_rfl) (by simp) ?_
              refine AllReadyH.cons (o := { dst := _, op := _, type := _, pos := _, after := _, guard := _ }) rfl (fun K hK => ?_) ?_
              rotate_left
              · exact AllReadyH.nil
              go_simp
              refine hK.out _ _ ((HI5.out.below (below_alloc (Below.refl _ _) (.cells #[.slice A5 nb c5] 22))).c2.trans (by rw [HSZE.out])) (fun hHeld => ?_)
              clear hK K
              (try simp only [Act.put, List.setIfInBounds_toArray, List.set_cons_zero, List.set_cons_succ])
              refine wpAnyH_ready (rs := [9]) (by kernel_rfl) (by simp) ?_
              refine AllReadyH.cons (o := { dst := _, op := _, type := _, pos := _, after := _, guard := _ }) rfl (fun K hK => ?_) ?_
              rotate_left
              · exact AllReadyH.nil
              have HOP : Aside0 (Kd.FK kBs w5 (fun k => (U k ∨ w3.heap.size ≤ k) ∧ some k ≠ vr.ownBlock) b [.slice A5 nb c5]) := ⟨by
                have hlt := HI3.out.ub
                have h1 := Kd.V_mono (ok' := fun k => (U k ∨ w3.heap.size ≤ k) ∧ some k ≠ vr.ownBlock) (Kd.R_V (base' := 0) (Kd.R_reok rfl HV5.out (ok := fun k => w3.heap.size ≤ k) (fun k hk => Kd.R_base HV5.out k hk))) (fun k hk => ⟨.inr hk, fun e => by have := Kd.N_lt HI3.out.recs k e.symm; omega⟩)
                have h2 := (Kd.V_reads' h1).2.1
                have h3 := Kd.V_F h1
                have h4 : nb = b.length := HNB.out.symm
                subst h4
                exact Kd.FK_slice_mk h2 h3⟩
              have HNR := Aside0.mk (Kd.N_mono (ok' := fun k => U k ∨ w3.heap.size ≤ k) HI5.out.recs (fun k hk => .inl hk))
              have HFR : Aside0 (∀ k, w5.heap.size ≤ k → U k ∨ w3.heap.size ≤ k) := ⟨fun k hk => .inr (Nat.le_trans HB5.out.size hk)⟩
              refine Kd.N_append_step kBs (w0 := w5) 0 (by simp [Region.wanted]) (.tmp 41) (.tmp 44) 57 22 (.slice none 0 0) 24 rfl Try.underlying57 infoBS rfl (by decide) (by decide) vr t.recs b [.slice A5 nb c5] (fun k => U k ∨ w3.heap.size ≤ k) (fun k => (U k ∨ w3.heap.size ≤ k) ∧ some k ≠ vr.ownBlock) (by simp [Act.eval, Act.put]) (by simp [Act.eval, Act.put]) HOP.out (fun _ hk => hk) HFR.out HNR.out (Below.refl _ _) (Nat.zero_le _) HRL.out ?_
              intro v6 w6 hN hB6 hg hat
              obtain ⟨A6, c6, rfl⟩ := Kd.N_slice hN
              obtain ⟨n6, hn6⟩ : ∃ n, (t.recs ++ [b]).length = n := ⟨_, rfl⟩
              rw [hn6] at hN hat ⊢
              have HC6 := Aside0.mk (blk_grown HI5.out.lc hg HI5.out.row_ne.1)
              have HN6 := Aside0.mk hN
              have HG6 := Aside0.mk hg
              have HAT := Aside0.mk hat
              clear hN hB6 hg hat hHeld hn6
              refine hK.out _ _ (((blk_cell HC6.out) 2).trans (by rw [← HSZE.out]; rfl)) (fun hHeld => ?_)
              clear hK K
              (try simp only [Act.put, List.setIfInBounds_toArray, List.set_cons_zero, List.set_cons_succ])
              refine wpAnyH_take (i := 17) (oi := { dst := _, op := _, type := _, pos := _, after := _, guard := _ }) (v := ?_) rfl (by kernel_rfl) (by kernel_rfl) (by kernel_rfl) (fun _ _ _ h => h) (Or.inl ⟨by rfl, ?_⟩) (by assumption) ?_
              rotate_left
              · (intro wq hSw; (try dsimp only at hSw); go_simp <;> with_reducible rfl)
              (try simp only [Act.put, List.setIfInBounds_toArray, List.set_cons_zero, List.set_cons_succ])
              refine wpAnyH_take (i := 18) (oi := { dst := _, op := _, type := _, pos := _, after := _, guard := _ }) (v := ?_) rfl (by kernel_rfl) (by kernel_rfl) (by kernel_rfl) (fun _ _ _ h => h) (Or.inl ⟨by rfl, ?_⟩) (by assumption) ?_
              rotate_left
              · (intro wq hSw; (try dsimp only at hSw); go_simp <;> with_reducible rfl)
              (try simp only [Act.put, List.setIfInBounds_toArray, List.set_cons_zero, List.set_cons_succ])
              refine wpAnyH_ready (rs := [19]) (by kernel_rfl) (by simp) ?_
              refine AllReadyH.cons (o := { dst := _, op := _, type := _, pos := _, after := _, guard := _ }) rfl (fun K hK => ?_) ?_
              rotate_left
              · exact AllReadyH.nil
              have q4 : w6.cell? ⟨l, 4, none⟩ = some vr := (blk_cell HC6.out) 4
              have f4 := free_of HC6.out 4
              go_simp
              have HC7 := Aside0.mk (box_set (o := 4) HC6.out (.slice A6 n6 c6))
              refine hK.out _ _ (((blk_cell HC7.out) 2).trans (by rw [← HSZE.out]; rfl)) (fun hHeld => ?_)
              clear hK K q4 f4
              (try simp only [Act.put, List.setIfInBounds_toArray, List.set_cons_zero, List.set_cons_succ])
              have q2 : (w6.setCell ⟨l, 4, none⟩ (.slice A6 n6 c6)).cell? ⟨l, 2, none⟩ = some (.int .i64 sz) := ((blk_cell HC7.out) 2).trans (by rw [← HSZE.out]; rfl)
              have f2 := free_of HC7.out 2
              clear hHeld
              refine wpAnyH_done (by kernel_rfl) ?_ _
              refine Sg.Part.norm ?_
              simp only [List.drop_succ_cons, List.drop_zero]
              go_wp2_with (fail)
              go_meet
              case rel =>
                have hls : l < w3.heap.size := HI3.out.lt
                obtain ⟨hA, hC⟩ := HI5.out.app HG6.out HAT.out w3.heap.size HB5.out.size (fun k hk => HI3.out.sb k hk) hls HN6.out (sz + (nf : Int))
                have hc3 : Chg T w w5 := Chg.frm HCC.out (Chg.trans (Chg.ofBelow (S := fun _ => False) (below_drew (Below.refl w3.heap.size w3))) (Chg.ofBelow HB5.out)) (fun _ h => h.elim)
                have hcc := Chg.frm hc3 hC (fun k hk => by
                  rcases hk with rfl | hk
                  · exact .inl HL.out
                  · exact .inl (HU.out k hk))
                have hwz : ((w6.setCell ⟨l, 4, none⟩ (.slice A6 n6 c6)).setCell ⟨l, 2, none⟩ (.int .i64 (sz + (nf : Int)))).heap.size = w6.heap.size := by simp
                have h56 : w5.heap.size ≤ w6.heap.size := HG6.out.size
                have h35 : w3.heap.size ≤ w5.heap.size := HB5.out.size
                refine ⟨⟨?_⟩, ⟨hcc⟩⟩
                have hA9 := Lg.of (w0 := w) (T := T) hA (Fr.grow HS3.out (by rw [hwz]; omega)) (fun q hq => by
                  rcases hq.1 with hq1 | hq1
                  · exact .inl (HU.out q hq1)
                  · exact .inr ⟨by have := HCC.out.1.size; omega, by rw [hwz]; exact hq.2⟩) (.inl HL.out) HT.out hcc.1.size
                rw [HSZE.out, ← HNF.out]
                exact hA9
            · --
              go_simp
              refine hK.out _ _ ((HI5.out.below (below_alloc (Below.refl _ _) (.cells #[.slice A5 nb c5] 22))).c2.trans (by rw [HSZE.out])) (fun hHeld => ?_)
              clear hK K
              (try simp only [Act.put, List.setIfInBounds_toArray, List.set_cons_zero, List.set_cons_succ])
              refine wpAnyH_ready (rs := [5]) (by kernel_rfl) (by simp) ?_
              refine AllReadyH.cons (o := { dst := _, op := _, type := _, pos := _, after := _, guard := _ }) rfl (fun K hK => ?_) ?_
              rotate_left
              · exact AllReadyH.nil
              have q4 := (HI5.out.below (below_alloc (Below.refl _ _) (.cells #[.slice A5 nb c5] 22))).c4
              go_simp
              refine hK.out _ _ ((HI5.out.below (below_alloc (Below.refl _ _) (.cells #[.slice A5 nb c5] 22))).c2.trans (by rw [HSZE.out])) (fun hHeld => ?_)
              clear hK K q4
              (try simp only [Act.put, List.setIfInBounds_toArray, List.set_cons_zero, List.set_cons_succ])
              refine wpAnyH_ready (rs := [9]) (by kernel_rfl) (by simp) ?_
              refine AllReadyH.cons (o := { dst := _, op := _, type := _, pos := _, after := _, guard := _ }) rfl (fun K hK => ?_) ?_
              rotate_left
              · exact AllReadyH.nil
              have HOP : Aside0 (Kd.FK kBs w5 (fun k => (U k ∨ w3.heap.size ≤ k) ∧ some k ≠ vr.ownBlock) b [.slice A5 nb c5]) := ⟨by
                have hlt := HI3.out.ub
                have h1 := Kd.V_mono (ok' := fun k => (U k ∨ w3.heap.size ≤ k) ∧ some k ≠ vr.ownBlock) (Kd.R_V (base' := 0) (Kd.R_reok rfl HV5.out (ok := fun k => w3.heap.size ≤ k) (fun k hk => Kd.R_base HV5.out k hk))) (fun k hk => ⟨.inr hk, fun e => by have := Kd.N_lt HI3.out.recs k e.symm; omega⟩)
                have h2 := (Kd.V_reads' h1).2.1
                have h3 := Kd.V_F h1
                have h4 : nb = b.length := HNB.out.symm
                subst h4
                exact Kd.FK_slice_mk h2 h3⟩
              have HNR := Aside0.mk (Kd.N_mono (ok' := fun k => U k ∨ w3.heap.size ≤ k) HI5.out.recs (fun k hk => .inl hk))
              have HFR : Aside0 (∀ k, w5.heap.size ≤ k → U k ∨ w3.heap.size ≤ k) := ⟨fun k hk => .inr (Nat.le_trans HB5.out.size hk)⟩
              refine Kd.N_append_step kBs (w0 := w5) 0 (by simp [Region.wanted]) (.tmp 41) (.tmp 44) 57 22 (.slice none 0 0) 24 rfl Try.underlying57 infoBS rfl (by decide) (by decide) vr t.recs b [.slice A5 nb c5] (fun k => U k ∨ w3.heap.size ≤ k) (fun k => (U k ∨ w3.heap.size ≤ k) ∧ some k ≠ vr.ownBlock) (by simp [Act.eval, Act.put]) (by simp [Act.eval, Act.put]) HOP.out (fun _ hk => hk) HFR.out HNR.out (Below.refl _ _) (Nat.zero_le _) HRL.out ?_
              intro v6 w6 hN hB6 hg hat
              obtain ⟨A6, c6, rfl⟩ := Kd.N_slice hN
              obtain ⟨n6, hn6⟩ : ∃ n, (t.recs ++ [b]).length = n := ⟨_, rfl⟩
              rw [hn6] at hN hat ⊢
              have HC6 := Aside0.mk (blk_grown HI5.out.lc hg HI5.out.row_ne.1)
              have HN6 := Aside0.mk hN
              have HG6 := Aside0.mk hg
              have HAT := Aside0.mk hat
              clear hN hB6 hg hat hHeld hn6
              refine hK.out _ _ (((blk_cell HC6.out) 2).trans (by rw [← HSZE.out]; rfl)) (fun hHeld => ?_)
              clear hK K
              (try simp only [Act.put, List.setIfInBounds_toArray, List.set_cons_zero, List.set_cons_succ])
              refine wpAnyH_take (i := 17) (oi := { dst := _, op := _, type := _, pos := _, after := _, guard := _ }) (v := ?_) rfl (by kernel_rfl) (by kernel_rfl) (by kernel_rfl) (fun _ _ _ h => h) (Or.inl ⟨by rfl, ?_⟩) (by assumption) ?_
              rotate_left
              · (intro wq hSw; (try dsimp only at hSw); go_simp <;> with_reducible rfl)
              (try simp only [Act.put, List.setIfInBounds_toArray, List.set_cons_zero, List.set_cons_succ])
              refine wpAnyH_take (i := 18) (oi := { dst := _, op := _, type := _, pos := _, after := _, guard := _ }) (v := ?_) rfl (by kernel_rfl) (by kernel_rfl) (by kernel_rfl) (fun _ _ _ h => h) (Or.inl ⟨by rfl, ?_⟩) (by assumption) ?_
              rotate_left
              · (intro wq hSw; (try dsimp only at hSw); go_simp <;> with_reducible rfl)
              (try simp only [Act.put, List.setIfInBounds_toArray, List.set_cons_zero, List.set_cons_succ])
              refine wpAnyH_ready (rs := [19]) (by kernel_rfl) (by simp) ?_
              refine AllReadyH.cons (o := { dst := _, op := _, type := _, pos := _, after := _, guard := _ }) rfl (fun K hK => ?_) ?_
              rotate_left
              · exact AllReadyH.nil
              have q4 : w6.cell? ⟨l, 4, none⟩ = some vr := (blk_cell HC6.out) 4
              have f4 := free_of HC6.out 4
              go_simp
              have HC7 := Aside0.mk (box_set (o := 4) HC6.out (.slice A6 n6 c6))
              refine hK.out _ _ (((blk_cell HC7.out) 2).trans (by rw [← HSZE.out]; rfl)) (fun hHeld => ?_)
              clear hK K q4 f4
              (try simp only [Act.put, List.setIfInBounds_toArray, List.set_cons_zero, List.set_cons_succ])
              have q2 : (w6.setCell ⟨l, 4, none⟩ (.slice A6 n6 c6)).cell? ⟨l, 2, none⟩ = some (.int .i64 sz) := ((blk_cell HC7.out) 2).trans (by rw [← HSZE.out]; rfl)
              have f2 := free_of HC7.out 2
              clear hHeld
              refine wpAnyH_done (by kernel_rfl) ?_ _
              refine Sg.Part.norm ?_
              simp only [List.drop_succ_cons, List.drop_zero]
              go_wp2_with (fail)
              go_meet
              case rel =>
                have hls : l < w3.heap.size := HI3.out.lt
                obtain ⟨hA, hC⟩ := HI5.out.app HG6.out HAT.out w3.heap.size HB5.out.size (fun k hk => HI3.out.sb k hk) hls HN6.out (sz + (nf : Int))
                have hc3 : Chg T w w5 := Chg.frm HCC.out (Chg.trans (Chg.ofBelow (S := fun _ => False) (below_drew (Below.refl w3.heap.size w3))) (Chg.ofBelow HB5.out)) (fun _ h => h.elim)
                have hcc := Chg.frm hc3 hC (fun k hk => by
                  rcases hk with rfl | hk
                  · exact .inl HL.out
                  · exact .inl (HU.out k hk))
                have hwz : ((w6.setCell ⟨l, 4, none⟩ (.slice A6 n6 c6)).setCell ⟨l, 2, none⟩ (.int .i64 (sz + (nf : Int)))).heap.size = w6.heap.size := by simp
                have h56 : w5.heap.size ≤ w6.heap.size := HG6.out.size
                have h35 : w3.heap.size ≤ w5.heap.size := HB5.out.size
                refine ⟨⟨?_⟩, ⟨hcc⟩⟩
                have hA9 := Lg.of (w0 := w) (T := T) hA (Fr.grow HS3.out (by rw [hwz]; omega)) (fun q hq => by
                  rcases hq.1 with hq1 | hq1
                  · exact .inl (HU.out q hq1)
                  · exact .inr ⟨by have := HCC.out.1.size; omega, by rw [hwz]; exact hq.2⟩) (.inl HL.out) HT.out hcc.1.size
                rw [HSZE.out, ← HNF.out]
                exact hA9
        case rest =>
          obtain ⟨HLW, HCW⟩ := hcut
          go_wp2
          go_ret
          have hrr : appL s t b = (0, a1.2, { t with recs := t.recs ++ [b], size := t.size + ((nb + 9 : Nat) : Int) }) := by
            unfold appL
            rw [if_neg (by rw [HCL.out]; decide), if_neg (by rw [HNB.out]; omega), HNM.out, HFR0.out, HA1.out, if_neg (by rw [HZ1.out]; decide), HNB.out]
          rw [← HR.out, hrr]
          exact ⟨rfl, HLW.out, HCW.out⟩)
    · rw [decide_eq_false hbig]
      rw [if_neg hbig] at hv
      obtain ⟨A1, c1, rfl⟩ := Kd.R_slice hv
      have HBG := Aside0.mk hbig
      clear KF hb hv hbig
      go_wp2
      go_ret
      have hrr : appL s t b = (11, s, t) := by
        unfold appL
        rw [if_neg (by rw [HCL.out]; decide), if_pos (by rw [HNB.out]; have := HBG.out; omega)]
      rw [← HR.out, hrr]
      exact ⟨rfl, Lg.of HI1.out (fun q hq => .inl (HS.out q hq)) (fun q hq => .inl (HU.out q hq)) (.inl HL.out) HT.out HB1.out.size, Chg.ofBelow HB1.out⟩
end
end Go.Proofs.Ytoimpjmoikjibaa.Wl
namespace Go.Proofs.Ytoimpjmoikjibaa.Wl
open Go Go.RowKit Go.Proofs.Ytoimpjmoikjibaa.IMap Go.Proofs.Ytoimpjmoikjibaa.Pure Go.Proofs.Ytoimpjmoikjibaa.P Go.Proofs.Ytoimpjmoikjibaa.Dk Go.Proofs.YtoimpjmoikjibaaW.PrintWords Go.Proofs.YtoimpjmoikjibaaW.PrintLast Go.Proofs.YtoimpjmoikjibaaW.PrintMore
set_option linter.unusedVariables false
set_option linter.unusedSimpArgs false
section
variable {w w1 w2 : World} {g l : Nat} {T : Nat → Prop} {s : DS} {t : WS}
theorem Lg.bound (h : Lg w g l T s t) : ∀ k, T k → k < w.heap.size := by
  obtain ⟨S, U, vb, vr, hI, hS, hU, hl, hT⟩ := h
  exact hT
theorem Lg.tl (h : Lg w g l T s t) : T l := by
  obtain ⟨S, U, vb, vr, hI, hS, hU, hl, hT⟩ := h
  exact hl
theorem Lg.ok (h : Lg w g l T s t) : OK s := by
  obtain ⟨S, U, vb, vr, hI, hS, hU, hl, hT⟩ := h
  exact hI.dk.ok
theorem Lg.comp (h : Lg w2 g l (Fr (Fr T w w1) w1 w2) s t) (h1 : Chg T w w1) (h2 : Chg (Fr T w w1) w1 w2) (hT : ∀ k, T k → k < w.heap.size) : Lg w2 g l (Fr T w w2) s t ∧ Chg T w w2 := by
  obtain ⟨S, U, vb, vr, hI, hS, hU, hl, _⟩ := h
  have hc : Chg T w w2 := Chg.fr h1 h2
  have up : ∀ k, Fr (Fr T w w1) w1 w2 k → Fr T w w2 k := fun k hk => Fr.up (S := Fr T w w1) (fun q hq => hq) h1.1.size h2.1.size k hk
  refine ⟨⟨S, U, vb, vr, hI, fun k hk => up k (hS k hk), fun k hk => up k (hU k hk), up l hl, fun k hk => ?_⟩, hc⟩
  rcases hk with hk | hk
  · have := hT k hk; have := hc.1.size; omega
  · exact hk.2
/-- What a call of the dock does to a log beside it. -/
theorem Lg.turn (h : Lg w g l T s t) : ∃ S, Dk w g S s ∧ ∀ (w' : World) (s' : DS), Dk w' g (Fr S w w') s' → Chg S w w' → Lg w' g l (Fr T w w') s' t ∧ Chg T w w' := by
  obtain ⟨S, U, vb, vr, hI, hS, hU, hl, hT⟩ := h
  refine ⟨S, hI.dk, fun w' s' hd hc => ⟨?_, Chg.mono hc hS⟩⟩
  exact Lg.of (hI.dock hd hc) (Fr.up (fun q hq => .inl (hS q hq) : ∀ q, S q → Fr T w w q) (Nat.le_refl _) hc.1.size) (fun q hq => .inl (hU q hq)) (.inl hl) hT hc.1.size
theorem Lg.below (h : Lg w g l T s t) (hb : Below w.heap.size w w1) : Lg w1 g l (Fr T w w1) s t ∧ Chg T w w1 := by
  obtain ⟨S, U, vb, vr, hI, hS, hU, hl, hT⟩ := h
  exact ⟨Lg.of (hI.below hb) (fun q hq => .inl (hS q hq)) (fun q hq => .inl (hU q hq)) (.inl hl) hT hb.size, Chg.ofBelow hb⟩
theorem told_L (h : Lg w g l T s t) (z : Int) : Calls Try.prog 60 #[.pointer (some ⟨l, 0, none⟩), .int .i64 z] w fun e w' => e = .returned (.int .i64 z) ∧ Lg w' g l (Fr T w w') s (told t z) ∧ Chg T w w' := by
  obtain ⟨S, U, vb, vr, hI, hS, hU, hl, hT⟩ := h
  exact (told_T hI z).mono fun e w' ⟨he, hi, ha⟩ => ⟨he, Lg.of hi (fun q hq => .inl (hS q hq)) (fun q hq => .inl (hU q hq)) (.inl hl) hT (Nat.le_of_eq ha.2.1.symm), ha.chg hl⟩
theorem remove_L (h : Lg w g l T s t) (k : Int) : Calls Try.prog 25 #[.pointer (some ⟨g, 0, none⟩), .int .i64 k] w fun e w' => e = .returned (.int .i64 (rmv s k).1) ∧ Lg w' g l (Fr T w w') (rmv s k).2 t ∧ Chg T w w' := by
  obtain ⟨S, hd, ht⟩ := h.turn
  exact (Remove_T w g S s k hd).mono fun e w' ⟨he, h1, h2⟩ => ⟨he, ht w' _ h1 h2⟩
theorem sync_L (h : Lg w g l T s t) (k : Int) : Calls Try.prog 17 #[.pointer (some ⟨g, 0, none⟩), .int .i64 k] w fun e w' => e = .returned (.int .i64 (syn s k).1) ∧ Lg w' g l (Fr T w w') (syn s k).2 t ∧ Chg T w w' := by
  obtain ⟨S, hd, ht⟩ := h.turn
  exact (Sync_T w g S s k hd).mono fun e w' ⟨he, h1, h2⟩ => ⟨he, ht w' _ h1 h2⟩
theorem cut_L (h : Lg w g l T s t) (k n : Int) : Calls Try.prog 27 #[.pointer (some ⟨g, 0, none⟩), .int .i64 k, .int .i64 n] w fun e w' => e = .returned (.int .i64 (cut s k n).1) ∧ Lg w' g l (Fr T w w') (cut s k n).2 t ∧ Chg T w w' := by
  obtain ⟨S, hd, ht⟩ := h.turn
  exact (Cut_T w g S s k n hd).mono fun e w' ⟨he, h1, h2⟩ => ⟨he, ht w' _ h1 h2⟩
theorem Lg.cells (h : Lg w g l T s t) : w.cell? ⟨l, 0, none⟩ = some (.pointer (some ⟨g, 0, none⟩)) ∧ w.cell? ⟨l, 1, none⟩ = some (.int .i64 t.name) ∧ w.cell? ⟨l, 2, none⟩ = some (.int .i64 t.size) ∧ w.cell? ⟨l, 5, none⟩ = some (.bool t.closed) := by
  obtain ⟨S, U, vb, vr, hI, _⟩ := h
  exact ⟨hI.c0, hI.c1, hI.c2, hI.c5⟩
set_option maxHeartbeats 4000000 in
set_option maxRecDepth 100000 in
theorem lrot_T (h : Lg w g l T s t) (A : Option Addr) (c : Nat) (b : List Int) (hA : Arg w T A c b) (hB : B b) (hm : b.length ≤ 100000000) (hn : -10 ≤ t.name ∧ t.name ≤ 10000000) :
    Calls Try.prog 40 #[.pointer (some ⟨l, 0, none⟩), .slice A b.length c] w (LTurned w g l T (rotL s t b)) := by
  obtain ⟨q0, q1, q2, q5⟩ := h.cells
  have HLG := Aside0.mk h
  have HBD := Aside0.mk h.bound
  obtain ⟨r, hr⟩ : ∃ r, rotL s t b = r := ⟨_, rfl⟩
  rw [hr]
  have HR := Aside0.mk hr
  obtain ⟨cl, hcl⟩ : ∃ c, t.closed = c := ⟨_, rfl⟩
  have HCL := Aside0.mk hcl
  rw [hcl] at q5
  cases cl with
  | true =>
    clear h hA hB hm hn hr hcl
    go_enter Try.func40, Try.ntmps40
    go_wp2
    go_ret
    have hrr : rotL s t b = (74, s, t) := by unfold rotL; rw [if_pos HCL.out]
    rw [← HR.out, hrr]
    exact ⟨rfl, (HLG.out.below (Below.refl _ _)).1, Chg.refl _ _⟩
  | false =>
    obtain ⟨nm, hnm⟩ : ∃ n, t.name = n := ⟨_, rfl⟩
    rw [hnm] at q1 hn
    have HNM := Aside0.mk hnm
    have KB := Aside0.mk (begin_T h (nm + 1) A c b hA hB hm)
    obtain ⟨y, hy⟩ : ∃ y, beginS s t (nm + 1) b = y := ⟨_, rfl⟩
    rw [hy] at KB
    have HY := Aside0.mk hy
    obtain ⟨hn1, hn2⟩ := hn
    obtain ⟨nb, hnb⟩ : ∃ n, b.length = n := ⟨_, rfl⟩
    rw [hnb] at KB ⊢
    obtain ⟨z, hz⟩ : ∃ z, y.1 = z := ⟨_, rfl⟩
    rw [show beginS s t (nm + 1) b = y from hy] at hy
    have HZ := Aside0.mk hz
    have KB2 : Aside0 (Calls Try.prog 58 #[.pointer (some ⟨l, 0, none⟩), .int .i64 (nm + 1), .slice A nb c] w fun e w' => e = .returned (.int .i64 z) ∧ Lg w' g l (Fr T w w') y.2.1 y.2.2 ∧ Chg T w w') := ⟨by rw [← hz]; exact KB.out⟩
    clear h hA hB hm hr hcl hnm hy hnb hz KB
    go_enter Try.func40, Try.ntmps40
    go_wp2_with (fail)
    refine KB2.out.mono ?_
    rintro e w2 ⟨rfl, hl2, hc2⟩
    have KT := Aside0.mk (told_L hl2 z)
    have HC2 := Aside0.mk hc2
    clear hl2 hc2 KB2 q0 q1 q2 q5
    go_wp2_with (fail)
    refine KT.out.mono ?_
    rintro e w3 ⟨rfl, hl3, hc3⟩
    obtain ⟨hl3', hc3'⟩ := hl3.comp HC2.out hc3 HBD.out
    have HL3 := Aside0.mk hl3'
    have HC3 := Aside0.mk hc3'
    clear KT hl3 hc3 hl3' hc3'
    by_cases z0 : z = 0
    · subst z0
      rw [told_zero] at HL3
      obtain ⟨p0, p1, p2, p5⟩ := HL3.out.cells
      have KR := Aside0.mk (remove_L HL3.out nm)
      obtain ⟨x, hx⟩ : ∃ x, rmv y.2.1 nm = x := ⟨_, rfl⟩
      rw [hx] at KR
      have HX := Aside0.mk hx
      clear hx
      go_wp2_with (fail)
      refine KR.out.mono ?_
      rintro e w4 ⟨rfl, hl4, hc4⟩
      have KT := Aside0.mk (told_L hl4 x.1)
      have HL4 := Aside0.mk hl4
      have HC4 := Aside0.mk hc4
      clear KR hl4 hc4 p0 p1 p2 p5
      go_wp2_with (fail)
      refine KT.out.mono ?_
      rintro e w5 ⟨rfl, hl5, hc5⟩
      obtain ⟨hl5', hc5'⟩ := hl5.comp HC4.out hc5 HL3.out.bound
      obtain ⟨hl6, hc6⟩ := hl5'.comp HC3.out hc5' HBD.out
      have HL6 := Aside0.mk hl6
      have HC6 := Aside0.mk hc6
      clear KT hl5 hc5 hl5' hc5' hl6 hc6
      go_wp2
      go_ret
      have hrr : rotL s t b = (x.1, x.2, told y.2.2 x.1) := by
        unfold rotL
        rw [if_neg (by rw [HCL.out]; decide), HNM.out, HY.out, if_neg (by rw [HZ.out]; decide), HX.out]
      rw [← HR.out, hrr]
      exact ⟨rfl, HL6.out, HC6.out⟩
    · have e2 : (z != 0) = true := bne_iff_ne.2 z0
      have HZ0 := Aside0.mk z0
      clear z0
      go_wp2
      go_ret
      have hrr : rotL s t b = (z, y.2.1, told y.2.2 z) := by
        unfold rotL
        rw [if_neg (by rw [HCL.out]; decide), HNM.out, HY.out, if_pos (by rw [HZ.out]; exact HZ0.out), HZ.out]
      rw [← HR.out, hrr]
      exact ⟨rfl, HL3.out, HC3.out⟩
end
end Go.Proofs.Ytoimpjmoikjibaa.Wl
namespace Go.Proofs.Ytoimpjmoikjibaa.Wl
open Go Go.RowKit Go.Proofs.Ytoimpjmoikjibaa.IMap Go.Proofs.Ytoimpjmoikjibaa.Pure Go.Proofs.Ytoimpjmoikjibaa.P Go.Proofs.Ytoimpjmoikjibaa.Dk Go.Proofs.YtoimpjmoikjibaaW.PrintWords Go.Proofs.YtoimpjmoikjibaaW.PrintLast Go.Proofs.YtoimpjmoikjibaaW.PrintMore
set_option linter.unusedVariables false
set_option linter.unusedSimpArgs false
theorem Lg.mono {w : World} {g l : Nat} {T T' : Nat → Prop} {s : DS} {t : WS} (h : Lg w g l T s t) (hT : ∀ k, T k → T' k) (hb : ∀ k, T' k → k < w.heap.size) : Lg w g l T' s t := by
  obtain ⟨S, U, vb, vr, hI, hS, hU, hl, _⟩ := h
  exact ⟨S, U, vb, vr, hI, fun k hk => hT k (hS k hk), fun k hk => hT k (hU k hk), hT l hl, hb⟩
theorem Lg.dk {w : World} {g l : Nat} {T : Nat → Prop} {s : DS} {t : WS} (h : Lg w g l T s t) : Dk w g T s := by
  obtain ⟨S, U, vb, vr, hI, hS, hU, hl, _⟩ := h
  exact hI.dk.mono hS
def Opened (w : World) (g : Nat) (S : Nat → Prop) (r : Int × DS × WS) (e : Ending) (w' : World) : Prop :=
  Chg S w w' ∧ ((r.1 = 0 ∧ ∃ l, e = .returned (.tuple #[.pointer (some ⟨l, 0, none⟩), .int .i64 0]) ∧ Lg w' g l (Fr S w w') r.2.1 r.2.2) ∨ (r.1 ≠ 0 ∧ e = .returned (.tuple #[.pointer none, .int .i64 r.1]) ∧ Dk w' g (Fr S w w') r.2.1))
theorem open_fin {w w1 w2 w' : World} {g l : Nat} {S : Nat → Prop} {s : DS} {t : WS} (hS : ∀ k, S k → k < w.heap.size) (h1 : Below w.heap.size w w1) (h2 : Below w1.heap.size w1 w2) (h : Lg w' g l (Fr (Fr S w w1) w2 w') s t) (hc : Chg (Fr S w w1) w2 w') : Lg w' g l (Fr S w w') s t ∧ Chg S w w' := by
  have a := h1.size
  have b := h2.size
  have c := hc.1.size
  refine ⟨h.mono (fun k hk => ?_) (fun k hk => ?_), Chg.fr (Chg.ofBelow h1) (Chg.trans (Chg.ofBelow h2) hc)⟩
  · rcases hk with hk | hk
    · rcases hk with hk | hk
      · exact .inl hk
      · exact .inr ⟨hk.1, by omega⟩
    · exact .inr ⟨by omega, hk.2⟩
  · rcases hk with hk | hk
    · have := hS k hk; omega
    · exact hk.2
def wz : WS := ⟨0, 0, [], [], false⟩
theorem found_wz (F : Option (Int × (List Int × List (List Int) × Nat) × Nat)) : foundT wz F = foundT ws0 F := by
  cases F with
  | none => rfl
  | some x => rfl
theorem open_start {w : World} {g : Nat} {S : Nat → Prop} {s : DS} (hd : Dk w g S s) (hS : ∀ k, S k → k < w.heap.size) :
    LgI (w.alloc (.cells (logv g wz (.slice none 0 0) (.slice none 0 0)) 103 (0, 0))) g w.heap.size S (fun _ => False) s wz (.slice none 0 0) (.slice none 0 0) where
  dk := hd.below (below_alloc (Below.refl _ _) _)
  lc := by show (w.heap.push _)[w.heap.size]? = _; simp
  us := fun _ h => h.elim
  ub := fun _ h => h.elim
  sb := fun k hk => by have := hS k hk; rw [World.size_alloc]; omega
  ls := fun hk => by have := hS _ hk; omega
  base := Kd.V_nil _ _ _ _ _
  recs := Kd.N_nil _ _ _ _ _
theorem B_nil : B [] := fun x h => by cases h
set_option maxHeartbeats 8000000 in
set_option maxRecDepth 100000 in
theorem Open_T {w : World} {g : Nat} {S : Nat → Prop} {s : DS} (hd : Dk w g S s) (hS : ∀ k, S k → k < w.heap.size) (hBD : BD s) :
    Calls Try.prog 32 #[.pointer (some ⟨g, 0, none⟩)] w (Opened w g S (openS s)) := by
  have HD := Aside0.mk hd
  have HS := Aside0.mk hS
  have HBD := Aside0.mk hBD
  obtain ⟨r, hr⟩ : ∃ r, openS s = r := ⟨_, rfl⟩
  rw [hr]
  have HR := Aside0.mk hr
  clear hd hS hBD hr
  go_enter Try.func32, Try.ntmps32
  go_wp2_with (fail)
  have hI1 := open_start HD.out HS.out
  have hb1 := below_alloc (Below.refl w.heap.size w) (.cells (logv g wz (.slice none 0 0) (.slice none 0 0)) 103 (0, 0))
  unfold logv wz at hI1 hb1
  obtain ⟨w1, hw1⟩ : ∃ W, w.alloc (.cells #[.pointer (some ⟨g, 0, none⟩), .int .i64 0, .int .i64 0, .slice none 0 0, .slice none 0 0, .bool false] 103 (0, 0)) = W := ⟨_, rfl⟩
  have hsz1 : w1.heap.size = w.heap.size + 1 := by rw [← hw1]; exact World.size_alloc _ _
  dsimp only at hI1 hb1
  rw [hw1] at hI1 hb1 ⊢
  obtain ⟨l, hl⟩ : ∃ l, w.heap.size = l := ⟨_, rfl⟩
  rw [hl] at hI1
  have HL := Aside0.mk hl
  have HB1 := Aside0.mk hb1
  have HSZ1 := Aside0.mk hsz1
  have KN := Aside0.mk (Names_T w1 g S s hI1.dk)
  have HI1 := Aside0.mk hI1
  try rw [hl]
  clear hw1 hI1 hb1 hsz1 hl
  refine KN.out.mono ?_
  rintro e w2 ⟨v, rfl, hv, hb2⟩
  have HB2 := Aside0.mk hb2
  have HI2 := Aside0.mk (HI1.out.below hb2)
  obtain ⟨A, c, rfl⟩ := Kd.R_slice hv
  obtain ⟨dn, hdn⟩ : ∃ d, s.down = d := ⟨_, rfl⟩
  rw [hdn] at hv ⊢
  cases dn with
  | true =>
    simp only [↓reduceIte] at hv ⊢
    clear KN hv hb2
    have hrr : openS s = (51, s, ws0) := by unfold openS; rw [if_pos hdn]
    clear hdn
    go_wp2
    go_ret2
    have hc : Chg S w w2 := Chg.ofBelow (HB1.out.trans (HB2.out.mono HB1.out.size))
    refine ⟨hc, .inr ?_⟩
    rw [← HR.out, hrr]
    exact ⟨by show (51 : Int) ≠ 0; decide, rfl, HI2.out.dk.mono fun k hk => .inl hk⟩
  | false =>
    simp only [Bool.false_eq_true, ↓reduceIte] at hv ⊢
    have hT1 : ∀ k, Fr S w w1 k → k < w1.heap.size := fun k hk => by
      rcases hk with hk | hk
      · have := HS.out k hk; have := HB1.out.size; omega
      · exact hk.2
    have hL2 : Lg w2 g l (Fr S w w1) s wz := ⟨S, fun _ => False, _, _, HI2.out, fun k hk => .inl hk, fun k hk => hk.elim, .inr ⟨by rw [← HL.out]; exact Nat.le_refl _, by rw [HSZ1.out, ← HL.out]; exact Nat.lt_succ_self _⟩, fun k hk => by have := hT1 k hk; have := HB2.out.size; omega⟩
    have hv0 : Kd.R kI 3 w2 0 (fun k => ¬ Fr S w w1 k) (.slice A (keys s.M).length c) (keys s.M) := Kd.R_lower (Kd.R_reok rfl hv (ok := fun k => ¬ Fr S w w1 k) (fun k hk hf => by have := Kd.R_base hv k hk; have := hT1 k hf; omega)) (Nat.zero_le _)
    have KF := Aside0.mk (find_T hL2 hdn HBD.out _ hv0)
    have HV0 := Aside0.mk hv0
    have HT2 := Aside0.mk hL2.bound
    obtain ⟨F, hF⟩ : ∃ F, findW s.M = F := ⟨_, rfl⟩
    rw [hF] at KF
    have HF := Aside0.mk hF
    rw [found_wz] at KF
    have HDN := Aside0.mk hdn
    obtain ⟨t1, ht1⟩ : ∃ t, foundT ws0 F = t := ⟨_, rfl⟩
    rw [ht1] at KF
    have HT1 := Aside0.mk ht1
    obtain ⟨nF, hnF⟩ : ∃ n, foundN F = n := ⟨_, rfl⟩
    rw [hnF] at KF
    have HNF := Aside0.mk hnF
    obtain ⟨ks, hks⟩ : ∃ k, keys s.M = k := ⟨_, rfl⟩
    rw [hks] at HV0 KF ⊢
    have HKS := Aside0.mk hks
    obtain ⟨n, hn⟩ : ∃ n, ks.length = n := ⟨_, rfl⟩
    have hmax := Kd.C_max (Kd.R_reads' HV0.out).2.2
    rw [hn] at KF hmax ⊢
    have HN := Aside0.mk hn
    clear KN hv hb2 hT1 hL2 hv0 hdn hF ht1 hnF hks hn
    go_wp2_with (fail)
    refine KF.out.mono ?_
    rintro e w3 ⟨rfl, hl3, hc3⟩
    have HL3 := Aside0.mk hl3
    have HC3 := Aside0.mk hc3
    clear KF hl3 hc3
    go_wp2_with (fail)
    clear HI1 HI2
    obtain ⟨T1, hT1⟩ : ∃ T, Fr S w w1 = T := ⟨_, rfl⟩
    rw [hT1] at HL3 HC3 HV0 HT2
    have HTT := Aside0.mk hT1
    clear hT1
    go_loopg [36] n (fun kq v36 w' => ∃ (i : Nat) (si : DS), v36 = .int .i64 (i : Int) ∧ i + kq = n ∧ Aside0 (Lg w' g l (Fr T1 w2 w') si t1) ∧ Aside0 (Chg T1 w2 w') ∧ Aside0 (rmAll t1.name ks s = rmAll t1.name (ks.drop i) si))
    case atStart => exact ⟨0, s, rfl, by omega, HL3, HC3, ⟨rfl⟩⟩
    case round =>
      clear HL3 HC3
      obtain ⟨i, si, rfl, hk, HL4, HC4, HRM⟩ := hrel
      by_cases hi : i < n
      · have e1 : decide (i < n) = true := decide_eq_true hi
        have hik : i < ks.length := by rw [HN.out]; exact hi
        obtain ⟨gn, rfl, hnm⟩ := R_at (Kd.R_step HV0.out (fun k hk hlt => HC4.out.2 k hlt hk)) i hik
        obtain ⟨nm, hnme⟩ : ∃ x, ks.getD i 0 = x := ⟨_, rfl⟩
        rw [hnme] at hnm
        have hdrop : ks.drop i = nm :: ks.drop (i + 1) := by
          rw [List.drop_eq_getElem_cons hik, ← hnme, List.getD_eq_getElem?_getD, List.getElem?_eq_getElem hik]
          rfl
        have HWI : Aside0 (wrap64 ((i : Int) + 1) = ((i + 1 : Nat) : Int)) := ⟨by unfold wrap64; omega⟩
        have HDR := Aside0.mk hdrop
        obtain ⟨-, q1, -, -⟩ := HL4.out.cells
        obtain ⟨tn, htn⟩ : ∃ x, t1.name = x := ⟨_, rfl⟩
        rw [htn] at q1
        have HTN := Aside0.mk htn
        clear hik hnme hdrop htn
        by_cases hq : nm = tn
        · have e2 : (nm == tn) = true := beq_iff_eq.2 hq
          have HRM2 : Aside0 (rmAll t1.name ks s = rmAll t1.name (ks.drop (i + 1)) si) := ⟨by rw [HRM.out, HDR.out, rmAll, if_pos (by rw [HTN.out]; exact hq)]⟩
          clear hq
          go_wp2
          go_roundg (gk - 1)
          case measure => omega
          case rel => exact ⟨i + 1, si, (by first | exact congrArg _ HWI.out | rfl | (congr 1; go_num)), by omega, HL4, HC4, HRM2⟩
        · have e2 : (nm == tn) = false := beq_eq_false_iff_ne.2 hq
          have KR := Aside0.mk (remove_L HL4.out nm)
          obtain ⟨x, hx⟩ : ∃ x, rmv si nm = x := ⟨_, rfl⟩
          rw [hx] at KR
          have HRM2 : Aside0 (rmAll t1.name ks s = if x.1 ≠ 0 then x else rmAll t1.name (ks.drop (i + 1)) x.2) := ⟨by rw [HRM.out, HDR.out, rmAll, if_neg (by rw [HTN.out]; exact hq), hx]⟩
          clear hq hx
          go_wp2_with (fail)
          refine KR.out.mono ?_
          rintro e w5 ⟨rfl, hl5, hc5⟩
          obtain ⟨hl5', hc5'⟩ := hl5.comp HC4.out hc5 HT2.out
          have HL5 := Aside0.mk hl5'
          have HC5 := Aside0.mk hc5'
          clear KR hl5 hc5 hl5' hc5' q1
          obtain ⟨z, hz⟩ : ∃ z, x.1 = z := ⟨_, rfl⟩
          rw [hz]
          rw [hz] at HRM2
          have HZZ := Aside0.mk hz
          clear hz
          by_cases z0 : z = 0
          · subst z0
            have HRM3 : Aside0 (rmAll t1.name ks s = rmAll t1.name (ks.drop (i + 1)) x.2) := ⟨by rw [HRM2.out, if_neg (by decide)]⟩
            go_wp2
            go_roundg (gk - 1)
            case measure => omega
            case rel => exact ⟨i + 1, x.2, (by first | exact congrArg _ HWI.out | rfl | (congr 1; go_num)), by omega, HL5, HC5, HRM3⟩
          · have e3 : (z != 0) = true := bne_iff_ne.2 z0
            have HZ0 := Aside0.mk z0
            clear z0
            go_wp2
            go_ret2
            have hra : rmAll t1.name ks s = x := by rw [HRM2.out, if_pos HZ0.out]
            have hrr : openS s = (z, x.2, ws0) := by
              unfold openS
              rw [if_neg (by rw [HDN.out]; decide), HF.out, HT1.out, HKS.out, hra, if_pos (by rw [HZZ.out]; exact HZ0.out), HZZ.out]
            have hl6 := HL5.out
            have hc6 := HC5.out
            rw [← HTT.out] at hl6 hc6
            obtain ⟨hlf, hcf⟩ := open_fin HS.out HB1.out HB2.out hl6 hc6
            refine ⟨hcf, .inr ?_⟩
            rw [← HR.out, hrr]
            exact ⟨HZ0.out, rfl, hlf.dk⟩
      · have e1 : decide (i < n) = false := decide_eq_false hi
        have hin : ks.drop i = [] := List.drop_eq_nil_of_le (by rw [HN.out]; omega)
        have HRM2 : Aside0 (rmAll t1.name ks s = (0, si)) := ⟨by rw [HRM.out, hin]; rfl⟩
        clear hin hi HRM
        obtain ⟨-, q1, q2, -⟩ := HL4.out.cells
        obtain ⟨tn, htn⟩ : ∃ x, t1.name = x := ⟨_, rfl⟩
        rw [htn] at q1
        have HTN := Aside0.mk htn
        clear htn
        have HO : Aside0 (openS s = openE si t1 nF) := ⟨by
          unfold openS
          rw [if_neg (by rw [HDN.out]; decide), HF.out, HT1.out, HKS.out, HRM2.out, if_neg (fun h => h rfl), HNF.out]⟩
        by_cases hneg : tn < 0
        · have e2 : decide (tn < 0) = true := decide_eq_true hneg
          have KB := Aside0.mk (begin_T HL4.out 0 none 0 [] (Arg.nil _ _) B_nil (by decide))
          obtain ⟨x, hx⟩ : ∃ x, beginS si t1 0 [] = x := ⟨_, rfl⟩
          rw [hx] at KB
          have HO2 : Aside0 (openS s = x) := ⟨by rw [HO.out]; unfold openE; rw [if_pos (by rw [HTN.out]; exact hneg), hx]⟩
          clear hx hneg HO
          go_wp2_with (fail)
          refine KB.out.mono ?_
          rintro e w5 ⟨rfl, hl5, hc5⟩
          obtain ⟨hl5', hc5'⟩ := hl5.comp HC4.out hc5 HT2.out
          rw [← HTT.out] at hl5' hc5'
          obtain ⟨hlf, hcf⟩ := open_fin HS.out HB1.out HB2.out hl5' hc5'
          have HLF := Aside0.mk hlf
          have HCF := Aside0.mk hcf
          clear KB hl5 hc5 hl5' hc5' q1 q2 hlf hcf
          obtain ⟨z, hz⟩ : ∃ z, x.1 = z := ⟨_, rfl⟩
          rw [hz]
          have HZZ := Aside0.mk hz
          clear hz
          by_cases z0 : z = 0
          · subst z0
            go_wp2
            go_ret2
            refine ⟨HCF.out, .inl ?_⟩
            rw [← HR.out, HO2.out]
            exact ⟨HZZ.out, l, rfl, HLF.out⟩
          · have e3 : (z != 0) = true := bne_iff_ne.2 z0
            have HZ0 := Aside0.mk z0
            clear z0
            go_wp2
            go_ret2
            refine ⟨HCF.out, .inr ?_⟩
            rw [← HR.out, HO2.out, HZZ.out]
            exact ⟨HZ0.out, rfl, HLF.out.dk⟩
        · have e2 : decide (tn < 0) = false := decide_eq_false hneg
          obtain ⟨ts, hts⟩ : ∃ x, t1.size = x := ⟨_, rfl⟩
          rw [hts] at q2
          have HTS := Aside0.mk hts
          have HO2 : Aside0 (openS s = if ts < (nF : Int) then (if (cut si tn ts).1 ≠ 0 then ((cut si tn ts).1, (cut si tn ts).2, t1) else ((syn (cut si tn ts).2 tn).1, (syn (cut si tn ts).2 tn).2, t1)) else ((syn si tn).1, (syn si tn).2, t1)) := ⟨by rw [HO.out]; unfold openE; rw [if_neg (by rw [HTN.out]; exact hneg), HTN.out, HTS.out]⟩
          clear hts hneg HO
          by_cases hsz : ts < (nF : Int)
          · have e4 : decide (ts < (nF : Int)) = true := decide_eq_true hsz
            have HI4D := (HL4.out.below (below_drew (Below.refl wr.heap.size wr)))
            have HL4D := Aside0.mk HI4D.1
            have KC := Aside0.mk (cut_L HI4D.1 tn ts)
            obtain ⟨x, hx⟩ : ∃ x, cut si tn ts = x := ⟨_, rfl⟩
            rw [hx] at KC
            have HO3 : Aside0 (openS s = if x.1 ≠ 0 then (x.1, x.2, t1) else ((syn x.2 tn).1, (syn x.2 tn).2, t1)) := ⟨by rw [HO2.out, if_pos hsz, hx]⟩
            clear hsz hx HO2 HI4D
            go_wp2_with (fail)
            go_region_law (go_simp; go_at_call 27; go_must (refine KC.out.mono ?_; rintro e w5 ⟨rfl, hl5, hc5⟩; have HL5 := Aside0.mk hl5; have HC5 := Aside0.mk hc5; clear hl5 hc5))
            all_goals (
              obtain ⟨hl5', hc5'⟩ := HL5.out.comp (Chg.ofBelow (below_drew (Below.refl wr.heap.size wr))) HC5.out HL4.out.bound
              obtain ⟨hl6, hc6⟩ := hl5'.comp HC4.out hc5' HT2.out
              have HL6 := Aside0.mk hl6
              have HC6 := Aside0.mk hc6
              clear hl5' hc5' hl6 hc6 q1 q2
              obtain ⟨zc, hzc⟩ : ∃ z, x.1 = z := ⟨_, rfl⟩
              rw [hzc]
              have HZC := Aside0.mk hzc
              clear hzc
              by_cases c0 : zc = 0
              · subst c0
                have HO5 : Aside0 (openS s = ((syn x.2 tn).1, (syn x.2 tn).2, t1)) := ⟨by rw [HO3.out, if_neg (by rw [HZC.out]; exact fun h => h rfl)]⟩
                clear HO3
                obtain ⟨-, q1, -, -⟩ := HL6.out.cells
                rw [HTN.out] at q1
                have KS := Aside0.mk (sync_L HL6.out tn)
                obtain ⟨y, hy⟩ : ∃ y, syn x.2 tn = y := ⟨_, rfl⟩
                rw [hy] at KS
                have HO4 : Aside0 (openS s = (y.1, y.2, t1)) := ⟨by rw [HO5.out, hy]⟩
                clear hy
                go_wp2_with (fail)
                refine KS.out.mono ?_
                rintro e w7 ⟨rfl, hl7, hc7⟩
                obtain ⟨hl7', hc7'⟩ := hl7.comp HC6.out hc7 HT2.out
                rw [← HTT.out] at hl7' hc7'
                obtain ⟨hlf, hcf⟩ := open_fin HS.out HB1.out HB2.out hl7' hc7'
                have HLF := Aside0.mk hlf
                have HCF := Aside0.mk hcf
                clear KS hl7 hc7 hl7' hc7' q1 hlf hcf
                obtain ⟨z, hz⟩ : ∃ z, y.1 = z := ⟨_, rfl⟩
                rw [hz]
                have HZZ := Aside0.mk hz
                clear hz
                by_cases z0 : z = 0
                · subst z0
                  go_wp2
                  go_ret2
                  refine ⟨HCF.out, .inl ?_⟩
                  rw [← HR.out, HO4.out]
                  exact ⟨HZZ.out, l, rfl, HLF.out⟩
                · have e3 : (z != 0) = true := bne_iff_ne.2 z0
                  have HZ0 := Aside0.mk z0
                  clear z0
                  go_wp2
                  go_ret2
                  refine ⟨HCF.out, .inr ?_⟩
                  rw [← HR.out, HO4.out]
                  exact ⟨by show y.1 ≠ 0; rw [HZZ.out]; exact HZ0.out, by show Ending.returned (.tuple #[.pointer none, .int .i64 z]) = .returned (.tuple #[.pointer none, .int .i64 y.1]); rw [HZZ.out], HLF.out.dk⟩
              · have e5 : (zc != 0) = true := bne_iff_ne.2 c0
                have HC0 := Aside0.mk c0
                have HO5 : Aside0 (openS s = (x.1, x.2, t1)) := ⟨by rw [HO3.out, if_pos (by rw [HZC.out]; exact c0)]⟩
                clear c0 HO3
                go_wp2
                go_ret2
                have hl7 := HL6.out
                have hc7 := HC6.out
                rw [← HTT.out] at hl7 hc7
                obtain ⟨hlf, hcf⟩ := open_fin HS.out HB1.out HB2.out hl7 hc7
                refine ⟨hcf, .inr ?_⟩
                rw [← HR.out, HO5.out]
                exact ⟨by show x.1 ≠ 0; rw [HZC.out]; exact HC0.out, by show Ending.returned (.tuple #[.pointer none, .int .i64 zc]) = .returned (.tuple #[.pointer none, .int .i64 x.1]); rw [HZC.out], hlf.dk⟩)
          · have e4 : decide (ts < (nF : Int)) = false := decide_eq_false hsz
            have HO3 : Aside0 (openS s = ((syn si tn).1, (syn si tn).2, t1)) := ⟨by rw [HO2.out, if_neg hsz]⟩
            clear hsz HO2 q1
            obtain ⟨-, q1, -, -⟩ := HL4.out.cells
            rw [HTN.out] at q1
            have KS := Aside0.mk (sync_L HL4.out tn)
            obtain ⟨y, hy⟩ : ∃ y, syn si tn = y := ⟨_, rfl⟩
            rw [hy] at KS
            have HO4 : Aside0 (openS s = (y.1, y.2, t1)) := ⟨by rw [HO3.out, hy]⟩
            clear hy
            go_wp2_with (fail)
            refine KS.out.mono ?_
            rintro e w7 ⟨rfl, hl7, hc7⟩
            obtain ⟨hl7', hc7'⟩ := hl7.comp HC4.out hc7 HT2.out
            rw [← HTT.out] at hl7' hc7'
            obtain ⟨hlf, hcf⟩ := open_fin HS.out HB1.out HB2.out hl7' hc7'
            have HLF := Aside0.mk hlf
            have HCF := Aside0.mk hcf
            clear KS hl7 hc7 hl7' hc7' q1 hlf hcf
            obtain ⟨z, hz⟩ : ∃ z, y.1 = z := ⟨_, rfl⟩
            rw [hz]
            have HZZ := Aside0.mk hz
            clear hz
            by_cases z0 : z = 0
            · subst z0
              go_wp2
              go_ret2
              refine ⟨HCF.out, .inl ?_⟩
              rw [← HR.out, HO4.out]
              exact ⟨HZZ.out, l, rfl, HLF.out⟩
            · have e3 : (z != 0) = true := bne_iff_ne.2 z0
              have HZ0 := Aside0.mk z0
              clear z0
              go_wp2
              go_ret2
              refine ⟨HCF.out, .inr ?_⟩
              rw [← HR.out, HO4.out]
              exact ⟨by show y.1 ≠ 0; rw [HZZ.out]; exact HZ0.out, by show Ending.returned (.tuple #[.pointer none, .int .i64 z]) = .returned (.tuple #[.pointer none, .int .i64 y.1]); rw [HZZ.out], HLF.out.dk⟩
end Go.Proofs.Ytoimpjmoikjibaa.Wl
namespace Go.Proofs.Ytoimpjmoikjibaa.Wl
open Go Go.RowKit Go.Proofs.Ytoimpjmoikjibaa.IMap Go.Proofs.Ytoimpjmoikjibaa.Pure Go.Proofs.Ytoimpjmoikjibaa.P Go.Proofs.Ytoimpjmoikjibaa.Dk Go.Proofs.YtoimpjmoikjibaaW.PrintWords Go.Proofs.YtoimpjmoikjibaaW.PrintLast Go.Proofs.YtoimpjmoikjibaaW.PrintMore
set_option linter.unusedVariables false
set_option linter.unusedSimpArgs false
section
variable {w : World} {g l : Nat} {T : Nat → Prop} {s : DS} {t : WS}
theorem Name_T (h : Lg w g l T s t) : Calls Try.prog 33 #[.pointer (some ⟨l, 0, none⟩)] w fun e w' => e = .returned (.int .i64 t.name) ∧ w = w' := by
  obtain ⟨-, q1, -, -⟩ := h.cells
  obtain ⟨x, hx⟩ : ∃ x, t.name = x := ⟨_, rfl⟩
  rw [hx] at q1 ⊢
  clear h hx
  go_enter Try.func33, Try.ntmps33
  go_wp2
  go_ret
  exact ⟨rfl, rfl⟩
theorem LSize_T (h : Lg w g l T s t) : Calls Try.prog 34 #[.pointer (some ⟨l, 0, none⟩)] w fun e w' => e = .returned (.int .i64 t.size) ∧ w = w' := by
  obtain ⟨-, -, q2, -⟩ := h.cells
  obtain ⟨x, hx⟩ : ∃ x, t.size = x := ⟨_, rfl⟩
  rw [hx] at q2 ⊢
  clear h hx
  go_enter Try.func34, Try.ntmps34
  go_wp2
  go_ret
  exact ⟨rfl, rfl⟩
set_option maxHeartbeats 4000000 in
set_option maxRecDepth 100000 in
theorem Base_T (h : Lg w g l T s t) (hm : t.base.length ≤ 1000000000) : Calls Try.prog 36 #[.pointer (some ⟨l, 0, none⟩)] w fun e w' => ∃ v, e = .returned v ∧ Kd.R kB 5 w' w.heap.size (fun _ => True) v t.base ∧ Below w.heap.size w w' := by
  obtain ⟨S, U, vb, vr, hI, hS, hU, hl, hT⟩ := h
  have q3 := hI.c3
  obtain ⟨A, c, rfl⟩ := Kd.V_slice hI.base
  have KC := Aside0.mk (Clone_T A c t.base w (Kd.V_reads' hI.base).2.2 (Kd.V_reads' hI.base).2.1 (by omega))
  obtain ⟨x, hx⟩ : ∃ x, t.base.length = x := ⟨_, rfl⟩
  obtain ⟨bs, hbs⟩ : ∃ x, t.base = x := ⟨_, rfl⟩
  rw [hx] at q3 KC
  rw [hbs] at KC ⊢
  clear hI hS hU hl hT hx hbs hm
  go_enter Try.func36, Try.ntmps36
  go_wp2_with (fail)
  refine KC.out.mono ?_
  rintro e w1 ⟨v, rfl, hv, hb⟩
  have HV := Aside0.mk hv
  have HB := Aside0.mk hb
  obtain ⟨A1, c1, rfl⟩ := Kd.R_slice hv
  clear hv hb KC
  go_wp2
  go_ret
  exact ⟨_, rfl, HV.out, HB.out⟩
set_option maxHeartbeats 4000000 in
set_option maxRecDepth 100000 in
theorem Records_T (h : Lg w g l T s t) (hm : ∀ r ∈ t.recs, r.length ≤ 1000000000) (hrl : t.recs.length ≤ 1000000) : Calls Try.prog 38 #[.pointer (some ⟨l, 0, none⟩)] w fun e w' => ∃ v, e = .returned v ∧ Kd.N kBs 22 w' w.heap.size (fun k => w.heap.size ≤ k) v t.recs ∧ Below w.heap.size w w' := by
  obtain ⟨S, U, vb, vr, hI, hS, hU, hl, hT⟩ := h
  have q4 := hI.c4
  obtain ⟨A, c, rfl⟩ := Kd.N_slice hI.recs
  obtain ⟨rs, hrs⟩ : ∃ x, t.recs = x := ⟨_, rfl⟩
  rw [hrs] at q4 hm hrl ⊢
  have hn := hI.recs
  rw [hrs] at hn
  have HN := Aside0.mk hn
  have HM := Aside0.mk hm
  obtain ⟨n, hn⟩ : ∃ x, rs.length = x := ⟨_, rfl⟩
  have HNN := Aside0.mk hn
  rw [hn] at q4 hrl HN
  have HRL := Aside0.mk hrl
  clear hI hS hU hl hT hn hrs hm
  go_enter Try.func38, Try.ntmps38
  go_wp2
  go_loopg [3, 11] n (fun kq v3 v11 w' => ∃ i : Nat, v11 = .int .i64 (i : Int) ∧ i + kq = n ∧ Aside0 (Kd.N kBs 22 w' w.heap.size (fun k => w.heap.size ≤ k) v3 (rs.take i)) ∧ Aside0 (Below w.heap.size w w'))
  case atStart => exact ⟨0, rfl, by omega, ⟨Kd.N_nil _ _ _ _ _⟩, ⟨Below.refl _ _⟩⟩
  case round =>
    obtain ⟨i, rfl, hk, HN2, HB2⟩ := hrel
    by_cases hi : i < n
    · have e1 : decide (i < n) = true := decide_eq_true hi
      have hir : i < rs.length := by rw [HNN.out]; exact hi
      obtain ⟨gb, cap, hAe, _, _, _⟩ := Kd.N_form HN.out (by rw [HNN.out]; omega)
      injection hAe with hAe1 hAe2 hAe3
      subst hAe1
      clear hAe2 hAe3
      obtain ⟨cs, hcl, hK, hcc, hfz⟩ := Kd.N_elem (Kd.N_below HN.out HB2.out) [] (i : Int) (by omega) (by omega)
      obtain ⟨x, hx⟩ : ∃ x, rs.getD (i : Int).toNat [] = x := ⟨_, rfl⟩
      rw [hx] at hK
      have hxe : rs.take (i + 1) = rs.take i ++ [x] := by
        rw [← hx, Int.toNat_natCast, List.take_succ_eq_append_getElem hir, List.getD_eq_getElem?_getD, List.getElem?_eq_getElem hir]
        rfl
      have hxm : x.length ≤ 1000000000 := by
        rw [← hx, Int.toNat_natCast, List.getD_eq_getElem?_getD, List.getElem?_eq_getElem hir]
        exact HM.out _ (List.getElem_mem hir)
      obtain ⟨A1, c1, rfl, hc1, hF1⟩ := Kd.FK_slice_open hK
      have hce : wr.cell? ⟨gb, i, none⟩ = some (.slice A1 x.length c1) := by
        have h9 := hcc 0 _ rfl
        rw [Int.toNat_natCast, show i * kBs.sz + 0 = i from by show i * 1 + 0 = i; omega] at h9
        exact h9
      have KC := Aside0.mk (Clone_T A1 c1 x wr (Kd.F_now hF1) hc1 (by omega))
      have HXE := Aside0.mk hxe
      have HWI : Aside0 (wrap64 ((i : Int) + 1) = ((i + 1 : Nat) : Int)) := ⟨by have := HRL.out; unfold wrap64; omega⟩
      have HLE : Aside0 ((rs.take i).length ≤ 1000000) := ⟨by have := HRL.out; rw [List.length_take]; omega⟩
      obtain ⟨nx, hnx⟩ : ∃ n, x.length = n := ⟨_, rfl⟩
      rw [hnx] at hce KC
      have HNX := Aside0.mk hnx
      clear hcl hK hcc hfz hx hxe hxm hc1 hF1 hir hnx
      go_wp2_with (fail)
      refine KC.out.mono ?_
      rintro e w5 ⟨v5, rfl, hv5, hb5⟩
      obtain ⟨A5, c5, rfl⟩ := Kd.R_slice hv5
      rw [HNX.out] at hv5 ⊢
      have HV5 := Aside0.mk hv5
      have HB5 := Aside0.mk hb5
      have HB6 := Aside0.mk (below_step HB2.out hb5)
      have HN5 := Aside0.mk (Kd.N_below HN2.out hb5)
      clear hv5 hb5 KC hce
      have HNB := Aside0.mk (Kd.N_mono (ok' := fun k => w.heap.size ≤ k) HN5.out (fun k hk => hk))
      have HOP : Aside0 (Kd.FK kBs w5 (fun k => w.heap.size ≤ k ∧ some k ≠ u3.ownBlock) x [.slice A5 nx c5]) := ⟨by
        have h1 := Kd.V_mono (ok' := fun k => w.heap.size ≤ k ∧ some k ≠ u3.ownBlock) (Kd.R_V (base' := 0) (Kd.R_reok rfl HV5.out (ok := fun k => wr.heap.size ≤ k) (fun k hk => Kd.R_base HV5.out k hk))) (fun k hk => ⟨Nat.le_trans HB2.out.size hk, fun e => by have := Kd.N_lt HN2.out k e.symm; omega⟩)
        have h2 := (Kd.V_reads' h1).2.1
        have h3 := Kd.V_F h1
        have h4 : nx = x.length := HNX.out.symm
        subst h4
        exact Kd.FK_slice_mk h2 h3⟩
      have HFR : Aside0 (∀ k, w5.heap.size ≤ k → w.heap.size ≤ k) := ⟨fun k hk => Nat.le_trans HB6.out.size hk⟩
      have HRL2 : Aside0 (((rs.take i).length + 1) * 24 ≤ 140737488355328) := ⟨by have := HLE.out; omega⟩
      go_wp2_with (first | ((with_reducible refine gate_builtin (b := .append) (xs := #[.tmp 15, .tmp 18]) rfl ?_); at_builtin; refine Kd.N_append kBs (w0 := w) w.heap.size rfl (.tmp 15) (.tmp 18) 57 22 (.slice none 0 0) 24 rfl Try.underlying57 infoBS rfl (by decide) (by decide) u3 (rs.take i) x [.slice A5 nx c5] (fun k => w.heap.size ≤ k) (fun k => w.heap.size ≤ k ∧ some k ≠ u3.ownBlock) rfl rfl HOP.out (fun _ hk => hk) HFR.out HNB.out HB6.out HB6.out.size HRL2.out ?_; intro v2 w2 hN hB hg hat; refine Halt.out ?_))
      unfold Halt
      rw [← HXE.out] at hN
      have HN3 := Aside0.mk hN
      have HB3 := Aside0.mk hB
      clear hN hB hg hat HNB HOP
      go_wp2
      go_roundg (gk - 1)
      case measure => omega
      case rel => exact ⟨i + 1, (by first | exact congrArg _ HWI.out | rfl | (congr 1; go_num)), by omega, HN3, HB3⟩
    · have e1 : decide (i < n) = false := decide_eq_false hi
      have hin : rs.take i = rs := List.take_of_length_le (by rw [HNN.out]; omega)
      rw [hin] at HN2
      clear hin hi
      obtain ⟨A3, c3, rfl⟩ := Kd.N_slice HN2.out
      go_wp2
      go_ret
      exact ⟨_, rfl, HN2.out, HB2.out⟩
end
end Go.Proofs.Ytoimpjmoikjibaa.Wl
