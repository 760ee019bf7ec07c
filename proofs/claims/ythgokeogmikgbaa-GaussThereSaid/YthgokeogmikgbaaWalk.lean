import Derived.Test.YthgokeogmikgbaaSteps
import Derived.Test.YthgokeogmikgbaaWRepsOne
import Derived.Maps.AppendAt
import Derived.Below
import Derived.Deep.Draws
namespace Go.Proofs.Ythgokeogmikgbaa.P
open Go Go.RowKit Go.Proofs.Ythgokeogmikgbaa.Fl Go.Proofs.YthgokeogmikgbaaW.PrintWords Go.Proofs.YthgokeogmikgbaaW.PrintLast Go.Proofs.YthgokeogmikgbaaW.PrintMore
set_option linter.unusedVariables false
set_option linter.unusedSimpArgs false
theorem info23 : (Try.prog.info? 23).map (fun i => (i.zero, i.size, i.bytes)) = some (some (.complex .f64 0 0), 1, 16) := by kernel_rfl
theorem R_lits (W : World) (base : Nat) (hb : base ≤ W.heap.size) (xs : List (Int × Int)) (h : xs.length ≤ 9223372036854775807) :
    Kcx.R 23 (W.alloc (.cells (xs.map enc).toArray 23)) base (fun _ => True) (.slice (some ⟨W.heap.size, 0, none⟩) xs.length xs.length) xs := by
  refine Kd.R_of_own ?_ (fun _ _ => trivial)
  have h2 := World.ownsRow_lit (base := base) (e := 23) (size := 1) W (xs.map enc).toArray xs.length hb (by simpa [maxLen] using h) (by simp)
  simpa [encs] using h2
/-- What comes behind a place. -/
def adds (q : Int × Int) : List (Int × Int) → List (Int × Int)
  | [] => []
  | s :: l => (q.1 + s.1, q.2 + s.2) :: adds (q.1 + s.1, q.2 + s.2) l
def PlaceP (p : Int × Int) : Prop := (0 ≤ p.1 ∧ p.1 ≤ 1048576) ∧ 0 ≤ p.2 ∧ p.2 ≤ 1048576
theorem drop_cons' {α : Type} {l : List α} {i : Nat} (h : i < l.length) : l.drop i = l[i] :: l.drop (i + 1) := List.drop_eq_getElem_cons h
theorem last_of {α : Type} {ys : List α} {q : α} (h : ys.getLast? = some q) : ys ≠ [] ∧ ∀ d : α, rdOf d ys ((ys.length : Int) - 1) = q := by
  obtain ⟨l, rfl⟩ := List.getLast?_eq_some_iff.1 h
  refine ⟨by simp, fun d => ?_⟩
  unfold rdOf
  rw [show (((l ++ [q]).length : Int) - 1).toNat = l.length by simp, List.getD_eq_getElem?_getD]
  simp
set_option maxHeartbeats 4000000 in
theorem Walk_calls (s : Int × Int) (l : List (Int × Int)) (A : Option Addr) (c : Nat) (w : World) (hs : PlaceP s) (hl : ∀ p ∈ l, IsStep p) (hp : ∀ p ∈ adds s l, PlaceP p) (hr : Kcx.C w A l.length l) (hc : l.length ≤ c) (hlen : l.length ≤ 1000000) :
    Calls Try.prog 8 #[cx s.1 s.2, .slice A l.length c] w fun e w' => ∃ v, e = .returned (.tuple #[v, .int .i64 0]) ∧ Kcx.R 23 w' w.heap.size (fun _ => True) v (s :: adds s l) ∧ Below w.heap.size w w' := by
  have S1 : Sm s.1 := ⟨by have := hs.1.1; omega, by have := hs.1.2; omega⟩
  have S2 : Sm s.2 := ⟨by have := hs.2.1; omega, by have := hs.2.2; omega⟩
  have KS := Aside0.mk (steps_calls l A c w hl hr hc (by omega))
  have KP := Aside0.mk (place_calls s.1 s.2 S1 S2 w)
  rw [decide_eq_true (show (0 ≤ s.1 ∧ s.1 ≤ 1048576) ∧ 0 ≤ s.2 ∧ s.2 ≤ 1048576 from hs)] at KP
  have KT := Aside0.mk (tidy_calls s.1 s.2 S1 S2 w)
  have HL := Aside0.mk hl
  have HP := Aside0.mk hp
  have HR := Aside0.mk hr
  have HN := Aside0.mk hlen
  have HS := Aside0.mk hs
  replace S1 := Aside0.mk S1
  replace S2 := Aside0.mk S2
  clear hl hr hc hlen hp hs
  go_enter Try.func8, Try.ntmps8
  go_wp2_with (fail)
  refine KS.out.mono ?_
  rintro e w1 ⟨rfl, rfl⟩
  go_wp2_with (fail)
  refine KP.out.mono ?_
  rintro e w2 ⟨rfl, rfl⟩
  go_wp2_with (fail)
  refine KT.out.mono ?_
  rintro e w3 ⟨rfl, rfl⟩
  go_wp2_with (first | ((with_reducible refine gate_dst (N := 22) rfl ?_); refine Kd.R_lit Kcx w3.heap.size 23 ?hg (N := 22) ?hd (xs := [s]) (inner := [cx s.1 s.2]) (ok := fun _ => True) (okp := fun _ => True) ?hr ?hp (fun _ hk => hk) trivial (Below.refl _ _) (Nat.le_refl _) (by simp) ?_; (case hd => rfl); (case hg => rfl); (case hr => first | (unfold cx; go_simp; done) | (unfold cx; go_simp; rfl)); (case hp => exact (Reps.one (show Kd.M Kcx _ _ _ s [cx s.1 s.2] from rfl) (Reps.none _ _))); intro v0 w4 ho hb hg_ hnew_; clear hg_ hnew_; have HO := Aside0.mk ho; have HB := Aside0.mk hb; clear ho hb))
  clear KS KP KT
  go_loopg [7, 25] l.length (fun kq v7 v25 w' => ∃ (i : Nat) (out : List (Int × Int)) (q : Int × Int), v25 = .int .i64 (i : Int) ∧ Aside0 (i + kq = l.length) ∧ Aside0 (out.length = i + 1) ∧ Aside0 (out.getLast? = some q) ∧ Aside0 (PlaceP q) ∧ Aside0 (out ++ adds q (l.drop i) = s :: adds s l) ∧ Aside0 (Kcx.R 23 w' w3.heap.size (fun _ => True) v7 out) ∧ Aside0 (Below w3.heap.size w3 w'))
  case atStart => exact ⟨0, [s], s, rfl, ⟨by omega⟩, ⟨rfl⟩, ⟨rfl⟩, HS, ⟨rfl⟩, HO, HB⟩
  case round =>
    clear HO HB
    obtain ⟨i, out, q, rfl, HI, HOL, HQ, HPQ, HE, HO, HB⟩ := hrel
    by_cases c1 : i < l.length
    · have e1 : decide (i < l.length) = true := decide_eq_true c1
      obtain ⟨ad, ea, hx⟩ := at_cx (Kd.C_below HR.out HB.out) (i : Int) (by omega) (by omega)
      rw [rdOf_nat c1, Int.toNat_natCast] at hx
      cases ea
      have hp := Aside0.mk (HL.out l[i] (List.getElem_mem c1))
      have hd := Aside0.mk (drop_cons' c1)
      generalize l[i] = p at hp hx hd
      obtain ⟨A1, c1_, rfl, hcl, hCr⟩ := Kd.R_reads HO.out
      have hn1 := HOL.out
      obtain ⟨ad1, ea1, hx1⟩ := at_cx hCr ((out.length : Int) - 1) (by omega) (by omega)
      rw [(last_of HQ.out).2] at hx1
      cases ea1
      rw [hn1] at hx1 hcl HO ⊢
      rw [show (((i + 1 : Nat) : Int) - 1).toNat = i by omega] at hx1
      have C1 := Aside0.mk c1
      have HC := Aside0.mk hCr
      have hN := HN.out
      have hw : wrap64 ((i : Nat) : Int) = (i : Int) := by unfold wrap64; omega
      have hw1 : wrap64 ((i : Int) + 1) = ((i + 1 : Nat) : Int) := by unfold wrap64; omega
      clear hCr hn1 hN
      have hq := HPQ.out
      have hp1 := hp.out
      have Q1 : Sm q.1 := ⟨by have := hq.1.1; omega, by have := hq.1.2; omega⟩
      have Q2 : Sm q.2 := ⟨by have := hq.2.1; omega, by have := hq.2.2; omega⟩
      have P1 : Sm p.1 := ⟨by have := hp1.1.1; omega, by have := hp1.1.2; omega⟩
      have P2 : Sm p.2 := ⟨by have := hp1.2.1; omega, by have := hp1.2.2; omega⟩
      have hadd := run_cadd (P := Try.prog) 23 Q1 Q2 P1 P2
      have hrP : PlaceP (q.1 + p.1, q.2 + p.2) := by
        have hm : (q.1 + p.1, q.2 + p.2) ∈ s :: adds s l := by
          rw [← HE.out, hd.out]
          exact List.mem_append_right _ (List.mem_cons_self ..)
        rcases List.mem_cons.1 hm with e | e
        · rw [e]; exact HS.out
        · exact HP.out _ e
      have R1 : Sm (q.1 + p.1) := ⟨by have := hrP.1.1; simp at this; omega, by have := hrP.1.2; simp at this; omega⟩
      have R2 : Sm (q.2 + p.2) := ⟨by have := hrP.2.1; simp at this; omega, by have := hrP.2.2; simp at this; omega⟩
      have KT := Aside0.mk (tidy_calls (q.1 + p.1) (q.2 + p.2) R1 R2)
      have KP := Aside0.mk (place_calls (q.1 + p.1) (q.2 + p.2) R1 R2)
      rw [decide_eq_true (show (0 ≤ q.1 + p.1 ∧ q.1 + p.1 ≤ 1048576) ∧ 0 ≤ q.2 + p.2 ∧ q.2 + p.2 ≤ 1048576 from hrP)] at KP
      have HRP := Aside0.mk hrP
      clear hq hp1 Q1 Q2 P1 P2 R1 R2 hrP
      obtain ⟨r, hr⟩ : ∃ r : Int × Int, r = (q.1 + p.1, q.2 + p.2) := ⟨_, rfl⟩
      rw [show q.1 + p.1 = r.1 by rw [hr], show q.2 + p.2 = r.2 by rw [hr]] at hadd KT KP
      rw [← hr] at HRP
      replace hr := Aside0.mk hr
      go_wp2_with (fail)
      refine (KT.out _).mono ?_
      rintro e w5 ⟨rfl, rfl⟩
      go_wp2_with (fail)
      refine (KP.out _).mono ?_
      rintro e w6 ⟨rfl, rfl⟩
      go_wp2_with (first | ((with_reducible refine gate_dst (N := 43) rfl ?_); refine Kd.R_lit Kcx w6.heap.size 23 ?hg (N := 43) ?hd (xs := [r]) (inner := [cx r.1 r.2]) (ok := fun _ => True) (okp := fun _ => True) ?hr ?hp (fun _ hk => hk) trivial (Below.refl _ _) (Nat.le_refl _) (by simp) ?_; (case hd => rfl); (case hg => rfl); (case hr => first | (unfold cx; go_simp; done) | (unfold cx; go_simp; rfl)); (case hp => exact (Reps.one (show Kd.M Kcx _ _ _ r [cx r.1 r.2] from rfl) (Reps.none _ _))); intro v43 w7 ho hb hg_ hnew_; clear hg_ hnew_; obtain ⟨A43, c43, rfl, hcl43, hC43⟩ := Kd.R_reads ho; have HC43 := Aside0.mk hC43; have HO1 := Aside0.mk (Kd.R_below HO.out hb); have HB1 := Aside0.mk (below_step HB.out hb); clear ho hb hC43 hcl43) | ((with_reducible refine gate_builtin (b := .append) (xs := #[.tmp 41, .tmp 43]) rfl ?_); at_builtin; refine Kd.R_append_row enc (0, 0) (h1 := enc1) (w0 := w3) w3.heap.size rfl (.tmp 41) (.tmp 43) 30 23 (.complex .f64 0 0) 16 rfl Try.underlying30 info23 rfl (by decide) (.slice (some ad1) (i + 1) c1_) out [r] A43 1 c43 (fun _ => True) rfl rfl (fun _ _ => trivial) HO1.out HC43.out HB1.out (below_size HB1.out) (by have := HOL.out; have := HN.out; have := C1.out; omega) ?_; intro v44 w8 ho hb hg hat; have HO2 := Aside0.mk ho; have HB2 := Aside0.mk hb; clear ho hb hg hat))
      go_roundg (gk - 1)
      case measure => have := HI.out; have := C1.out; omega
      case rel => exact ⟨i + 1, out ++ [r], r, congrArg _ hw1, ⟨by have := HI.out; have := C1.out; omega⟩, ⟨by simp [HOL.out]⟩, ⟨by simp⟩, HRP, ⟨by rw [← HE.out, hd.out, adds, ← hr.out]; simp⟩, HO2, HB2⟩
    · have e1 : decide (i < l.length) = false := decide_eq_false c1
      have hle : i = l.length := by have := HI.out; omega
      have hE := HE.out
      rw [hle, List.drop_length, adds, List.append_nil] at hE
      go_wp2
      go_ret2
      exact ⟨_, rfl, hE ▸ HO.out, HB.out⟩
end Go.Proofs.Ythgokeogmikgbaa.P
